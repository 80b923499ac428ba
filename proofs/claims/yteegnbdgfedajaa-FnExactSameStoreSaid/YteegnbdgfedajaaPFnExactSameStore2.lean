/- What the walk of the law FnExactSameStore needs, part 2 of 2. No condition. -/
import Derived.Deep.RegionLaw
import Derived.Laws.CopyRow
import Derived.Deep.RegionHeld3
import Derived.Laws.BytesArg
import Derived.Deep.RegionWith
import Derived.Test.YteegnbdgfedajaaPFnExactSameStore1
/- The program's key of bytes: the blocks mixed in. No condition. -/
namespace Go.Proofs.Yteegnbdgfedajaa
open Go.RowKit
set_option linter.unusedVariables false
set_option linter.unusedSimpArgs false

set_option maxHeartbeats 1000000 in
set_option maxRecDepth 100000 in
theorem mixed_any (st : List Int) (hs8 : st.length = 8) (hu : U32 st) (v : Value) (al : List Int) (m : Nat) (w : World) (S : Nat → Prop) (h : RdL tKey w S v (blocksL al m)) :
    Calls Try.prog 126 #[.agg (numsA .u32 st), v] w fun e w' => e = .returned (.agg (numsA .u32 (mixN al st m))) ∧ Ext w w' := by
  obtain ⟨A, cap, rfl, hcap, hlen, hrd, hok⟩ := h
  have HEL := Lib.hid (fun k (hk : k < (blocksL al m).length) => hrd.elem hok k hk)
  have HOK := Lib.hid hok
  have HS8 := Lib.hid hs8
  have HU := Lib.hid hu
  have hbl : (blocksL al m).length = m := by simp [blocksL]
  have HBL := Lib.hid (show ∀ k, (h : k < (blocksL al m).length) → (blocksL al m)[k] = blockL al k from fun k h => by simp [blocksL])
  have HBM := Lib.hid hbl
  rw [hbl] at hcap hlen ⊢
  clear hrd hok hs8 hu
  go_enter Try.func126, Try.ntmps126
  go_wp2_with fail
  go_loopw [9] (fun q wr => ∃ (k : Nat) (z : Array Value), k ≤ m ∧ q = .int .i64 k ∧ z.size = 8 ∧ Blk wr w.heap.size 155 (numsA .u32 (mixN al st k)) ∧ Blk wr (w.heap.size + 1) 155 z ∧ Ext w wr) (fun q _ => m - (intOf q).toNat)
  case atStart => exact ⟨0, _, by omega, rfl, rfl, by rw [mixN_zero]; exact (Blk.new w _ _).alloc _, Blk.new' (by simp) _ _, (ext_alloc _ _).alloc _⟩
  case round =>
    obtain ⟨k, z, hk, rfl, hz, hb0, hb1, hx⟩ := hrel
    have HX := Lib.hid hx
    have HB0 := Lib.hid hb0
    have HB1 := Lib.hid hb1
    clear hx hb0 hb1
    by_cases hlt : k < m
    · obtain ⟨g, o, rfl, hs, hc⟩ := HEL.out k (by rw [HBM.out]; exact hlt)
      have hK := HOK.out _ (List.getElem_mem (l := blocksL al m) (n := k) (by rw [HBM.out]; exact hlt))
      rw [HBL.out] at hc hK
      have hbl : (blockL al k).length = 32 := hK.1
      have hck : ∀ j u, (nums .u8 (blockL al k))[j]? = some u → wr.cell? ((⟨g, o + k * 32, none⟩ : Addr).add j) = some u := by
        intro j u hu
        rw [Addr.add_lit]
        exact HX.out.cell (hc j u hu)
      have HCK := Lib.hid hck
      have HK := Lib.hid (show K32 (blockL al k) from hK)
      have hs := mixN_length al st k HS8.out
      have hu := mixN_ok al st k HU.out
      have HN := Lib.hid (mixN_succ al st k)
      have lt1 := HB1.out.lt
      generalize mixN al st k = s at *
      generalize blockL al k = blk at *
      have hb0 := (HB0.out.alloc (.cells #[Value.int .u8 0, Value.int .u8 0, Value.int .u8 0, Value.int .u8 0, Value.int .u8 0, Value.int .u8 0, Value.int .u8 0, Value.int .u8 0, Value.int .u8 0, Value.int .u8 0, Value.int .u8 0, Value.int .u8 0, Value.int .u8 0, Value.int .u8 0, Value.int .u8 0, Value.int .u8 0, Value.int .u8 0, Value.int .u8 0, Value.int .u8 0, Value.int .u8 0, Value.int .u8 0, Value.int .u8 0, Value.int .u8 0, Value.int .u8 0, Value.int .u8 0, Value.int .u8 0, Value.int .u8 0, Value.int .u8 0, Value.int .u8 0, Value.int .u8 0, Value.int .u8 0, Value.int .u8 0] 39)).row_far (by omega : w.heap.size ≠ wr.heap.size) (numsA .u8 blk)
      have hb1 := (HB1.out.alloc (.cells #[Value.int .u8 0, Value.int .u8 0, Value.int .u8 0, Value.int .u8 0, Value.int .u8 0, Value.int .u8 0, Value.int .u8 0, Value.int .u8 0, Value.int .u8 0, Value.int .u8 0, Value.int .u8 0, Value.int .u8 0, Value.int .u8 0, Value.int .u8 0, Value.int .u8 0, Value.int .u8 0, Value.int .u8 0, Value.int .u8 0, Value.int .u8 0, Value.int .u8 0, Value.int .u8 0, Value.int .u8 0, Value.int .u8 0, Value.int .u8 0, Value.int .u8 0, Value.int .u8 0, Value.int .u8 0, Value.int .u8 0, Value.int .u8 0, Value.int .u8 0, Value.int .u8 0, Value.int .u8 0] 39)).row_far (by omega : w.heap.size + 1 ≠ wr.heap.size) (numsA .u8 blk)
      have hb2 := (Blk.new wr 39 #[Value.int .u8 0, Value.int .u8 0, Value.int .u8 0, Value.int .u8 0, Value.int .u8 0, Value.int .u8 0, Value.int .u8 0, Value.int .u8 0, Value.int .u8 0, Value.int .u8 0, Value.int .u8 0, Value.int .u8 0, Value.int .u8 0, Value.int .u8 0, Value.int .u8 0, Value.int .u8 0, Value.int .u8 0, Value.int .u8 0, Value.int .u8 0, Value.int .u8 0, Value.int .u8 0, Value.int .u8 0, Value.int .u8 0, Value.int .u8 0, Value.int .u8 0, Value.int .u8 0, Value.int .u8 0, Value.int .u8 0, Value.int .u8 0, Value.int .u8 0, Value.int .u8 0, Value.int .u8 0]).setRow (numsA .u8 blk)
      have hx0 := (HX.out.alloc (.cells #[Value.int .u8 0, Value.int .u8 0, Value.int .u8 0, Value.int .u8 0, Value.int .u8 0, Value.int .u8 0, Value.int .u8 0, Value.int .u8 0, Value.int .u8 0, Value.int .u8 0, Value.int .u8 0, Value.int .u8 0, Value.int .u8 0, Value.int .u8 0, Value.int .u8 0, Value.int .u8 0, Value.int .u8 0, Value.int .u8 0, Value.int .u8 0, Value.int .u8 0, Value.int .u8 0, Value.int .u8 0, Value.int .u8 0, Value.int .u8 0, Value.int .u8 0, Value.int .u8 0, Value.int .u8 0, Value.int .u8 0, Value.int .u8 0, Value.int .u8 0, Value.int .u8 0, Value.int .u8 0] 39)).setRow HX.out.size (numsA .u8 blk)
      have G0 := Lib.hid hb0
      have G1 := Lib.hid hb1
      have G2 := Lib.hid hb2
      have GX := Lib.hid hx0
      have HM := Lib.hid (fun W => mixBlock_any s blk hs hu HK.out W)
      have HSS := Lib.hid hs
      clear hc hck hK hb0 hb1 hb2 hx0 hu hs
      go_wp2_with (first
        | (refine wpl_load ⟨g, o + k * 32, none⟩ (nums .u8 blk) (by rw [nums_length, hbl]; exact aggB32) rfl _ rfl rfl HCK.out ?_)
        | (refine wpl_storeN (k := .u8) (xs := blk) (Blk.new wr _ _) aggB32 hbl rfl rfl _ _ rfl rfl rfl rfl ?_)
        | (refine wpl_loadN G0.out aggU32 HSS.out rfl _ rfl rfl ?_)
        | (refine wpl_loadN G2.out aggB32 hbl rfl _ rfl rfl ?_))
      refine (HM.out _).mono ?_
      rintro e w4 ⟨rfl, hx4⟩
      have F0 := Lib.hid (G0.out.ext hx4)
      have F1 := Lib.hid (G1.out.ext hx4)
      have FX := Lib.hid (GX.out.trans hx4)
      have hml := mixL_length s blk HSS.out
      clear hx4
      go_wp2_with (refine wpl_storeN (k := .u32) (xs := mixL s blk) F0.out aggU32 hml (by rw [numsA_size]; exact HSS.out) rfl _ _ rfl rfl rfl rfl ?_)
      go_roundw
      case rel => exact ⟨k + 1, z, by omega, by go_num, hz, by rw [HN.out]; exact F0.out.setRow _, F1.out.row_far (by omega) _, FX.out.setRow (Nat.le_refl _) _⟩
      case measure => simp [intOf]; omega
    · obtain rfl : k = m := by omega
      have hs := mixN_length al st k HS8.out
      go_wp2_with (first
        | (refine wpl_loadN HB0.out aggU32 hs rfl _ rfl rfl ?_)
        | (refine wpl_storeN HB1.out aggU32 hs hz rfl _ _ rfl rfl rfl rfl ?_))
      refine bodyPost_ret (results_blk rfl _ rfl aggU32 hs (HB1.out.setRow _)) rfl ?_
      exact ⟨rfl, HX.out.setRow (by omega) _⟩

end Go.Proofs.Yteegnbdgfedajaa
/- The program's key of bytes: the key of a state. No condition. -/
namespace Go.Proofs.Yteegnbdgfedajaa
open Go.RowKit
set_option linter.unusedVariables false
set_option linter.unusedSimpArgs false

theorem stp_copy {P : Program} {dT sT elem : TypeId} {ops : Array Oper} {o : Oper} {a : Act} {w : World} {K : Act → World → Prop} {Q : Exit → Act → World → Prop} {E : Prop} (hgd : o.guard = none) (d x : Operand)
    (hop : o.op = .call { callee := .builtin .copy, args := #[d, x], argTypes := #[dT, sT] }) (g off dLen dCap : Nat) (A : Addr) (n c : Nat) {cur : Array Value} {t : TypeId} (cs : List Value)
    (hd : a.eval d = .slice (some ⟨g, off, none⟩) dLen dCap) (hx : a.eval x = .slice (some A) n c) (hu : P.underlying dT = some (.slice elem)) (hs : (P.info? elem).map (·.size) = some 1)
    (hg : Blk w g t cur) (hn : cs.length = Nat.min n dLen) (hsrc : ∀ j v, cs[j]? = some v → w.cell? (A.add j) = some v) (hfit : off + cs.length ≤ cur.size) (h1 : ∀ v ∈ cs, v.oneCell' = true)
    (h : K (a.put o.dst (goInt cs.length)) (w.setRow g (splice cur off cs))) :
    if Region.wanted o (yielded ops a.tmps) = true then Oper.wp P o a w K Q else E := by
  have hrun := run_copy_row (P := P) w dT sT o.type elem g off dLen dCap A n c cur t cs hu hs hg hn hsrc hfit h1
  have hw : Region.wanted o (yielded ops a.tmps) = true := by simp [Region.wanted, hgd]
  rw [if_pos hw]
  unfold Oper.wp execOp
  simp only [hop, resolve, invoke, builtin, Sem.run_bind, Sem.run_pure, Result.andThen_ok, List.map_toArray, List.map_cons, List.map_nil, hd, hx, hrun]
  exact h
theorem keyL_word (s : List Int) (k : Nat) (h : k < 8) : bytesLE (gI s k) 4 = ((keyL s).drop (4 * k)).take 4 := by
  apply List.ext_getElem
  · rw [bytesLE_length, List.length_take, List.length_drop, keyL_length]; omega
  · intro j h1 h2
    rw [bytesLE_length] at h1
    have e := keyL_at s (4 * k + j) (by omega)
    rw [gI_lt (by rw [keyL_length]; omega), show (4 * k + j) / 4 = k by omega, show (4 * k + j) % 4 = j by omega] at e
    simp only [List.getElem_take, List.getElem_drop, e]
    simp only [bytesLE, List.getElem_map, List.getElem_range, pow256]
theorem keyL_splice (s : List Int) (k : Nat) (h : k < 8) : splice (numsA .u8 ((keyL s).take (4 * k) ++ List.replicate (32 - 4 * k) 0)) (4 * k) (nums .u8 (bytesLE (gI s k) 4)) = numsA .u8 ((keyL s).take (4 * (k + 1)) ++ List.replicate (32 - 4 * (k + 1)) 0) := by
  have hl := keyL_length s
  have h1 : ((keyL s).take (4 * k)).length = 4 * k := by rw [List.length_take]; omega
  have hd : ((keyL s).take (4 * k)).drop (4 * k + 4) = [] := List.drop_eq_nil_of_le (by omega)
  unfold splice numsA
  congr 1
  rw [nums_length, bytesLE_length, keyL_word s k h]
  simp only [nums, ← List.map_take, ← List.map_drop, ← List.map_append]
  congr 1
  rw [List.take_left' h1, List.drop_append, hd, List.nil_append, h1, List.drop_replicate, show 4 * (k + 1) = 4 * k + 4 by omega, List.take_add, show 32 - 4 * k - (4 * k + 4 - 4 * k) = 32 - (4 * k + 4) by omega]
set_option maxHeartbeats 1000000 in
set_option maxRecDepth 100000 in
theorem keyOf_any (s : List Int) (hs8 : s.length = 8) (hu : U32 s) (w : World) :
    Calls Try.prog 125 #[.agg (numsA .u32 s)] w fun e w' => e = .returned (.agg (numsA .u8 (keyL s))) ∧ Ext w w' := by
  have HS8 := Lib.hid hs8
  have HU := Lib.hid hu
  have hkl := keyL_length s
  have HKL := Lib.hid hkl
  clear hkl hu
  go_enter Try.func125, Try.ntmps125
  go_wp2_with (first
    | (refine wpl_storeN (k := .u8) (xs := List.replicate 32 0) (Blk.new' (g := w.heap.size + 2) (by simp) _ _) aggKey (by simp) rfl rfl _ _ rfl rfl rfl rfl ?_)
    | (refine wpl_loadN (Blk.row_far (g := w.heap.size) (((Blk.new w _ _).alloc _).alloc _) (by omega) _) aggU32 hs8 rfl _ rfl rfl ?_))
  have HB1 := Lib.hid ((((Blk.new' (g := w.heap.size + 1) (by simp) 40 #[Value.int .u8 0, Value.int .u8 0, Value.int .u8 0, Value.int .u8 0, Value.int .u8 0, Value.int .u8 0, Value.int .u8 0, Value.int .u8 0, Value.int .u8 0, Value.int .u8 0, Value.int .u8 0, Value.int .u8 0, Value.int .u8 0, Value.int .u8 0, Value.int .u8 0, Value.int .u8 0, Value.int .u8 0, Value.int .u8 0, Value.int .u8 0, Value.int .u8 0, Value.int .u8 0, Value.int .u8 0, Value.int .u8 0, Value.int .u8 0, Value.int .u8 0, Value.int .u8 0, Value.int .u8 0, Value.int .u8 0, Value.int .u8 0, Value.int .u8 0, Value.int .u8 0, Value.int .u8 0] : Blk ((w.alloc (.cells (numsA .u32 s) 155)).alloc _) _ _ _).alloc (.cells #[Value.int .u8 0, Value.int .u8 0, Value.int .u8 0, Value.int .u8 0, Value.int .u8 0, Value.int .u8 0, Value.int .u8 0, Value.int .u8 0, Value.int .u8 0, Value.int .u8 0, Value.int .u8 0, Value.int .u8 0, Value.int .u8 0, Value.int .u8 0, Value.int .u8 0, Value.int .u8 0, Value.int .u8 0, Value.int .u8 0, Value.int .u8 0, Value.int .u8 0, Value.int .u8 0, Value.int .u8 0, Value.int .u8 0, Value.int .u8 0, Value.int .u8 0, Value.int .u8 0, Value.int .u8 0, Value.int .u8 0, Value.int .u8 0, Value.int .u8 0, Value.int .u8 0, Value.int .u8 0] 40))).row_far (by omega : w.heap.size + 1 ≠ w.heap.size + 2) (numsA .u8 (List.replicate 32 0)))
  go_loopw [8] (fun q wr => ∃ (k : Nat) (z : Array Value), k ≤ 8 ∧ q = .int .i64 k ∧ z.size = 32 ∧ Blk wr (w.heap.size + 1) 40 z ∧ Blk wr (w.heap.size + 2) 40 (numsA .u8 ((keyL s).take (4 * k) ++ List.replicate (32 - 4 * k) 0)) ∧ Ext w wr) (fun q _ => 8 - (intOf q).toNat)
  case atStart => exact ⟨0, _, by omega, rfl, rfl, HB1.out, by rw [Nat.mul_zero, List.take_zero, List.nil_append, Nat.sub_zero]; exact (Blk.new' (by simp) _ _).setRow _, (((ext_alloc _ _).alloc _).alloc _).setRow (by omega) _⟩
  case round =>
    clear HB1
    obtain ⟨k, z, hk, rfl, hz, hb1, hb2, hx⟩ := hrel
    have HX := Lib.hid hx
    have HB1 := Lib.hid hb1
    have HB2 := Lib.hid hb2
    clear hx hb1 hb2
    by_cases hlt : k < 8
    · have hat := numsA_at .u32 s k (by rw [hs8]; exact hlt)
      have hu := HU.out.get k
      have hz0 : (0 : Int) ≤ (k : Int) := by omega
      have hk8 : (k : Int) < 8 := by omega
      have hidx : (Instr.index 155 (.agg (numsA .u32 s)) (.int .i64 k)).run Try.prog wr = .ok (.int .u32 (gI s k)) wr := by
        have h1 : (isAgg 154).run Try.prog wr = .ok false wr := by kernel_rfl
        have h2 : (sizeOf 154).run Try.prog wr = .ok 1 wr := by kernel_rfl
        simp [Instr.index, asIntOf, run_underlying (show Try.prog.underlying 155 = some (.array 8 154) by kernel_rfl), hk8, hlt, part, h1, h2, hat]
      have HSP := Lib.hid (keyL_splice s k hlt)
      have hcur : (numsA .u8 ((keyL s).take (4 * k) ++ List.replicate (32 - 4 * k) 0)).size = 32 := by
        rw [numsA_size, List.length_append, List.length_replicate, List.length_take, HKL.out]; omega
      generalize numsA .u8 ((keyL s).take (4 * k) ++ List.replicate (32 - 4 * k) 0) = cur at *
      have hbl := bytesLE_length (gI s k) 4
      have hal : ∀ W, Calls Try.prog 80 #[.slice none 0 0, .int .u64 (gI s k), .int .i64 4] W fun e w' => ∃ v', e = .returned v' ∧ Own tByte 5 w' W.heap.size v' (bytesLE (gI s k) 4) ∧ Ext W w' := by
        intro W
        have := appendLittle_any (.slice none 0 0) [] (gI s k) 4 W W (Own.nil _ _ _ _) (Ext.refl _) (by omega) (by decide) (by simp)
        rw [List.nil_append] at this
        exact this
      generalize bytesLE (gI s k) 4 = bs at *
      have HAL := Lib.hid hal
      have W1 : IntKind.i64.wrap (4 * (k : Int)) = 4 * k := IntWalk.i64_in _ (by omega)
      have W2 : (4 * (k : Int)).toNat = 4 * k := by omega
      have W3 : ¬ 32 = 4 * k := by omega
      have W6 : IntKind.u64.wrap (gI s k) = gI s k := wraps_u64 _ (by omega) (by omega)
      have W4 : (0 : Int) ≤ 4 * k := by omega
      have W5 : 4 * (k : Int) ≤ 32 := by omega
      have HBL := Lib.hid hbl
      clear hal hbl
      have r1 := (Ext.refl wr).drew
      go_wp2_with fail
      go_region_law (first
        | (go_simp; go_at_call 80; refine (HAL.out _).mono ?_; rintro e p1 ⟨v1, rfl, ho1, hx1⟩; obtain ⟨g1, bc1, rfl, hb1, hlt1, hcc1, hf1, hs1⟩ := ho1.byte 0 (by rw [HBL.out]; decide); clear hcc1 hf1 hs1; have HCL := Lib.hid (fun j v (hj : (nums .u8 bs)[j]? = some v) => ho1.1.cells (g := g1) rfl j v (by rw [flat_bytes]; exact hj)); have HX1 := Lib.hid hx1; clear ho1 hx1)
        | (refine stp_copy (dT := 22) (sT := 22) (elem := 5) rfl (.tmp 14) (.tmp 17) rfl (w.heap.size + 1 + 1) (4 * k) (32 - 4 * k) (32 - 4 * k) ⟨g1, 0, none⟩ bs.length bc1 (cur := cur) (t := 40) (nums .u8 bs) rfl rfl rowByte.ht (by kernel_rfl) ((HB2.out.drewN 1).ext HX1.out) (by rw [nums_length, HBL.out]; exact (Nat.min_eq_left (by omega)).symm) HCL.out (by rw [nums_length, HBL.out, hcur]; omega) (one_nums _ _) ?_))
      all_goals
        (try simp only [Act.put, List.setIfInBounds_toArray, List.set_cons_zero, List.set_cons_succ, List.getElem_cons_zero, List.getElem_cons_succ, List.getElem_toArray])
        go_wp2_with fail
        go_roundw
        case rel => exact ⟨k + 1, z, by omega, by go_num, hz, ((HB1.out.drewN 1).ext HX1.out).row_far (by omega) _, by rw [← HSP.out]; exact ((HB2.out.drewN 1).ext HX1.out).setRow _, ((HX.out.drew).trans HX1.out).setRow (by omega) _⟩
        case measure => simp [intOf]; omega
    · obtain rfl : k = 8 := by omega
      have hb := HB2.out
      rw [Nat.sub_self, List.replicate_zero, List.append_nil, List.take_of_length_le (by rw [HKL.out]; decide)] at hb
      have HB3 := Lib.hid hb
      clear hb
      go_wp2_with (first
        | (refine wpl_loadN HB3.out aggKey HKL.out rfl _ rfl rfl ?_)
        | (refine wpl_storeN HB1.out aggKey HKL.out hz rfl _ _ rfl rfl rfl rfl ?_))
      refine bodyPost_ret (results_blk rfl _ rfl aggKey HKL.out (HB1.out.setRow _)) rfl ?_
      exact ⟨rfl, HX.out.setRow (by omega) _⟩

end Go.Proofs.Yteegnbdgfedajaa
/- The program's key of bytes. No condition. -/
namespace Go.Proofs.Yteegnbdgfedajaa
open Go.RowKit
set_option linter.unusedVariables false
set_option linter.unusedSimpArgs false

set_option maxHeartbeats 1000000 in
set_option maxRecDepth 100000 in
theorem hash_any (tag : Int) (ht : 0 ≤ tag ∧ tag ≤ 255) (v : Value) (xs : List Int) (w : World) (S : Nat → Prop) (h : RdL tByte w S v xs) (hl : xs.length ≤ 140737488000) :
    Calls Try.prog 114 #[.int .u8 tag, v] w fun e w' => e = .returned (.agg (numsA .u8 (hashL tag xs))) ∧ Ext w w' := by
  have H := Lib.hid h
  obtain ⟨A, cap, rfl, hcap, hlen, hz1, hz2⟩ := h
  clear hz1 hz2
  go_enter Try.func114, Try.ntmps114
  go_wp2_with fail
  refine (sizeB_any _ _ _ _).mono ?_
  rintro e w' ⟨rfl, rfl⟩
  go_wp2_with fail
  refine (padding_any xs.length (by omega) _).mono ?_
  rintro e w1 ⟨v1, rfl, ho1, hx1⟩
  have HO1 := Lib.hid ho1
  have HX1 := Lib.hid hx1
  obtain ⟨B1, bn1, bc1, rfl⟩ := ho1.shape3
  clear ho1 hx1
  go_wp2_with fail
  have hcc := concat2_any w1.heap.size 0 _ _ xs (padL xs.length xs.length) (w1.alloc (.cells #[.slice A xs.length cap, .slice B1 bn1 bc1] 22)) S _ (H.out.ext (by decide) (((ext_alloc w _).trans HX1.out).alloc _)) (HO1.out.alloc _).rd (by rw [padL_length]; omega) (by rw [padL_length, padZ_eq]; omega) (by go_simp) (by go_simp)
  refine hcc.mono ?_
  clear hcc
  rintro e w2 ⟨v2, rfl, ho2, hx2⟩
  have HO2 := Lib.hid ho2
  have HX2 := Lib.hid (((ext_alloc w (.cells _ 40)).trans (HX1.out.alloc _)).trans hx2)
  have HB2 := Lib.hid (((Blk.new w 40 _).ext (HX1.out.alloc _)).ext hx2)
  obtain ⟨B2, bn2, bc2, rfl⟩ := ho2.shape3
  clear ho2 hx2 HX1 HO1
  have hlen2 : (xs ++ padL xs.length xs.length).length = xs.length + padZ xs.length + 9 := by rw [List.length_append, padL_length]; omega
  have hpz : padZ xs.length ≤ 31 := by rw [padZ_eq]; omega
  have hm0 := padded_mod xs.length
  have HE := Lib.hid (show hashL tag xs = keyL (mixN (xs ++ padL xs.length xs.length) (startL tag) ((xs.length + padZ xs.length + 9) / 32)) by rw [hashL, endL])
  obtain ⟨m, hm⟩ : ∃ m, xs.length + padZ xs.length + 9 = 32 * m := ⟨(xs.length + padZ xs.length + 9) / 32, by omega⟩
  rw [show (xs.length + padZ xs.length + 9) / 32 = m by omega] at HE
  have hal : (xs ++ padL xs.length xs.length).length = 32 * m := by omega
  have hal2 : (xs ++ padL xs.length xs.length).length ≤ 140737488355 := by omega
  clear hlen2 hpz hm0 hm
  generalize xs ++ padL xs.length xs.length = al at *
  go_wp2_with fail
  refine (blocks_any _ al m w2 _ HO2.out.rd hal hal2).mono ?_
  rintro e w3 ⟨v3, u3, rfl, ho3, hx3⟩
  have HO3 := Lib.hid ho3
  have HX3 := Lib.hid (HX2.out.trans hx3)
  have HB3 := Lib.hid (HB2.out.ext hx3)
  clear ho3 hx3 HX2 HB2 HO2
  go_wp2_with fail
  refine (startState_any tag ht _).mono ?_
  rintro e w4 ⟨rfl, hx4⟩
  have HX4 := Lib.hid (HX3.out.trans hx4)
  have HB4 := Lib.hid (HB3.out.ext hx4)
  have HO4 := Lib.hid (HO3.out.ext hx4)
  clear hx4 HX3 HB3 HO3
  go_wp2_with fail
  refine (mixed_any (startL tag) (startL_length tag) (startL_ok tag ht) v3 al m w4 _ HO4.out.rd).mono ?_
  rintro e w5 ⟨rfl, hx5⟩
  have HX5 := Lib.hid (HX4.out.trans hx5)
  have HB5 := Lib.hid (HB4.out.ext hx5)
  clear hx5 HX4 HB4 HO4
  go_wp2_with fail
  refine (keyOf_any (mixN al (startL tag) m) (mixN_length _ _ _ (startL_length tag)) (mixN_ok _ _ _ (startL_ok tag ht)) w5).mono ?_
  rintro e w6 ⟨rfl, hx6⟩
  have HX6 := Lib.hid (HX5.out.trans hx6)
  have HB6 := Lib.hid (HB5.out.ext hx6)
  clear hx6 HX5 HB5
  have hk := (hashL_ok tag xs).1
  rw [← HE.out]
  go_wp2_with (refine wpl_storeN HB6.out aggKey hk rfl rfl _ _ rfl rfl rfl rfl ?_)
  refine bodyPost_ret (results_blk rfl _ rfl aggKey hk (HB6.out.setRow _)) rfl ?_
  exact ⟨rfl, HX6.out.setRow (Nat.le_refl _) _⟩

end Go.Proofs.Yteegnbdgfedajaa
/- The statements' mixing of a block into a state. No condition. -/
namespace Go.Proofs.Yteegnbdgfedajaa
open Go.RowKit
set_option linter.unusedVariables false
set_option linter.unusedSimpArgs false

set_option maxHeartbeats 8000000 in
set_option maxRecDepth 100000 in
theorem l01Mix_any (st b : List Int) (hs : st.length = 8) (hu : U32 st) (hk : K32 b) (w : World) : Calls Try.prog 130 #[.agg (numsA .u32 st), .agg (numsA .u8 b)] w fun e w' => e = .returned (.agg (numsA .u32 (mixL st b))) ∧ Ext w w' := by
  have HU := Lib.hid hu
  have HK := Lib.hid hk
  have HS := Lib.hid hs
  clear hu hk hs
  go_enter Try.func130, Try.ntmps130
  go_wp2_with fail
  go_loopw [6] (fun i wr => ∃ (k : Nat) (z : Array Value), k ≤ 8 ∧ i = .int .i64 k ∧ z.size = 8 ∧ Blk wr w.heap.size 155 (numsA .u32 st) ∧ Blk wr (w.heap.size + 1) 39 (numsA .u8 b) ∧ Blk wr (w.heap.size + 2) 155 z ∧ Blk wr (w.heap.size + 3) 155 (numsA .u32 ((List.range k).map (word b) ++ List.replicate (8 - k) 0)) ∧ Ext w wr) (fun i _ => 8 - (intOf i).toNat)
  case atStart => exact ⟨0, _, by omega, rfl, rfl, ((((Blk.new _ _ _).alloc _).alloc _).alloc _), ((Blk.new' (by simp) _ _).alloc _).alloc _, (Blk.new' (by simp) _ _).alloc _, Blk.new' (by simp) _ _, (((ext_alloc _ _).alloc _).alloc _).alloc _⟩
  case round =>
    obtain ⟨k, z, hk, rfl, hz, hb1, hb2, hb3, hb4, hx⟩ := hrel
    have HX := Lib.hid hx
    have HB1 := Lib.hid hb1
    have HB2 := Lib.hid hb2
    have HB3 := Lib.hid hb3
    have HB4 := Lib.hid hb4
    clear hx hb1 hb2 hb3 hb4
    by_cases hlt : k < 8
    · obtain ⟨M, hM⟩ : ∃ M, M = (List.range k).map (word b) ++ List.replicate (8 - k) 0 := ⟨_, rfl⟩
      have hMl : M.length = 8 := by rw [hM]; simp; omega
      have hMk : gI M k = 0 := by rw [hM]; unfold gI; rw [List.getD_eq_getElem?_getD, List.getElem?_append_right (by simp)]; rw [List.getElem?_replicate, if_pos (by simp; omega)]; rfl
      rw [← hM] at HB4
      have HM := Lib.hid hM
      clear hM
      go_wp2_with fail
      go_loopw [7] (fun i wq => ∃ j : Nat, j ≤ 4 ∧ i = .int .i64 (3 - (j : Int)) ∧ Blk wq w.heap.size 155 (numsA .u32 st) ∧ Blk wq (w.heap.size + 1) 39 (numsA .u8 b) ∧ Blk wq (w.heap.size + 2) 155 z ∧ Blk wq (w.heap.size + 3) 155 (numsA .u32 (M.set k (littleN ((b.drop (4 * k + (4 - j))).take j)))) ∧ Ext w wq) (fun i _ => (intOf i + 1).toNat)
      case atStart => exact ⟨0, by omega, by go_num, HB1.out, HB2.out, HB3.out, by
        have h0 : M.set k (littleN ((b.drop (4 * k + (4 - 0))).take 0)) = M := by
          have := set_same M k (by omega)
          rwa [hMk] at this
        rw [h0]; exact HB4.out, HX.out⟩
      case round =>
        obtain ⟨j, hj, rfl, hb1, hb2, hb3, hb4, hx⟩ := hrel
        clear HX HB1 HB2 HB3 HB4
        have HX := Lib.hid hx
        have HB1 := Lib.hid hb1
        have HB2 := Lib.hid hb2
        have HB3 := Lib.hid hb3
        have HB4 := Lib.hid hb4
        clear hx hb1 hb2 hb3 hb4
        by_cases hl4 : j < 4
        · have hc := HB4.out.num k (by simp; omega)
          rw [gI_set _ _ _ _ (by omega), if_pos rfl] at hc
          have hX := littleN_bound ((b.drop (4 * k + (4 - j))).take j) ((HK.out.2.drop _).take _)
          have hXl : ((b.drop (4 * k + (4 - j))).take j).length = j := by simp [HK.out.1]; omega
          have hp : (256 : Int) ^ j ≤ 16777216 := by
            rcases (show j = 0 ∨ j = 1 ∨ j = 2 ∨ j = 3 by omega) with rfl | rfl | rfl | rfl <;> decide
          rw [hXl] at hX
          have hstep : littleN ((b.drop (4 * k + (4 - (j + 1)))).take (j + 1)) = gI b (4 * k + (3 - j)) + 256 * littleN ((b.drop (4 * k + (4 - j))).take j) := by
            have h1 : 4 * k + (3 - j) < b.length := by rw [HK.out.1]; omega
            rw [show 4 * k + (4 - (j + 1)) = 4 * k + (3 - j) by omega, List.drop_eq_getElem_cons h1, List.take_succ_cons, show 4 * k + (3 - j) + 1 = 4 * k + (4 - j) by omega, gI_lt h1]
            rfl
          have hy := B8.get HK.out.2 (4 * k + (3 - j))
          have hd := HB2.out.num (4 * k + (3 - j)) (by rw [HK.out.1]; omega)
          have hor : bits .or .u32 (littleN ((b.drop (4 * k + (4 - j))).take j) * 256) (gI b (4 * k + (3 - j))) = gI b (4 * k + (3 - j)) + 256 * littleN ((b.drop (4 * k + (4 - j))).take j) := by
            have := bits_join .u32 32 (by decide) wraps_u32 8 (littleN ((b.drop (4 * k + (4 - j))).take j) * 256) (gI b (4 * k + (3 - j))) (by omega) (Int.mul_emod_left _ _) (by omega) (by omega) (by omega) (by omega)
            omega
          rw [← hstep] at hor
          generalize gI b (4 * k + (3 - j)) = Y at hd hy hor
          generalize littleN ((b.drop (4 * k + (4 - j))).take j) = X at hc hX hor HB4
          clear hstep hXl
          have hX0 : 0 ≤ X := hX.1
          have hX1 : X ≤ 16777215 := by omega
          clear hX hp
          have HOR := Lib.hid hor
          clear hor
          have hf := HB4.out.free k
          generalize hq : 4 * k + (3 - j) = q at hd
          have hq1 : 4 * (k : Int) + (3 - (j : Int)) = (q : Int) := by omega
          have hq2 : (q : Int) < 32 := by omega
          have HQ := Lib.hid hq
          clear hq
          go_wp2_with fail
          go_region
          go_wp2_with fail
          go_roundw
          case rel =>
            have h4 := HB4.out.set k (.int .u32 (bits .or .u32 (X * 256) Y))
            rw [numsA_set, HOR.out, List.set_set] at h4
            rw [HOR.out]
            exact ⟨j + 1, by omega, by go_num, (HB1.out.far (by simp; omega) _).drewN 1, (HB2.out.far (by simp) _).drewN 1, (HB3.out.far (by simp) _).drewN 1, h4.drewN 1, (HX.out.set (by simp; omega) _).drew⟩
          case measure => simp [intOf]; omega
        · go_wp2_with fail
          go_roundw
          case rel =>
            obtain rfl : j = 4 := by omega
            have h4 := HB4.out
            rw [HM.out, show 4 * k + (4 - 4) = 4 * k by omega] at h4
            have := mapRange_set (word b) 8 k hlt
            unfold word at this h4
            rw [this] at h4
            exact ⟨k + 1, z, by omega, by go_num, hz, HB1.out, HB2.out, HB3.out, h4, HX.out⟩
          case measure => simp [intOf]; omega
    · obtain rfl : k = 8 := by omega
      go_wp2_with (first
        | (refine wpl_loadN HB1.out aggU32 HS.out rfl _ rfl rfl ?_)
        | (refine wpl_storeN (Blk.new wr _ _) aggU32 HS.out rfl rfl _ _ rfl rfl rfl rfl ?_))
      have h4 := HB4.out
      rw [Nat.sub_self, List.replicate_zero, List.append_nil, ← words_eq] at h4
      have h5 : Blk _ wr.heap.size 155 (numsA .u32 st) := (Blk.new wr 155 #[Value.int IntKind.u32 0, Value.int IntKind.u32 0, Value.int IntKind.u32 0, Value.int IntKind.u32 0, Value.int IntKind.u32 0, Value.int IntKind.u32 0, Value.int IntKind.u32 0, Value.int IntKind.u32 0]).setRow (numsA .u32 st)
      have lt4 := h4.lt
      have n1 : w.heap.size ≠ wr.heap.size := by omega
      have n3 : w.heap.size + 2 ≠ wr.heap.size := by omega
      have n4 : w.heap.size + 3 ≠ wr.heap.size := by omega
      have hgs : w.heap.size + 4 ≤ wr.heap.size := by omega
      have hx0 := (HX.out.alloc (.cells #[Value.int IntKind.u32 0, Value.int IntKind.u32 0, Value.int IntKind.u32 0, Value.int IntKind.u32 0, Value.int IntKind.u32 0, Value.int IntKind.u32 0, Value.int IntKind.u32 0, Value.int IntKind.u32 0] 155)).setRow HX.out.size (numsA .u32 st)
      have hb1 := (HB1.out.alloc (.cells #[Value.int IntKind.u32 0, Value.int IntKind.u32 0, Value.int IntKind.u32 0, Value.int IntKind.u32 0, Value.int IntKind.u32 0, Value.int IntKind.u32 0, Value.int IntKind.u32 0, Value.int IntKind.u32 0] 155)).row_far n1 (numsA .u32 st)
      have hb3 := (HB3.out.alloc (.cells #[Value.int IntKind.u32 0, Value.int IntKind.u32 0, Value.int IntKind.u32 0, Value.int IntKind.u32 0, Value.int IntKind.u32 0, Value.int IntKind.u32 0, Value.int IntKind.u32 0, Value.int IntKind.u32 0] 155)).row_far n3 (numsA .u32 st)
      have hb4 := (h4.alloc (.cells #[Value.int IntKind.u32 0, Value.int IntKind.u32 0, Value.int IntKind.u32 0, Value.int IntKind.u32 0, Value.int IntKind.u32 0, Value.int IntKind.u32 0, Value.int IntKind.u32 0, Value.int IntKind.u32 0] 155)).row_far n4 (numsA .u32 st)
      clear h4 lt4 HB1 HB2 HB3 HB4 HX n1 n3 n4
      generalize wr.heap.size = gs at *
      have HW := Lib.hid (words_eq b)
      go_loopw [9] (fun i wq => ∃ r : Nat, r ≤ 12 ∧ i = .int .i64 r ∧ Blk wq w.heap.size 155 (numsA .u32 st) ∧ Blk wq (w.heap.size + 2) 155 z ∧ Blk wq (w.heap.size + 3) 155 (numsA .u32 (words b)) ∧ Blk wq gs 155 (numsA .u32 (mixOut (words b) r st)) ∧ Ext w wq) (fun i _ => 12 - (intOf i).toNat)
      case atStart => exact ⟨0, by omega, rfl, hb1, hb3, hb4, by rw [mixOut_zero]; exact h5, hx0⟩
      case round =>
        clear hx0 hb1 hb3 hb4 h5
        obtain ⟨r, hr, rfl, hb1, hb3, hb4, hb5, hx⟩ := hrel
        have HX := Lib.hid hx
        have HB1 := Lib.hid hb1
        have HB3 := Lib.hid hb3
        have HB4 := Lib.hid hb4
        have HB5 := Lib.hid hb5
        clear hx hb1 hb3 hb4 hb5
        by_cases hlr : r < 12
        · go_wp2_with fail
          have hd12 : decide ((r : Int) < 12) = true := by simp; omega
          simp only [hd12]
          go_loopw [10] (fun i wq => ∃ k : Nat, k ≤ 8 ∧ i = .int .i64 k ∧ Blk wq w.heap.size 155 (numsA .u32 st) ∧ Blk wq (w.heap.size + 2) 155 z ∧ Blk wq (w.heap.size + 3) 155 (numsA .u32 (words b)) ∧ Blk wq gs 155 (numsA .u32 (mixIn (words b) r k (mixOut (words b) r st))) ∧ Ext w wq) (fun i _ => 8 - (intOf i).toNat)
          case atStart => exact ⟨0, by omega, rfl, HB1.out, HB3.out, HB4.out, by rw [mixIn_zero]; exact HB5.out, HX.out⟩
          case round =>
            clear HX HB1 HB3 HB4 HB5
            obtain ⟨k, hk, rfl, hb1, hb3, hb4, hb5, hx⟩ := hrel
            have HX := Lib.hid hx
            have HB1 := Lib.hid hb1
            have HB3 := Lib.hid hb3
            have HB4 := Lib.hid hb4
            have HB5 := Lib.hid hb5
            clear hx hb1 hb3 hb4 hb5
            by_cases hlk : k < 8
            · have hl := (mixIn_length (words b) r k (mixOut (words b) r st)).trans ((mixOut_length (words b) r st).trans HS.out)
              have hu := mixIn_ok (words b) r k _ (mixOut_ok (words b) r st HU.out)
              have HE := Lib.hid (mixIn_succ (words b) r k (mixOut (words b) r st))
              generalize mixIn (words b) r k (mixOut (words b) r st) = s at *
              have p1 : (k + 3 * r) % 8 < 8 := Nat.mod_lt _ (by decide)
              have p2 : (k + 1) % 8 < 8 := Nat.mod_lt _ (by decide)
              have p3 : (k + 5) % 8 < 8 := Nat.mod_lt _ (by decide)
              have c0 := HB5.out.num k (by omega)
              have c1 := HB4.out.num ((k + 3 * r) % 8) (by rw [words_length]; omega)
              have c2 := HB5.out.num ((k + 1) % 8) (by omega)
              have c3 := HB5.out.num ((k + 5) % 8) (by omega)
              have hf := HB5.out.free k
              have u0 := hu.get k
              have u2 := hu.get ((k + 1) % 8)
              have u3 := hu.get ((k + 5) % 8)
              have q1 : ((k : Int) + 3 * r) % 8 = (((k + 3 * r) % 8 : Nat) : Int) := by omega
              have q2 : ((k : Int) + 1) % 8 = (((k + 1) % 8 : Nat) : Int) := by omega
              have q3 : ((k : Int) + 5) % 8 = (((k + 5) % 8 : Nat) : Int) := by omega
              generalize hj1 : (k + 3 * r) % 8 = j1 at *
              generalize hj2 : (k + 1) % 8 = j2 at *
              generalize hj3 : (k + 5) % 8 = j3 at *
              have J1 := Lib.hid hj1
              have J2 := Lib.hid hj2
              have J3 := Lib.hid hj3
              clear hj1 hj2 hj3 hu
              go_wp2_with fail
              go_quiet (fail)
              replace c0 := (show (wr.drewN nq).cell? _ = _ from c0)
              replace c2 := (show (wr.drewN nq).cell? _ = _ from c2)
              replace c3 := (show (wr.drewN nq).cell? _ = _ from c3)
              replace hf := (show (wr.drewN nq).frozen? _ = _ from hf)
              replace HX := Lib.hid (HX.out.drewN nq)
              replace HB1 := Lib.hid (HB1.out.drewN nq)
              replace HB3 := Lib.hid (HB3.out.drewN nq)
              replace HB4 := Lib.hid (HB4.out.drewN nq)
              replace HB5 := Lib.hid (HB5.out.drewN nq)
              clear c1
              generalize wr.drewN nq = wx at *
              go_wp2_with fail
              go_quiet ((go_at_call 134; exact Calls.quiet_of ((l01Turn_7 _ _).mono fun e w' ⟨he, hw⟩ => ⟨he, 0, hw.symm⟩)))
              go_wp2_with (go_at_call 134; refine (l01Turn_13 _ _).mono ?_; rintro e w' ⟨rfl, rfl⟩)
              go_roundw
              case rel =>
                have h5 := (HB5.out.drewN nq).set k (.int .u32 ((bits .xor .u32 (turn7 ((gI s k + gI (words b) j1 + 2654435769 * (8 * (r : Int) + (k : Int) + 1)) % 4294967296)) (gI s j2) + turn13 (gI s j3)) % 4294967296))
                rw [numsA_set] at h5
                have he := HE.out
                unfold mixStep at he
                rw [J1.out, J2.out, J3.out] at he
                rw [← he] at h5
                exact ⟨k + 1, by omega, by go_num, (HB1.out.drewN _).far (by simp; omega) _, (HB3.out.drewN _).far (by simp; omega) _, (HB4.out.drewN _).far (by simp; omega) _, h5, (HX.out.drewN _).set (by simp; omega) _⟩
              case measure => simp [intOf]; omega
            · obtain rfl : k = 8 := by omega
              go_wp2_with fail
              go_roundw
              case rel => exact ⟨r + 1, by omega, by go_num, HB1.out, HB3.out, HB4.out, by rw [mixOut_succ]; exact HB5.out, HX.out⟩
              case measure => simp [intOf]; omega
        · obtain rfl : r = 12 := by omega
          go_wp2_with fail
          have HL := Lib.hid ((mixOut_length (words b) 12 st).trans HS.out)
          have HE := Lib.hid (show mixL st b = xorIn st 8 (mixOut (words b) 12 st) by rw [mixL])
          generalize mixOut (words b) 12 st = s at *
          go_loopw [13] (fun i wq => ∃ k : Nat, k ≤ 8 ∧ i = .int .i64 k ∧ Blk wq w.heap.size 155 (numsA .u32 st) ∧ Blk wq (w.heap.size + 2) 155 z ∧ Blk wq gs 155 (numsA .u32 (xorIn st k s)) ∧ Ext w wq) (fun i _ => 8 - (intOf i).toNat)
          case atStart => exact ⟨0, by omega, rfl, HB1.out, HB3.out, by rw [xorIn_zero]; exact HB5.out, HX.out⟩
          case round =>
            clear HX HB1 HB3 HB4 HB5
            obtain ⟨k, hk, rfl, hb1, hb3, hb5, hx⟩ := hrel
            have HX := Lib.hid hx
            have HB1 := Lib.hid hb1
            have HB3 := Lib.hid hb3
            have HB5 := Lib.hid hb5
            clear hx hb1 hb3 hb5
            have hl := (xorIn_length st k s).trans HL.out
            by_cases hlk : k < 8
            · have c0 := HB5.out.num k (by omega)
              have c1 := HB1.out.num k (by rw [HS.out]; omega)
              have hf := HB5.out.free k
              have HE2 := Lib.hid (xorIn_succ st k s)
              generalize xorIn st k s = s1 at *
              go_wp2_with fail
              go_region
              go_wp2_with fail
              go_roundw
              case rel =>
                have h5 := HB5.out.set k (.int .u32 (bits .xor .u32 (gI s1 k) (gI st k)))
                rw [numsA_set, ← HE2.out] at h5
                exact ⟨k + 1, by omega, by go_num, (HB1.out.far (by simp; omega) _).drewN 1, (HB3.out.far (by simp; omega) _).drewN 1, h5.drewN 1, (HX.out.set (by simp; omega) _).drew⟩
              case measure => simp [intOf]; omega
            · obtain rfl : k = 8 := by omega
              rw [← HE.out] at HB5 hl
              go_wp2_with (first
                | (refine wpl_loadN HB5.out aggU32 hl rfl _ rfl rfl ?_)
                | (refine wpl_storeN HB3.out aggU32 hl hz rfl _ _ rfl rfl rfl rfl ?_))
              refine bodyPost_ret (results_blk rfl _ rfl aggU32 hl (HB3.out.setRow _)) rfl ?_
              exact ⟨rfl, HX.out.setRow (by omega) _⟩

end Go.Proofs.Yteegnbdgfedajaa
/- The statements' key of bytes: the end. No condition. -/
namespace Go.Proofs.Yteegnbdgfedajaa
open Go.RowKit
set_option linter.unusedVariables false
set_option linter.unusedSimpArgs false

theorem len8 {s : List Int} (h : s.length = 8) : ∃ a0 a1 a2 a3 a4 a5 a6 a7, s = [a0, a1, a2, a3, a4, a5, a6, a7] := by
  match s, h with
  | [a0, a1, a2, a3, a4, a5, a6, a7], _ => exact ⟨a0, a1, a2, a3, a4, a5, a6, a7, rfl⟩

/-- eight words written into a block -/
def put8 (w : World) (g : Nat) (c0 c1 c2 c3 c4 c5 c6 c7 : Int) : World := ((((((((w.setCell ⟨g, 0, none⟩ (.int .u32 c0)).setCell ⟨g, 1, none⟩ (.int .u32 c1)).setCell ⟨g, 2, none⟩ (.int .u32 c2)).setCell ⟨g, 3, none⟩ (.int .u32 c3)).setCell ⟨g, 4, none⟩ (.int .u32 c4)).setCell ⟨g, 5, none⟩ (.int .u32 c5)).setCell ⟨g, 6, none⟩ (.int .u32 c6)).setCell ⟨g, 7, none⟩ (.int .u32 c7))
section
variable {w : World} {g : Nat} {c0 c1 c2 c3 c4 c5 c6 c7 : Int}
theorem put8_blk {t : TypeId} {a0 a1 a2 a3 a4 a5 a6 a7 : Int} (h : Blk w g t (numsA .u32 [a0, a1, a2, a3, a4, a5, a6, a7])) : Blk (put8 w g c0 c1 c2 c3 c4 c5 c6 c7) g t (numsA .u32 [c0, c1, c2, c3, c4, c5, c6, c7]) := by
  have := ((((((((h.set 0 (.int .u32 c0)).set 1 (.int .u32 c1)).set 2 (.int .u32 c2)).set 3 (.int .u32 c3)).set 4 (.int .u32 c4)).set 5 (.int .u32 c5)).set 6 (.int .u32 c6)).set 7 (.int .u32 c7))
  simp only [numsA_set, List.set_cons_zero, List.set_cons_succ] at this
  exact this
theorem put8_far {t g' : Nat} {cs : Array Value} (h : Blk w g' t cs) (hg : g' ≠ g) : Blk (put8 w g c0 c1 c2 c3 c4 c5 c6 c7) g' t cs := ((((((((h.far hg _).far hg _).far hg _).far hg _).far hg _).far hg _).far hg _).far hg _)
theorem put8_own {α : Type} {T : Ty α} {e : TypeId} {base : Nat} {v : Value} {xs : List α} (h : Own T e w base v xs) (hg : g < base) : Own T e (put8 w g c0 c1 c2 c3 c4 c5 c6 c7) base v xs := ((((((((h.set_below hg _).set_below hg _).set_below hg _).set_below hg _).set_below hg _).set_below hg _).set_below hg _).set_below hg _)
theorem put8_ext {a : World} (h : Ext a w) (hg : a.heap.size ≤ g) : Ext a (put8 w g c0 c1 c2 c3 c4 c5 c6 c7) := ((((((((h.set hg _).set hg _).set hg _).set hg _).set hg _).set hg _).set hg _).set hg _)
end

set_option maxHeartbeats 4000000 in
set_option maxRecDepth 100000 in
theorem l01End_any (st : List Int) (hs8 : st.length = 8) (hu : U32 st) (v : Value) (xs : List Int) (w : World) (S : Nat → Prop) (h : RdL tByte w S v xs) (hl : xs.length ≤ 70368744177664) (len : Int) (h0 : 0 ≤ len) (h1 : len ≤ 9223372036854775807) :
    Calls Try.prog 118 #[.agg (numsA .u32 st), v, .int .i64 len] w fun e w' => e = .returned (.agg (numsA .u8 (endL st xs len))) ∧ Ext w w' := by
  have H := Lib.hid h
  obtain ⟨A, cap, rfl, hcap, hlen, hz1, hz2⟩ := h
  clear hz1 hz2
  have HU := Lib.hid hu
  have HS8 := Lib.hid hs8
  clear hu hs8
  go_enter Try.func118, Try.ntmps118
  go_wp2_with fail
  refine (l01Padded_any _ xs _ S (H.out.ext (by decide) ((ext_alloc w _).alloc _)) hl len h0 h1).mono ?_
  rintro e w1 ⟨v1, rfl, ho, hx⟩
  have hb0 := hx.heap (show _ from ((Blk.new w _ _).alloc _ : Blk ((w.alloc (.cells (numsA .u32 st) 155)).alloc _) w.heap.size 155 (numsA .u32 st)))
  have hb1 := hx.heap (show _ from (Blk.new' (g := w.heap.size + 1) (by simp) _ _ : Blk ((w.alloc (.cells (numsA .u32 st) 155)).alloc _) (w.heap.size + 1) 40 _))
  have hxw := ((ext_alloc w (.cells (numsA .u32 st) 155)).alloc _).trans hx
  have ho' : Own tByte 5 w1 (w.heap.size + 2) v1 (xs ++ padL xs.length len) := ho.le (by simp)
  obtain ⟨B, bn, bc, rfl⟩ := ho'.shape3
  have hbn := ho'.len
  rw [List.length_append, padL_length] at hbn
  have hm0 := padded_mod xs.length
  have hpz : padZ xs.length ≤ 31 := by have := padZ_eq xs.length; omega
  have HE := Lib.hid (show endL st xs len = keyL (mixN (xs ++ padL xs.length len) st ((xs.length + padZ xs.length + 9) / 32)) by rw [endL])
  obtain ⟨m, hm⟩ : ∃ m, xs.length + padZ xs.length + 9 = 32 * m := ⟨(xs.length + padZ xs.length + 9) / 32, by omega⟩
  rw [show (xs.length + padZ xs.length + 9) / 32 = m by omega] at HE
  have hbm : bn = 32 * m := by omega
  have hmm : m ≤ 2199023255553 := by omega
  have hal : (xs ++ padL xs.length len).length = 32 * m := by rw [List.length_append, padL_length]; omega
  generalize xs ++ padL xs.length len = al at *
  subst hbm
  have HO := Lib.hid ho'
  have HXW := Lib.hid hxw
  have HB0 := Lib.hid (show Blk w1 w.heap.size 155 (numsA .u32 st) from hb0)
  have HB1 := Lib.hid (show Blk w1 (w.heap.size + 1) 40 _ from hb1)
  have HAL := Lib.hid hal
  clear ho ho' hx hxw hb0 hb1 hbn hm0 hm hpz hal H
  go_wp2_with fail
  go_loopw [8] (fun q wr => ∃ (i : Nat) (z : Array Value), i ≤ m ∧ z.size = 32 ∧ q = .int .i64 ((32 * i : Nat) : Int) ∧ Blk wr w.heap.size 155 (numsA .u32 (mixN al st i)) ∧ Blk wr (w.heap.size + 1) 40 z ∧ Own tByte 5 wr (w.heap.size + 2) (.slice B (32 * m) bc) al ∧ Ext w wr) (fun q _ => 32 * m + 32 - (intOf q).toNat)
  case atStart => exact ⟨0, _, by omega, rfl, rfl, by rw [mixN_zero]; exact HB0.out, HB1.out, HO.out, HXW.out⟩
  case round =>
    clear HO HXW HB0 HB1
    obtain ⟨i, z, him, hz, rfl, hb0, hb1, ho, hx⟩ := hrel
    have HO := Lib.hid ho
    have HX := Lib.hid hx
    have HB0 := Lib.hid hb0
    have HB1 := Lib.hid hb1
    clear ho hx hb0 hb1
    by_cases hlt : i < m
    · have hs := mixN_length al st i HS8.out
      have hu := mixN_ok al st i HU.out
      have HN := Lib.hid (mixN_succ al st i)
      generalize mixN al st i = s at *
      obtain ⟨a0, a1, a2, a3, a4, a5, a6, a7, rfl⟩ := len8 hs
      have hblk : ∀ W, Ext wr W → Calls Try.prog 131 #[.slice B (32 * m) bc, .int .i64 (32 * (i : Int))] W fun e w' => e = .returned (.agg (numsA .u8 (blockL al i))) ∧ Ext W w' := by
        intro W E
        have := l01Block_any (.slice B (32 * m) bc) al W _ ((HO.out.ext E).rd) i (by rw [HAL.out]; omega)
        rw [show ((32 * i : Nat) : Int) = 32 * (i : Int) by omega] at this
        exact this
      have hK := blockL_ok al i HO.out.2.2 (by rw [HAL.out]; omega)
      obtain ⟨c0, c1, c2, c3, c4, c5, c6, c7, hc⟩ := len8 (mixL_length [a0, a1, a2, a3, a4, a5, a6, a7] (blockL al i) rfl)
      have hmix : ∀ W, Calls Try.prog 130 #[.agg #[Value.int .u32 a0, Value.int .u32 a1, Value.int .u32 a2, Value.int .u32 a3, Value.int .u32 a4, Value.int .u32 a5, Value.int .u32 a6, Value.int .u32 a7], .agg (numsA .u8 (blockL al i))] W fun e w' => e = .returned (.agg #[Value.int .u32 c0, Value.int .u32 c1, Value.int .u32 c2, Value.int .u32 c3, Value.int .u32 c4, Value.int .u32 c5, Value.int .u32 c6, Value.int .u32 c7]) ∧ Ext W w' := by
        intro W
        have := l01Mix_any [a0, a1, a2, a3, a4, a5, a6, a7] (blockL al i) rfl hu hK W
        rw [hc] at this
        exact this
      rw [hc] at HN
      generalize blockL al i = blk at *
      have HBLK := Lib.hid hblk
      have HMIX := Lib.hid hmix
      have HB := HB0
      clear hblk hmix hs hu hK hc
      have k0 : ∀ W, Ext wr W → W.cell? ⟨w.heap.size, 0, none⟩ = some (.int .u32 a0) := fun W h => h.cell (HB.out.at_ 0 rfl)
      have k1 : ∀ W, Ext wr W → W.cell? ⟨w.heap.size, 1, none⟩ = some (.int .u32 a1) := fun W h => h.cell (HB.out.at_ 1 rfl)
      have k2 : ∀ W, Ext wr W → W.cell? ⟨w.heap.size, 2, none⟩ = some (.int .u32 a2) := fun W h => h.cell (HB.out.at_ 2 rfl)
      have k3 : ∀ W, Ext wr W → W.cell? ⟨w.heap.size, 3, none⟩ = some (.int .u32 a3) := fun W h => h.cell (HB.out.at_ 3 rfl)
      have k4 : ∀ W, Ext wr W → W.cell? ⟨w.heap.size, 4, none⟩ = some (.int .u32 a4) := fun W h => h.cell (HB.out.at_ 4 rfl)
      have k5 : ∀ W, Ext wr W → W.cell? ⟨w.heap.size, 5, none⟩ = some (.int .u32 a5) := fun W h => h.cell (HB.out.at_ 5 rfl)
      have k6 : ∀ W, Ext wr W → W.cell? ⟨w.heap.size, 6, none⟩ = some (.int .u32 a6) := fun W h => h.cell (HB.out.at_ 6 rfl)
      have k7 : ∀ W, Ext wr W → W.cell? ⟨w.heap.size, 7, none⟩ = some (.int .u32 a7) := fun W h => h.cell (HB.out.at_ 7 rfl)
      have f0 : ∀ W, Ext wr W → ∀ j, W.frozen? ⟨w.heap.size, j, none⟩ = false := fun W h j => (HB.out.ext h).free j
      have r0 := Ext.refl wr
      have r1 := (Ext.refl wr).drew
      go_wp2_with fail
      go_region_law (first
        | (go_simp; go_at_call 131; refine (HBLK.out _ (by assumption)).mono ?_; rintro e p1 ⟨rfl, hx1⟩; have y1 := Ext.trans (by assumption : Ext wr _) hx1)
        | (go_simp; go_at_call 130; refine (HMIX.out _).mono ?_; rintro e p2 ⟨rfl, hx2⟩; have y2 := y1.trans hx2))
      all_goals
        go_wp2_with fail
        go_roundw
        case rel => exact ⟨i + 1, z, by omega, hz, congrArg (Value.int .i64) (by omega), by rw [HN.out]; exact put8_blk (HB.out.ext y2), put8_far (HB1.out.ext y2) (by omega), put8_own (HO.out.ext y2) (by omega), put8_ext (HX.out.trans y2) (Nat.le_refl _)⟩
        case measure => simp [intOf]; omega
    · obtain rfl : i = m := by omega
      have hs := mixN_length al st i HS8.out
      have hu := mixN_ok al st i HU.out
      have hlt0 := HB1.out.lt
      generalize mixN al st i = s at *
      have HSL := Lib.hid hs
      clear hs
      go_wp2_with (refine wpl_storeN (k := .u8) (xs := List.replicate 32 0) (Blk.new wr _ _) aggKey (by simp) rfl rfl _ _ rfl rfl rfl rfl ?_)
      have hx0 := (HX.out.alloc (.cells #[Value.int .u8 0, Value.int .u8 0, Value.int .u8 0, Value.int .u8 0, Value.int .u8 0, Value.int .u8 0, Value.int .u8 0, Value.int .u8 0, Value.int .u8 0, Value.int .u8 0, Value.int .u8 0, Value.int .u8 0, Value.int .u8 0, Value.int .u8 0, Value.int .u8 0, Value.int .u8 0, Value.int .u8 0, Value.int .u8 0, Value.int .u8 0, Value.int .u8 0, Value.int .u8 0, Value.int .u8 0, Value.int .u8 0, Value.int .u8 0, Value.int .u8 0, Value.int .u8 0, Value.int .u8 0, Value.int .u8 0, Value.int .u8 0, Value.int .u8 0, Value.int .u8 0, Value.int .u8 0] 40)).setRow HX.out.size (numsA .u8 (List.replicate 32 0))
      have hb0 := (HB0.out.alloc (.cells #[Value.int .u8 0, Value.int .u8 0, Value.int .u8 0, Value.int .u8 0, Value.int .u8 0, Value.int .u8 0, Value.int .u8 0, Value.int .u8 0, Value.int .u8 0, Value.int .u8 0, Value.int .u8 0, Value.int .u8 0, Value.int .u8 0, Value.int .u8 0, Value.int .u8 0, Value.int .u8 0, Value.int .u8 0, Value.int .u8 0, Value.int .u8 0, Value.int .u8 0, Value.int .u8 0, Value.int .u8 0, Value.int .u8 0, Value.int .u8 0, Value.int .u8 0, Value.int .u8 0, Value.int .u8 0, Value.int .u8 0, Value.int .u8 0, Value.int .u8 0, Value.int .u8 0, Value.int .u8 0] 40)).row_far (by omega : w.heap.size ≠ wr.heap.size) (numsA .u8 (List.replicate 32 0))
      have hb1 := (HB1.out.alloc (.cells #[Value.int .u8 0, Value.int .u8 0, Value.int .u8 0, Value.int .u8 0, Value.int .u8 0, Value.int .u8 0, Value.int .u8 0, Value.int .u8 0, Value.int .u8 0, Value.int .u8 0, Value.int .u8 0, Value.int .u8 0, Value.int .u8 0, Value.int .u8 0, Value.int .u8 0, Value.int .u8 0, Value.int .u8 0, Value.int .u8 0, Value.int .u8 0, Value.int .u8 0, Value.int .u8 0, Value.int .u8 0, Value.int .u8 0, Value.int .u8 0, Value.int .u8 0, Value.int .u8 0, Value.int .u8 0, Value.int .u8 0, Value.int .u8 0, Value.int .u8 0, Value.int .u8 0, Value.int .u8 0] 40)).row_far (by omega : w.heap.size + 1 ≠ wr.heap.size) (numsA .u8 (List.replicate 32 0))
      have hb2 := (Blk.new wr 40 #[Value.int .u8 0, Value.int .u8 0, Value.int .u8 0, Value.int .u8 0, Value.int .u8 0, Value.int .u8 0, Value.int .u8 0, Value.int .u8 0, Value.int .u8 0, Value.int .u8 0, Value.int .u8 0, Value.int .u8 0, Value.int .u8 0, Value.int .u8 0, Value.int .u8 0, Value.int .u8 0, Value.int .u8 0, Value.int .u8 0, Value.int .u8 0, Value.int .u8 0, Value.int .u8 0, Value.int .u8 0, Value.int .u8 0, Value.int .u8 0, Value.int .u8 0, Value.int .u8 0, Value.int .u8 0, Value.int .u8 0, Value.int .u8 0, Value.int .u8 0, Value.int .u8 0, Value.int .u8 0]).setRow (numsA .u8 (List.replicate 32 0))
      have hgs : w.heap.size + 2 ≤ wr.heap.size := by omega
      generalize wr.heap.size = gs at *
      have hkl := keyL_length s
      have HKL := Lib.hid hkl
      go_loopw [10] (fun q wq => ∃ k : Nat, k ≤ 32 ∧ q = .int .i64 k ∧ Blk wq w.heap.size 155 (numsA .u32 s) ∧ Blk wq (w.heap.size + 1) 40 z ∧ Blk wq gs 40 (numsA .u8 ((keyL s).take k ++ List.replicate (32 - k) 0)) ∧ Ext w wq) (fun q _ => 32 - (intOf q).toNat)
      case atStart => exact ⟨0, by omega, rfl, hb0, hb1, by rw [List.take_zero, List.nil_append, Nat.sub_zero]; exact hb2, hx0⟩
      case round =>
        clear hb0 hb1 hb2 hx0 HO HX HB0 HB1 hlt0
        obtain ⟨k, hk, rfl, hb0, hb1, hb2, hx⟩ := hrel
        have HX := Lib.hid hx
        have HB0 := Lib.hid hb0
        have HB1 := Lib.hid hb1
        have HB2 := Lib.hid hb2
        clear hx hb0 hb1 hb2
        by_cases hk32 : k < 32
        · have c0 := HB0.out.num (k / 4) (by rw [HSL.out]; omega)
          have u0 := hu.get (k / 4)
          have hc := HB2.out.num k (by simp [keyL_length]; omega)
          have hf := HB2.out.free k
          have q1 : (k : Int) / 4 = ((k / 4 : Nat) : Int) := by omega
          have q2 : (k : Int) % 4 = ((k % 4 : Nat) : Int) := by omega
          have p1 : k / 4 < 8 := by omega
          have p2 : k % 4 < 4 := by omega
          generalize hj1 : k / 4 = j1 at *
          generalize hj2 : k % 4 = j2 at *
          have hn := fill_step (keyL s) 32 k hk32 HKL.out
          rw [keyL_at s k hk32, hj1, hj2] at hn
          have HN := Lib.hid hn
          have J1 := Lib.hid hj1
          have J2 := Lib.hid hj2
          clear hn hj1 hj2 hkl
          go_wp2_with fail
          go_roundw
          case rel =>
            have h2 := HB2.out.set k (.int .u8 (gI s j1 / 2 ^ (8 * j2) % 256))
            rw [numsA_set, HN.out] at h2
            exact ⟨k + 1, by omega, by go_num, HB0.out.far (by simp; omega) _, HB1.out.far (by simp; omega) _, h2, HX.out.set (by simp; omega) _⟩
          case measure => simp [intOf]; omega
        · obtain rfl : k = 32 := by omega
          have hb := HB2.out
          rw [Nat.sub_self, List.replicate_zero, List.append_nil, List.take_of_length_le (by omega), ← HE.out] at hb
          have hl32 : (endL st xs len).length = 32 := by rw [HE.out]; exact HKL.out
          have HB3 := Lib.hid hb
          clear hb
          go_wp2_with (first
            | (refine wpl_loadN HB3.out aggKey hl32 rfl _ rfl rfl ?_)
            | (refine wpl_storeN HB1.out aggKey hl32 hz rfl _ _ rfl rfl rfl rfl ?_))
          refine bodyPost_ret (results_blk rfl _ rfl aggKey hl32 (HB1.out.setRow _)) rfl ?_
          exact ⟨rfl, HX.out.setRow (by omega) _⟩

end Go.Proofs.Yteegnbdgfedajaa
/- The statements' key of bytes. No condition. -/
namespace Go.Proofs.Yteegnbdgfedajaa
open Go.RowKit
set_option linter.unusedVariables false
set_option linter.unusedSimpArgs false

set_option maxHeartbeats 1000000 in
set_option maxRecDepth 100000 in
theorem l01Hash_any (tag : Int) (ht : 0 ≤ tag ∧ tag ≤ 255) (v : Value) (xs : List Int) (w : World) (S : Nat → Prop) (h : RdL tByte w S v xs) (hl : xs.length ≤ 70368744177664) :
    Calls Try.prog 112 #[.int .u8 tag, v] w fun e w' => e = .returned (.agg (numsA .u8 (hashL tag xs))) ∧ Ext w w' := by
  have H := Lib.hid h
  obtain ⟨A, cap, rfl, hcap, hlen, hz1, hz2⟩ := h
  clear hz1 hz2
  have hk := (hashL_ok tag xs).1
  have he : hashL tag xs = endL (startL tag) xs xs.length := by rw [hashL]
  rw [he] at hk ⊢
  clear he
  go_enter Try.func112, Try.ntmps112
  go_wp2_with fail
  refine (l01Start_any tag ht _).mono ?_
  rintro e w1 ⟨rfl, hx1⟩
  have HX1 := Lib.hid hx1
  clear hx1
  go_wp2_with fail
  refine (l01End_any (startL tag) (startL_length tag) (startL_ok tag ht) _ xs w1 S (H.out.ext (by decide) ((ext_alloc w _).trans HX1.out)) hl xs.length (by omega) (by omega)).mono ?_
  rintro e w2 ⟨rfl, hx2⟩
  have HB := Lib.hid (((Blk.new w 40 _).ext HX1.out).ext hx2)
  have HX := Lib.hid (((ext_alloc w _).trans HX1.out).trans hx2)
  clear hx2 HX1
  go_wp2_with (refine wpl_storeN HB.out aggKey hk rfl rfl _ _ rfl rfl rfl rfl ?_)
  refine bodyPost_ret (results_blk rfl _ rfl aggKey hk (HB.out.setRow _)) rfl ?_
  exact ⟨rfl, HX.out.setRow (Nat.le_refl _) _⟩

end Go.Proofs.Yteegnbdgfedajaa
/- Functions that are one key of bytes. No condition. -/
namespace Go.Proofs.Yteegnbdgfedajaa
open Go.RowKit
set_option linter.unusedVariables false
set_option linter.unusedSimpArgs false

theorem rd_none (w : World) (S : Nat → Prop) : RdL tByte w S (.slice none 0 0) [] := ⟨none, 0, rfl, Nat.le_refl _, by simp, Rd.nil _ _ _ _, by simp⟩
theorem Own.empty' {α : Type} (T : Ty α) {g : Nat} {w : World} (hg : g = w.heap.size) (e base : Nat) (hb : base ≤ w.heap.size) : Own T e (w.alloc (.cells #[] e)) base (.slice (some ⟨g, 0, none⟩) 0 0) ([] : List α) := by
  subst hg
  exact Own.empty T w e base hb
/-- the key of the empty map -/
def emptyL : List Int := hashL 5 []
theorem emptyL_ok : K32 emptyL := hashL_ok _ _
set_option maxHeartbeats 1000000 in
set_option maxRecDepth 100000 in
theorem l04Empty_any (w : World) : Calls Try.prog 98 #[] w fun e w' => e = .returned (.agg (numsA .u8 emptyL)) ∧ Ext w w' := by
  have hk := emptyL_ok.1
  go_enter Try.func98, Try.ntmps98
  go_wp2_with fail
  refine (l01Hash_any 5 (by decide) _ [] _ _ (Own.empty' tByte (by simp) 5 0 (Nat.zero_le _)).rd (by simp)).mono ?_
  rintro e w1 ⟨rfl, hx⟩
  have HB := Lib.hid (((Blk.new w 40 _).alloc _).ext hx)
  have HX := Lib.hid (((ext_alloc w _).alloc _).trans hx)
  clear hx
  go_wp2_with (refine wpl_storeN HB.out aggKey hk rfl rfl _ _ rfl rfl rfl rfl ?_)
  refine bodyPost_ret (results_blk rfl _ rfl aggKey hk (HB.out.setRow _)) rfl ?_
  exact ⟨rfl, HX.out.setRow (Nat.le_refl _) _⟩

/-- functions whose whole result is one key -/
theorem ret_key {fn : Func} {c : Tmp} {t g : Nat} {xs : List Int} {w : World} {cur : Array Value} {P : Program} (hr : fn.results = #[.cell c t]) (tmps : Array Value) (hp : tmps.getD c undef = .pointer (some ⟨g, 0, none⟩)) (ht : Agg P t 32) (hn : xs.length = 32) (hb : Blk w g t cur) :
    (results fn tmps).run P (w.setRow g (numsA .u8 xs)) = .ok (.agg (numsA .u8 xs)) (w.setRow g (numsA .u8 xs)) := results_blk hr tmps hp ht hn (hb.setRow _)
set_option maxHeartbeats 1000000 in
set_option maxRecDepth 100000 in
theorem implEmptyMapKey_any (w : World) : Calls Try.prog 100 #[] w fun e w' => e = .returned (.agg (numsA .u8 emptyL)) ∧ Ext w w' := by
  have hk := emptyL_ok.1
  go_enter Try.func100, Try.ntmps100
  go_wp2_with fail
  refine (hash_any 5 (by decide) _ [] _ _ (rd_none _ (fun _ => True)) (by simp)).mono ?_
  rintro e w1 ⟨rfl, hx⟩
  have HB := Lib.hid ((Blk.new w 40 _).ext hx)
  have HX := Lib.hid ((ext_alloc w _).trans hx)
  clear hx
  go_wp2_with (refine wpl_storeN HB.out aggKey hk rfl rfl _ _ rfl rfl rfl rfl ?_)
  refine bodyPost_ret (results_blk rfl _ rfl aggKey hk (HB.out.setRow _)) rfl ?_
  exact ⟨rfl, HX.out.setRow (Nat.le_refl _) _⟩

end Go.Proofs.Yteegnbdgfedajaa
/- Names and valid entries. No condition. -/
namespace Go.Proofs.Yteegnbdgfedajaa
open Go.RowKit
set_option linter.unusedVariables false
set_option linter.unusedSimpArgs false

/-- a text that is a name -/
@[irreducible] def nameB (s : ByteArray) : Bool := decide (1 ≤ (s.size : Int)) && decide ((s.size : Int) ≤ 24)
theorem nameB_eq (s : ByteArray) : nameB s = (decide (1 ≤ (s.size : Int)) && decide ((s.size : Int) ≤ 24)) := by rw [nameB]
set_option maxHeartbeats 1000000 in
set_option maxRecDepth 100000 in
theorem l04Name_any (s : ByteArray) (hs : s.size ≤ 140737488351232) (w : World) : Calls Try.prog 117 #[.string s] w fun e w' => e = .returned (.bool (nameB s)) ∧ w = w' := by
  have H := Lib.hid (nameB_eq s)
  go_enter Try.func117, Try.ntmps117
  go_wp2_with fail
  refine (l00In_any s.size 1 24 _).mono ?_
  rintro e w' ⟨rfl, rfl⟩
  rw [← H.out]
  go_wp2
  go_ret
  exact ⟨rfl, rfl⟩
set_option maxHeartbeats 1000000 in
set_option maxRecDepth 100000 in
theorem isName_any (s : ByteArray) (hs : s.size ≤ 140737488351232) (w : World) : Calls Try.prog 120 #[.string s] w fun e w' => e = .returned (.bool (nameB s)) ∧ w = w' := by
  have H := Lib.hid (nameB_eq s)
  go_enter Try.func120, Try.ntmps120
  go_wp2_with fail
  refine (within_any s.size 1 24 _).mono ?_
  rintro e w' ⟨rfl, rfl⟩
  rw [← H.out]
  go_wp2
  go_ret
  exact ⟨rfl, rfl⟩
/-- a valid entry -/
@[irreducible] def entB (n v : ByteArray) : Bool := nameB n && decide (v.size ≤ 64)
theorem entB_eq (n v : ByteArray) : entB n v = (nameB n && decide (v.size ≤ 64)) := by rw [entB]
theorem nameB_le {n : ByteArray} (h : nameB n = true) : 1 ≤ n.size ∧ n.size ≤ 24 := by
  rw [nameB_eq] at h
  simp at h
  omega
theorem entB_le {n v : ByteArray} (h : entB n v = true) : 1 ≤ n.size ∧ n.size ≤ 24 ∧ v.size ≤ 64 := by
  rw [entB_eq] at h
  simp at h
  have := nameB_le h.1
  omega
set_option maxHeartbeats 1000000 in
set_option maxRecDepth 100000 in
theorem l04Entry_any (n v : ByteArray) (hn : n.size ≤ 140737488351232) (hv : v.size ≤ 140737488351232) (g off : Nat) (w : World) (c0 : w.cell? ⟨g, off, none⟩ = some (.string n)) (c1 : w.cell? ⟨g, off + 1, none⟩ = some (.string v)) :
    Calls Try.prog 111 #[.pointer (some ⟨g, off, none⟩)] w fun e w' => e = .returned (.bool (entB n v)) ∧ w = w' := by
  rw [entB_eq]
  have hc := l04Name_any n hn
  cases hb : nameB n with
  | true =>
    simp only [hb] at hc
    clear hb
    go_enter Try.func111, Try.ntmps111
    go_wp2_with fail
    refine (hc _).mono ?_
    rintro e w' ⟨rfl, rfl⟩
    go_wp2
    go_ret
    exact ⟨ret_bool (by simp; omega), rfl⟩
  | false =>
    simp only [hb] at hc
    clear hb
    go_enter Try.func111, Try.ntmps111
    go_wp2_with fail
    refine (hc _).mono ?_
    rintro e w' ⟨rfl, rfl⟩
    go_wp2
    go_ret
    exact ⟨rfl, rfl⟩
set_option maxHeartbeats 1000000 in
set_option maxRecDepth 100000 in
theorem validEntry_any (n v : ByteArray) (hn : n.size ≤ 140737488351232) (hv : v.size ≤ 140737488351232) (w : World) :
    Calls Try.prog 113 #[.agg #[.string n, .string v]] w fun e w' => e = .returned (.bool (entB n v)) ∧ Ext w w' := by
  rw [entB_eq]
  have hc := isName_any n hn
  cases hb : nameB n with
  | true =>
    simp only [hb] at hc
    clear hb
    go_enter Try.func113, Try.ntmps113
    go_wp2_with fail
    refine (hc _).mono ?_
    rintro e w' ⟨rfl, rfl⟩
    go_wp2
    go_ret
    exact ⟨ret_bool (by simp; omega), ext_alloc _ _⟩
  | false =>
    simp only [hb] at hc
    clear hb
    go_enter Try.func113, Try.ntmps113
    go_wp2_with fail
    refine (hc _).mono ?_
    rintro e w' ⟨rfl, rfl⟩
    go_wp2
    go_ret
    exact ⟨rfl, ext_alloc _ _⟩


end Go.Proofs.Yteegnbdgfedajaa
/- Names, and their priorities. No condition. -/
namespace Go.Proofs.Yteegnbdgfedajaa
open Go.RowKit
set_option linter.unusedVariables false
set_option linter.unusedSimpArgs false

def prioL (s : ByteArray) : List Int := hashL 4 (strL s)
theorem prioL_ok (s : ByteArray) : K32 (prioL s) := hashL_ok _ _
theorem prioL_eq (s : ByteArray) : prioL s = hashL 4 (strL s) := rfl
attribute [irreducible] prioL
/-- the priority and the code -/
def prioR (s : ByteArray) : List Int × Int := if nameB s then (prioL s, 0) else (List.replicate 32 0, 1)
theorem zero_ok : K32 (List.replicate 32 0) := ⟨by simp, replicate_ok _⟩
theorem prioR_ok (s : ByteArray) : K32 (prioR s).1 := by unfold prioR; split; exact prioL_ok s; exact zero_ok
end Go.Proofs.Yteegnbdgfedajaa
/- The key of a pack. No condition. -/
namespace Go.Proofs.Yteegnbdgfedajaa
open Go.RowKit
set_option linter.unusedVariables false
set_option linter.unusedSimpArgs false

def packR (xs : List Int) : List Int × Int := if xs.length ≤ 140000 then (hashL 8 xs, 0) else (List.replicate 32 0, 3)
theorem packR_ok (xs : List Int) : K32 (packR xs).1 := by unfold packR; split; exact hashL_ok _ _; exact zero_ok
end Go.Proofs.Yteegnbdgfedajaa
/- Blobs: what the laws, the reference and the program say of one. No condition. -/
namespace Go.Proofs.Yteegnbdgfedajaa
open Go.RowKit
set_option linter.unusedVariables false
set_option linter.unusedSimpArgs false

set_option maxHeartbeats 400000 in
theorem l01Bytes_any (v u : Value) (xs ys : List Int) (w : World) (S S' : Nat → Prop) (h : RdL tByte w S v xs) (h' : RdL tByte w S' u ys) :
    Calls Try.prog 54 #[v, u] w fun e w' => e = .returned (.bool (xs == ys)) ∧ Drawn w w' := by
  obtain ⟨A, cap, rfl, hcap, hlen, hrd, hok⟩ := h
  obtain ⟨A', cap', rfl, hcap', hlen', hrd', hok'⟩ := h'
  have Hrd := Lib.hid (show Rd w S 1 A xs.length (nums .u8 xs) by rw [← flat_bytes]; exact hrd)
  have Hrd' := Lib.hid (show Rd w S' 1 A' ys.length (nums .u8 ys) by rw [← flat_bytes]; exact hrd')
  clear hrd hrd'
  by_cases hl : xs.length = ys.length
  · have Hl := Lib.hid hl
    have hl1 : ((xs.length : Int) != (ys.length : Int)) = false := by simp [hl]
    clear hl
    go_enter Try.func54, Try.ntmps54
    go_wp2
    go_loopw [5] (fun i wr => ∃ k : Nat, k ≤ xs.length ∧ i = .int .i64 k ∧ xs.take k = ys.take k ∧ Drawn w wr)
      (fun i _ => xs.length - (intOf i).toNat)
    case atStart => exact ⟨0, by omega, rfl, by simp, Drawn.refl _⟩
    case round =>
      obtain ⟨k, hk, rfl, ht, hD⟩ := hrel
      have Ht := Lib.hid ht
      have HD := Lib.hid hD
      clear ht hl1 hD
      by_cases hlt : k < xs.length
      · have hlt' : k < ys.length := by rw [← Hl.out]; exact hlt
        obtain ⟨g, o, rfl, hs, hc⟩ := (Hrd.out).byte k hlt
        obtain ⟨g', o', rfl, hs', hc'⟩ := (Hrd'.out).byte k hlt'
        have hd := HD.out.ext.cell hc
        have hd' := HD.out.ext.cell hc'
        clear hc hc'
        by_cases he : gI xs k = gI ys k
        · have He := Lib.hid he
          have hne : (gI xs k != gI ys k) = false := by simpa using he
          clear he
          go_wp2
          go_quiet (fail)
          go_wp2
          go_roundw
          case rel => exact ⟨k + 1, by omega, by go_num, take_eq_step hlt hlt' Ht.out He.out, HD.out.drewN _⟩
          case measure => simp [intOf]; omega
        · have He := Lib.hid he
          have hne : (gI xs k != gI ys k) = true := by simpa using he
          clear he
          go_wp2
          go_quiet (fail)
          go_wp2
          go_ret
          exact ⟨by rw [beq_eq_false_iff_ne.2 (fun h => He.out (by rw [h]))]; rfl, HD.out.drewN _⟩
      · go_wp2
        go_ret
        obtain rfl : k = xs.length := by omega
        refine ⟨?_, HD.out⟩
        have e := Ht.out
        rw [List.take_of_length_le (by omega), List.take_of_length_le (by rw [Hl.out]; omega)] at e
        subst e; simp
  · have Hl := Lib.hid hl
    have hl1 : ((xs.length : Int) != (ys.length : Int)) = true := by simp; omega
    clear hl
    go_enter Try.func54, Try.ntmps54
    go_wp2
    go_ret
    exact ⟨by rw [beq_eq_false_iff_ne.2 (fun h => Hl.out (by rw [h]))]; rfl, Drawn.refl _⟩



set_option maxHeartbeats 400000 in
theorem szBlob_any (t : Int) (A : Option Addr) (n c : Nat) (l : Int) (hn : (n : Int) ≤ 140737488355328) (h0 : -1 ≤ l) (h1 : l ≤ 1048576) (w : World) :
    Calls Try.prog 34 #[.agg #[.int .u8 t, .slice A n c], .int .i64 l] w fun e w' => e = .returned (.int .i64 (if l - n < 0 then -1 else l - n)) ∧ Ext w w' := by
  have hc := fun W => szByteS_any A n c l hn h0 h1 W
  by_cases h : l - (n : Int) < 0
  · simp only [if_pos h] at hc ⊢
    go_enter Try.func34, Try.ntmps34
    go_wp2_with (go_at_call 72; refine (hc _).mono ?_; rintro e w' ⟨rfl, rfl⟩)
    go_ret
    exact ⟨rfl, ext_alloc _ _⟩
  · simp only [if_neg h] at hc ⊢
    go_enter Try.func34, Try.ntmps34
    go_wp2_with (go_at_call 72; refine (hc _).mono ?_; rintro e w' ⟨rfl, rfl⟩)
    go_ret
    exact ⟨rfl, ext_alloc _ _⟩

set_option maxHeartbeats 400000 in
theorem toBlob_any (t : Int) (v : Value) (xs : List Int) (w : World) (S : Nat → Prop) (h : RdL tByte w S v xs) :
    Calls Try.prog 36 #[.agg #[.int .u8 t, v]] w fun e w' => ∃ v', e = .returned (.agg #[.int .u8 t, v']) ∧ Own tByte 5 w' w.heap.size v' xs ∧ Ext w w' := by
  go_enter Try.func36, Try.ntmps36
  go_wp2_with fail
  refine (toByteS_any v xs _ S (h.ext (by decide) (((ext_alloc w _).alloc _).alloc _))).mono ?_
  rintro e w1 ⟨v', rfl, ho, hx⟩
  obtain ⟨A', c', rfl⟩ := ho.shape
  have c0 : w1.cell? ⟨w.heap.size + 1 + 1, 0, none⟩ = some (.int .u8 t) := hx.cell (by go_simp)
  have c1 : w1.cell? ⟨w.heap.size + 1 + 1, 1, none⟩ = some (.slice none 0 0) := hx.cell (by go_simp)
  have f1 : w1.frozen? ⟨w.heap.size + 1 + 1, 1, none⟩ = false := hx.free (by simp) (by go_simp)
  have d0 : w1.cell? ⟨w.heap.size + 1, 0, none⟩ = some (.int .u8 0) := hx.cell (by go_simp)
  have d1 : w1.cell? ⟨w.heap.size + 1, 1, none⟩ = some (.slice none 0 0) := hx.cell (by go_simp)
  have e0 : w1.frozen? ⟨w.heap.size + 1, 0, none⟩ = false := hx.free (by simp) (by go_simp)
  have e1 : w1.frozen? ⟨w.heap.size + 1, 1, none⟩ = false := hx.free (by simp) (by go_simp)
  have Ho := Lib.hid ho
  have Hx := Lib.hid hx
  clear ho hx
  go_wp2_with fail
  refine bodyPost_ret (v := .agg #[.int .u8 t, .slice A' xs.length c']) (by simp [results, Try.results36, go_sem, c0, c1, d0, d1, f1, e0, e1]) rfl ?_
  exact ⟨_, rfl, (((Ho.out.set_below (by simp) _).set_below (by simp) _).set_below (by simp) _).le (by simp; omega),
    (((((ext_alloc w _).alloc _).alloc _).trans Hx.out).set (by simp; omega) _ |>.set (by simp) _).set (by simp) _⟩

set_option maxHeartbeats 400000 in
theorem eqBlob_any (t u : Int) (v v' : Value) (xs ys : List Int) (w : World) (S S' : Nat → Prop) (h : RdL tByte w S v xs) (h' : RdL tByte w S' v' ys) :
    Calls Try.prog 39 #[.agg #[.int .u8 t, v], .agg #[.int .u8 u, v']] w fun e w' => e = .returned (.bool (t == u && xs == ys)) ∧ Ext w w' := by
  obtain ⟨A, cap, rfl, _, _⟩ := id h
  obtain ⟨A', cap', rfl, _, _⟩ := id h'
  have H := Lib.hid h
  have H' := Lib.hid h'
  clear h h'
  have hc := fun a b => eqByteS_any _ _ xs ys ((w.alloc a).alloc b) S S' (H.out.ext (by decide) ((ext_alloc w a).alloc b)) (H'.out.ext (by decide) ((ext_alloc w a).alloc b))
  generalize (xs == ys) = q at hc ⊢
  have HC := Lib.hid hc
  clear hc
  by_cases ht : t = u
  · subst ht
    have hne : (t != t) = false := by simp
    have hp : (t == t && q) = q := by simp
    rw [hp]
    clear hp
    go_enter Try.func39, Try.ntmps39
    go_wp2_with fail
    refine (HC.out _ _).mono ?_
    rintro e w1 ⟨rfl, hD⟩
    have HD := Lib.hid hD
    clear hD
    cases q
    all_goals
      go_wp2_with fail
      go_ret
      exact ⟨rfl, ((ext_alloc w _).alloc _).trans HD.out.ext⟩
  · have hne : (t != u) = true := by simpa using ht
    have hp : (t == u && q) = false := by simp [ht]
    rw [hp]
    clear hp ht
    go_enter Try.func39, Try.ntmps39
    go_wp2_with fail
    go_ret
    exact ⟨rfl, (ext_alloc w _).alloc _⟩

/-! ### a valid blob -/
set_option maxHeartbeats 400000 in
theorem implValidBlob_any (t : Int) (A : Option Addr) (n c : Nat) (w : World) :
    Calls Try.prog 75 #[.agg #[.int .u8 t, .slice A n c]] w fun e w' => e = .returned (.bool (decide (n ≤ 1024))) ∧ Ext w w' := by
  go_enter Try.func75, Try.ntmps75
  go_wp2
  go_ret
  exact ⟨ret_bool (by simp; omega), ext_alloc _ _⟩

end Go.Proofs.Yteegnbdgfedajaa
/- The key of a blob. No condition. -/
namespace Go.Proofs.Yteegnbdgfedajaa
open Go.RowKit
set_option linter.unusedVariables false
set_option linter.unusedSimpArgs false

def blobKR (t : Int) (xs : List Int) : List Int × Int := if xs.length ≤ 1024 then (hashL t xs, 0) else (List.replicate 32 0, 1)
theorem blobKR_ok (t : Int) (xs : List Int) : K32 (blobKR t xs).1 := by unfold blobKR; split; exact hashL_ok _ _; exact zero_ok
set_option maxHeartbeats 1000000 in
set_option maxRecDepth 100000 in
theorem l05Blob_any (A : Option Addr) (n cap : Nat) (w : World) (b : Nat) (c1 : w.cell? ⟨b, 1, none⟩ = some (.slice A n cap)) :
    Calls Try.prog 73 #[.pointer (some ⟨b, 0, none⟩)] w fun e w' => e = .returned (.bool (decide (n ≤ 1024))) ∧ w = w' := by
  go_enter Try.func73, Try.ntmps73
  go_wp2
  go_ret
  exact ⟨ret_bool (by simp; omega), rfl⟩
end Go.Proofs.Yteegnbdgfedajaa
/- Blobs, in the words of the laws' walks. No condition. -/
namespace Go.Proofs.Yteegnbdgfedajaa
open Go.RowKit
set_option linter.unusedVariables false
set_option linter.unusedSimpArgs false

theorem aggBlobL : Agg Try.prog 61 2 := Agg.mkS (fs := _) Try.underlying61 (by kernel_rfl)
theorem aggBlobI : Agg Try.prog 65 2 := Agg.mkS (fs := _) Try.underlying65 (by kernel_rfl)
/-- the cells of a blob -/
def RBlob (w : World) (S : Nat → Prop) (cs : Array Value) (x : Int × List Int) : Prop := ∃ v, cs = #[.int .u8 x.1, v] ∧ RdL tByte w S v x.2 ∧ 0 ≤ x.1 ∧ x.1 ≤ 255
section
variable {w w' : World} {S : Nat → Prop} {cs : Array Value} {x : Int × List Int}
theorem RBlob.ext (h : RBlob w S cs x) (e : Ext w w') : RBlob w' S cs x := by
  obtain ⟨v, h1, h2, h3⟩ := h
  exact ⟨v, h1, h2.ext (by decide) e, h3⟩
theorem RBlob.st (h : RBlob w S cs x) : St 2 cs := by
  obtain ⟨v, rfl, ⟨A, cap, rfl, _⟩, _⟩ := h
  exact ⟨rfl, fun u hu => by simp at hu; rcases hu with rfl | rfl <;> rfl⟩
end
set_option maxHeartbeats 1000000 in
set_option maxRecDepth 100000 in
theorem szBlob_u (cs : Array Value) (x : Int × List Int) (l : Int) (w : World) (S : Nat → Prop) (h : RBlob w S cs x) (h0 : -1 ≤ l) (h1 : l ≤ 1048576) :
    Calls Try.prog 34 #[.agg cs, .int .i64 l] w fun e w' => e = .returned (.int .i64 (if l - x.2.length < 0 then -1 else l - x.2.length)) ∧ Ext w w' := by
  obtain ⟨v, rfl, ⟨A, cap, rfl, hc, hl, _⟩, _⟩ := h
  exact szBlob_any x.1 A x.2.length cap l (by omega) h0 h1 w
set_option maxHeartbeats 1000000 in
set_option maxRecDepth 100000 in
theorem toBlob_u (cs : Array Value) (x : Int × List Int) (w : World) (S : Nat → Prop) (h : RBlob w S cs x) :
    Calls Try.prog 36 #[.agg cs] w fun e w' => ∃ cs', e = .returned (.agg cs') ∧ RBlob w' (fun g => w.heap.size ≤ g ∧ g < w'.heap.size) cs' x ∧ Ext w w' := by
  obtain ⟨v, rfl, hr, h3⟩ := h
  refine (toBlob_any x.1 v x.2 w S hr).mono ?_
  rintro e w' ⟨v', rfl, ho, hx⟩
  exact ⟨_, rfl, ⟨v', rfl, ho.rd, h3⟩, hx⟩
set_option maxHeartbeats 1000000 in
set_option maxRecDepth 100000 in
theorem eqBlob_u (cs cs' : Array Value) (x : Int × List Int) (w : World) (S S' : Nat → Prop) (h : RBlob w S cs x) (h' : RBlob w S' cs' x) :
    Calls Try.prog 39 #[.agg cs, .agg cs'] w fun e w' => e = .returned (.bool true) ∧ Ext w w' := by
  obtain ⟨v, rfl, hr, h3⟩ := h
  obtain ⟨v', rfl, hr', h3'⟩ := h'
  refine (eqBlob_any x.1 x.1 v v' x.2 x.2 w S S' hr hr').mono ?_
  rintro e w' ⟨rfl, hx⟩
  exact ⟨by simp, hx⟩
end Go.Proofs.Yteegnbdgfedajaa
/- Lists of blobs, and stores: copied, counted, held against each other. No condition. -/
namespace Go.Proofs.Yteegnbdgfedajaa
open Go.RowKit
set_option linter.unusedVariables false
set_option linter.unusedSimpArgs false

abbrev Bl := Int × List Int
def nrBlob : NR Bl where
  sz := 2
  R := RBlob
  pos := by decide
  keep := by
    rintro w w' S cs x ⟨v, h1, h2, h3⟩ hk
    exact ⟨v, h1, h2.keep hk, h3⟩
  ext := fun h e => h.ext e
  mono := by
    rintro w S S' cs x ⟨v, h1, h2, h3⟩ hk
    exact ⟨v, h1, h2.mono hk, h3⟩
  st := fun h => h.st
/-- how much a blob takes -/
def wBlob (x : Bl) : Nat := x.2.length
theorem szBlob_w (cs : Array Value) (x : Bl) (l : Int) (w : World) (S : Nat → Prop) (h : nrBlob.R w S cs x) (h0 : -1 ≤ l) (h1 : l ≤ 1048576) :
    Calls Try.prog 34 #[.agg cs, .int .i64 l] w fun e w' => e = .returned (.int .i64 (if l - (wBlob x : Nat) < 0 then -1 else l - (wBlob x : Nat))) ∧ Ext w w' := szBlob_u cs x l w S h h0 h1
theorem toBlob_w (cs : Array Value) (x : Bl) (w : World) (S : Nat → Prop) (h : nrBlob.R w S cs x) (hy : True) :
    Calls Try.prog 36 #[.agg cs] w fun e w' => ∃ cs', e = .returned (.agg cs') ∧ nrBlob.R w' (fun g => w.heap.size ≤ g ∧ g < w'.heap.size) cs' x ∧ Ext w w' := toBlob_u cs x w S h
theorem eqBlob_w (cs cs' : Array Value) (x : Bl) (w : World) (S S' : Nat → Prop) (h : nrBlob.R w S cs x) (h' : nrBlob.R w S' cs' x) :
    Calls Try.prog 39 #[.agg cs, .agg cs'] w fun e w' => e = .returned (.bool true) ∧ Ext w w' := eqBlob_u cs cs' x w S S' h h'
set_option maxHeartbeats 1000000 in
set_option maxRecDepth 100000 in
theorem toBlobS_u (v : Value) (xs : List Bl) (w : World) (S : Nat → Prop) (h : RdN nrBlob w S v xs) (hln : xs.length ≤ 1048576) (hel : ∀ x ∈ xs, True) :
    Calls Try.prog 47 #[v] w fun e w' => ∃ v', e = .returned v' ∧ RdN nrBlob w' (fun q => w.heap.size ≤ q) v' xs ∧ Ext w w' := by
  obtain ⟨A, cap, rfl, hcap, hlen⟩ := h.shape
  have H := Lib.hid h
  have HEL := Lib.hid hel
  clear h hel
  obtain ⟨Z, hms, hm⟩ := make_rowN 33 65 2 32 Try.underlying33 (by kernel_rfl) .i64 .i64 xs.length (by omega) (by omega)
  have HMS := Lib.hid hms
  clear hms
  go_enter Try.func47, Try.ntmps47
  go_wp2
  go_loopw [4] (fun i wr => ∃ (k : Nat) (CS : List (List Value)), k ≤ xs.length ∧ i = .int .i64 k ∧ CS.length = k ∧ FillN nrBlob wr w.heap.size 65 (fun q => w.heap.size < q) xs CS ((xs.length - k) * 2) ∧ Ext w wr ∧ w.heap.size < wr.heap.size)
    (fun i _ => xs.length - (intOf i).toNat)
  case atStart => exact ⟨0, [], by omega, rfl, rfl, ⟨Fill.start' (Blk.new w _ _) (by rw [HMS.out, Nat.sub_zero]), fun i es x h => by simp at h, fun es h => by simp at h⟩, ext_alloc _ _, by simp⟩
  case round =>
    obtain ⟨k, CS, hk, rfl, hcl, hF, hx, hgs⟩ := hrel
    have HFl := Lib.hid hF
    have HX := Lib.hid hx
    have HCL := Lib.hid hcl
    have HGS := Lib.hid hgs
    clear hm hF hx hcl hgs
    by_cases hlt : k < xs.length
    · obtain ⟨g, o, rfl, hs, es, hes, hc, hR⟩ := H.out.elem k hlt
      have HD := Lib.hid (show ∀ j u, es[j]? = some u → wr.cell? ⟨g, o + k * 2 + j, none⟩ = some u from fun j u hu => HX.out.cell (hc j u hu))
      have HR := Lib.hid ((nrBlob).ext hR HX.out)
      have HES := Lib.hid (show es.length = 2 from hes)
      have HXM := Lib.hid (HEL.out xs[k] (List.getElem_mem hlt))
      have HXK := Lib.hid (show xs[k]? = some xs[k] from List.getElem?_eq_getElem hlt)
      have HL := Lib.hid (show CS.flatten.length = k * 2 by rw [flatN_length CS HFl.out.lens, HCL.out]; rfl)
      have HMU := Lib.hid (show (xs.length - k) * 2 = 2 + (xs.length - (k + 1)) * 2 by omega)
      clear hc hR hes
      have hi : (0 : Int) ≤ (k : Int) := by omega
      go_wp2_with (refine wpl_load ⟨g, o + k * 2, none⟩ es (by rw [HES.out]; exact aggBlobL) rfl _ rfl rfl (fun j u hu => by rw [Addr.add_lit]; exact HD.out j u hu) ?_)
      refine (toBlob_w es.toArray xs[k] _ S HR.out HXM.out).mono ?_
      rintro e w1 ⟨cs', rfl, hR', hx⟩
      have HF2 := Lib.hid (HFl.out.ext hx)
      have HR2 := Lib.hid (show (nrBlob).R w1 (fun q => w.heap.size < q) cs' xs[k] from (nrBlob).mono hR' (fun q hq => by have h1 := HGS.out; have h2 := hq.1; omega))
      have HST := Lib.hid (show St 2 cs' from (nrBlob).st hR')
      have HX2 := Lib.hid (HX.out.trans hx)
      have HGS2 := Lib.hid (Nat.lt_of_lt_of_le HGS.out hx.size)
      clear hx HX HFl HD HR hR'
      go_wp2_with (refine wpl_fill (n := 2) (m := (xs.length - (k + 1)) * 2) (by rw [← HMU.out]; exact HF2.out.fill) (by rw [HL.out]) aggBlobI HST.out rfl _ _ rfl rfl rfl rfl ?_; intro row hF; have HF3 := Lib.hid (HF2.out.next (by rw [HCL.out]; exact HXK.out) HR2.out (fun q hq => by omega) row hF); clear hF)
      go_roundw
      case rel => exact ⟨k + 1, _, by omega, by go_num, by rw [List.length_append, HCL.out]; rfl, HF3.out, HX2.out.setRow (Nat.le_refl _) _, by simpa using HGS2.out⟩
      case measure => simp [intOf]; omega
    · obtain rfl : k = xs.length := by omega
      have hb := HFl.out
      rw [Nat.sub_self, Nat.zero_mul] at hb
      have HB := Lib.hid hb
      clear hb
      go_wp2
      go_ret
      exact ⟨_, rfl, HB.out.done HCL.out hlen _ (fun q hq => Nat.le_of_lt hq) (Nat.le_refl _), HX.out⟩

set_option maxHeartbeats 1000000 in
set_option maxRecDepth 100000 in
theorem eqBlobS_u (v u : Value) (xs : List Bl) (w : World) (S S' : Nat → Prop) (h : RdN nrBlob w S v xs) (h' : RdN nrBlob w S' u xs) :
    Calls Try.prog 50 #[v, u] w fun e w' => e = .returned (.bool true) ∧ Ext w w' := by
  obtain ⟨A, cap, rfl, hcap, hlen⟩ := h.shape
  obtain ⟨A', cap', rfl, hcap', hlen'⟩ := h'.shape
  have H := Lib.hid h
  have H' := Lib.hid h'
  clear h h'
  have hl1 : ((xs.length : Int) != (xs.length : Int)) = false := by simp
  go_enter Try.func50, Try.ntmps50
  go_wp2
  go_loopw [5] (fun i wr => ∃ k : Nat, k ≤ xs.length ∧ i = .int .i64 k ∧ Ext w wr) (fun i _ => xs.length - (intOf i).toNat)
  case atStart => exact ⟨0, by omega, rfl, Ext.refl _⟩
  case round =>
    obtain ⟨k, hk, rfl, hx⟩ := hrel
    have HX := Lib.hid hx
    clear hx hl1
    by_cases hlt : k < xs.length
    · obtain ⟨g, o, rfl, hs, es, hes, hc, hR⟩ := H.out.elem k hlt
      obtain ⟨g2, o2, rfl, hs2, es2, hes2, hc2, hR2⟩ := H'.out.elem k hlt
      have HD := Lib.hid (show ∀ j u, es[j]? = some u → wr.cell? ⟨g, o + k * 2 + j, none⟩ = some u from fun j u hu => HX.out.cell (hc j u hu))
      have HD2 := Lib.hid (show ∀ j u, es2[j]? = some u → wr.cell? ⟨g2, o2 + k * 2 + j, none⟩ = some u from fun j u hu => HX.out.cell (hc2 j u hu))
      have HR := Lib.hid ((nrBlob).ext hR HX.out)
      have HR2 := Lib.hid ((nrBlob).ext hR2 HX.out)
      have HES := Lib.hid (show es.length = 2 from hes)
      have HES2 := Lib.hid (show es2.length = 2 from hes2)
      clear hc hc2 hR hR2 hes hes2
      have hi : (0 : Int) ≤ (k : Int) := by omega
      have hi2 : (k : Int) < (xs.length : Int) := by omega
      go_wp2_with fail
      refine wp_region_held_drew (S := fun W => Ext wr W) (by kernel_rfl) (Ext.refl _).drew (fun hHeld => ?_)
      refine wpAnyH_take (i := 0) (oi := ?oiq0) (v := ?vq0) ?hiq0 (by kernel_rfl) (by kernel_rfl) (by kernel_rfl) ?hQq0 ?hyq0 (by assumption) ?restq0
      case hiq0 => simp only [List.getElem?_toArray, List.getElem?_cons_zero, List.getElem?_cons_succ]; rfl
      case hQq0 => exact fun _ _ _ h => h
      case hyq0 => exact Or.inl ⟨by rfl, by intro w hSw; go_simp; with_reducible rfl⟩
      try simp only [Act.put, List.setIfInBounds_toArray, List.set_cons_zero, List.set_cons_succ]
      refine wpAnyH_take (i := 1) (oi := ?oiq1) (v := ?vq1) ?hiq1 (by kernel_rfl) (by kernel_rfl) (by kernel_rfl) ?hQq1 ?hyq1 (by assumption) ?restq1
      case hiq1 => simp only [List.getElem?_toArray, List.getElem?_cons_zero, List.getElem?_cons_succ]; rfl
      case hQq1 => exact fun _ _ _ h => h
      case hyq1 => exact Or.inl ⟨by rfl, by intro w hSw; go_simp; with_reducible rfl⟩
      try simp only [Act.put, List.setIfInBounds_toArray, List.set_cons_zero, List.set_cons_succ]
      refine wpAnyH_take (i := 2) (oi := ?oiq2) (v := ?vq2) ?hiq2 (by kernel_rfl) (by kernel_rfl) (by kernel_rfl) ?hQq2 ?hyq2 (by assumption) ?restq2
      case hiq2 => simp only [List.getElem?_toArray, List.getElem?_cons_zero, List.getElem?_cons_succ]; rfl
      case hQq2 => exact fun _ _ _ h => h
      case hyq2 => exact Or.inl ⟨by rfl, by intro w hSw; go_simp; with_reducible rfl⟩
      try simp only [Act.put, List.setIfInBounds_toArray, List.set_cons_zero, List.set_cons_succ]
      refine wpAnyH_take (i := 3) (oi := ?oiq3) (v := (.agg es.toArray)) ?hiq3 (by kernel_rfl) (by kernel_rfl) (by kernel_rfl) ?hQq3 ?hyq3 (by assumption) ?restq3
      case hiq3 => simp only [List.getElem?_toArray, List.getElem?_cons_zero, List.getElem?_cons_succ]; rfl
      case hQq3 => exact fun _ _ _ h => h
      case hyq3 => refine yields_loadR g (o + k * 2) es (by rw [HES.out]; exact aggBlobI) HD.out ?_ _ rfl rfl; rfl
      try simp only [Act.put, List.setIfInBounds_toArray, List.set_cons_zero, List.set_cons_succ]
      refine wpAnyH_take (i := 4) (oi := ?oiq4) (v := ?vq4) ?hiq4 (by kernel_rfl) (by kernel_rfl) (by kernel_rfl) ?hQq4 ?hyq4 (by assumption) ?restq4
      case hiq4 => simp only [List.getElem?_toArray, List.getElem?_cons_zero, List.getElem?_cons_succ]; rfl
      case hQq4 => exact fun _ _ _ h => h
      case hyq4 => exact Or.inl ⟨by rfl, by intro w hSw; go_simp; with_reducible rfl⟩
      try simp only [Act.put, List.setIfInBounds_toArray, List.set_cons_zero, List.set_cons_succ]
      refine wpAnyH_take (i := 5) (oi := ?oiq5) (v := ?vq5) ?hiq5 (by kernel_rfl) (by kernel_rfl) (by kernel_rfl) ?hQq5 ?hyq5 (by assumption) ?restq5
      case hiq5 => simp only [List.getElem?_toArray, List.getElem?_cons_zero, List.getElem?_cons_succ]; rfl
      case hQq5 => exact fun _ _ _ h => h
      case hyq5 => exact Or.inl ⟨by rfl, by intro w hSw; go_simp; with_reducible rfl⟩
      try simp only [Act.put, List.setIfInBounds_toArray, List.set_cons_zero, List.set_cons_succ]
      refine wpAnyH_take (i := 6) (oi := ?oiq6) (v := ?vq6) ?hiq6 (by kernel_rfl) (by kernel_rfl) (by kernel_rfl) ?hQq6 ?hyq6 (by assumption) ?restq6
      case hiq6 => simp only [List.getElem?_toArray, List.getElem?_cons_zero, List.getElem?_cons_succ]; rfl
      case hQq6 => exact fun _ _ _ h => h
      case hyq6 => exact Or.inl ⟨by rfl, by intro w hSw; go_simp; with_reducible rfl⟩
      try simp only [Act.put, List.setIfInBounds_toArray, List.set_cons_zero, List.set_cons_succ]
      refine wpAnyH_take (i := 7) (oi := ?oiq7) (v := (.agg es2.toArray)) ?hiq7 (by kernel_rfl) (by kernel_rfl) (by kernel_rfl) ?hQq7 ?hyq7 (by assumption) ?restq7
      case hiq7 => simp only [List.getElem?_toArray, List.getElem?_cons_zero, List.getElem?_cons_succ]; rfl
      case hQq7 => exact fun _ _ _ h => h
      case hyq7 => refine yields_loadR g2 (o2 + k * 2) es2 (by rw [HES2.out]; exact aggBlobI) HD2.out ?_ _ rfl rfl; rfl
      try simp only [Act.put, List.setIfInBounds_toArray, List.set_cons_zero, List.set_cons_succ]
      refine wpAnyH_ready (rs := [8]) (by kernel_rfl) (by simp) (AllReadyH.cons (o := ?o8) ?h8 (fun K hK => ?s8) AllReadyH.nil)
      case h8 => simp only [List.getElem?_toArray, List.getElem?_cons_zero, List.getElem?_cons_succ]; rfl
      go_simp
      refine (eqBlob_w es.toArray es2.toArray xs[k] _ S S' ((nrBlob).ext HR.out hHeld) ((nrBlob).ext HR2.out hHeld)).mono ?_
      rintro e w1 ⟨rfl, hx⟩
      have hH2 := hHeld.trans hx
      refine hK.out _ _ hH2 (fun _ => ?_)
      clear hHeld hK K
      have hHeld := hH2
      clear hH2 hx
      try simp only [Act.put, List.setIfInBounds_toArray, List.set_cons_zero, List.set_cons_succ]
      refine wpAnyH_take (i := 9) (oi := ?oiq9) (v := ?vq9) ?hiq9 (by kernel_rfl) (by kernel_rfl) (by kernel_rfl) ?hQq9 ?hyq9 (by assumption) ?restq9
      case hiq9 => simp only [List.getElem?_toArray, List.getElem?_cons_zero, List.getElem?_cons_succ]; rfl
      case hQq9 => exact fun _ _ _ h => h
      case hyq9 => exact Or.inl ⟨by rfl, by intro w hSw; go_simp; with_reducible rfl⟩
      try simp only [Act.put, List.setIfInBounds_toArray, List.set_cons_zero, List.set_cons_succ]
      refine wpAnyH_done (by kernel_rfl) ?_ _
      have HX2 := Lib.hid (HX.out.trans hHeld)
      clear hHeld
      go_wp2
      go_roundw
      case rel => exact ⟨k + 1, by omega, by go_num, HX2.out⟩
      case measure => simp [intOf]; omega
    · go_wp2
      go_ret
      exact ⟨rfl, HX.out⟩

set_option maxHeartbeats 1000000 in
set_option maxRecDepth 100000 in
theorem szBlobS_u (v : Value) (xs : List Bl) (l : Int) (w : World) (S : Nat → Prop) (h : RdN nrBlob w S v xs) (h0 : -1 ≤ l) (h1 : l ≤ 1048576) :
    Calls Try.prog 45 #[v, .int .i64 l] w fun e w' => e = .returned (.int .i64 (if l - (szW wBlob xs : Nat) < 0 then -1 else l - (szW wBlob xs : Nat))) ∧ Ext w w' := by
  rw [szW_eq]
  obtain ⟨A, cap, rfl, hcap, hlen⟩ := h.shape
  have H := Lib.hid h
  obtain ⟨T, hT⟩ : ∃ T, (xs.map wBlob).sum = T := ⟨_, rfl⟩
  have hle := fun k => sumW_le wBlob xs k
  rw [hT] at hle ⊢
  have HT := Lib.hid hT
  have HLE := Lib.hid hle
  clear h hT hle
  by_cases h2 : l - (xs.length : Int) < 0
  · rw [if_pos (by omega)]
    go_enter Try.func45, Try.ntmps45
    go_wp2
    go_ret
    exact ⟨rfl, Ext.refl _⟩
  · obtain ⟨z, hz⟩ : ∃ z : Int, (if l - ((xs.length + T : Nat) : Int) < 0 then -1 else l - ((xs.length + T : Nat) : Int)) = z := ⟨_, rfl⟩
    rw [hz]
    have HZ := Lib.hid hz
    clear hz
    go_enter Try.func45, Try.ntmps45
    go_wp2
    go_loopw [1, 5] (fun q i wr => ∃ k : Nat, k ≤ xs.length ∧ i = .int .i64 k ∧ q = .int .i64 (l - xs.length - (sumW wBlob xs k : Nat)) ∧ 0 ≤ l - (xs.length : Int) - (sumW wBlob xs k : Nat) ∧ Ext w wr) (fun _ i _ => xs.length - (intOf i).toNat)
    case atStart => exact ⟨0, by omega, rfl, by rw [sumW_zero]; simp, by rw [sumW_zero]; omega, Ext.refl _⟩
    case round =>
      obtain ⟨k, hk, rfl, rfl, hs, hx⟩ := hrel
      have HX := Lib.hid hx
      clear hx
      by_cases hlt : k < xs.length
      · obtain ⟨g, o, rfl, hs0, es, hes, hc, hR⟩ := H.out.elem k hlt
        have HD0 := Lib.hid (show ∀ j u, es[j]? = some u → wr.cell? ⟨g, o + k * 2 + j, none⟩ = some u from fun j u hu => HX.out.cell (hc j u hu))
        have HES := Lib.hid (show es.length = 2 from hes)
        have HSS := Lib.hid (sumW_succ wBlob xs k hlt)
        have hq := HLE.out (k + 1)
        rw [HSS.out] at hq
        have hcz := szBlob_w es.toArray xs[k] (l - xs.length - (sumW wBlob xs k : Nat)) wr S ((nrBlob).ext hR HX.out) (by omega) (by omega)
        clear hc hR hes
        have hi : (0 : Int) ≤ (k : Int) := by omega
        have hi2 : (k : Int) < (xs.length : Int) := by omega
        by_cases h3 : l - (xs.length : Int) - (sumW wBlob xs k : Nat) - (wBlob xs[k] : Nat) < 0
        · rw [if_pos h3] at hcz
          have HP := Lib.hid (show l - ((xs.length + T : Nat) : Int) < 0 by omega)
          have HCZ := Lib.hid hcz
          clear hcz
          go_wp2_with (refine wpl_load ⟨g, o + k * 2, none⟩ es (by rw [HES.out]; exact aggBlobL) rfl _ rfl rfl (fun j u hu => by rw [Addr.add_lit]; exact HD0.out j u hu) ?_)
          refine HCZ.out.mono ?_
          rintro e w1 ⟨rfl, hx⟩
          have HX2 := Lib.hid (HX.out.trans hx)
          clear hx
          go_wp2
          go_ret
          exact ⟨by rw [← HZ.out, if_pos HP.out]; rfl, HX2.out⟩
        · rw [if_neg h3] at hcz
          have HCZ := Lib.hid hcz
          clear hcz
          go_wp2_with (refine wpl_load ⟨g, o + k * 2, none⟩ es (by rw [HES.out]; exact aggBlobL) rfl _ rfl rfl (fun j u hu => by rw [Addr.add_lit]; exact HD0.out j u hu) ?_)
          refine HCZ.out.mono ?_
          rintro e w1 ⟨rfl, hx⟩
          have HX2 := Lib.hid (HX.out.trans hx)
          clear hx
          go_wp2
          go_roundw
          case rel => exact ⟨k + 1, by omega, by go_num, by rw [HSS.out]; go_num, by rw [HSS.out]; omega, HX2.out⟩
          case measure => simp [intOf]; omega
      · obtain rfl : k = xs.length := by omega
        have e : sumW wBlob xs xs.length = T := by rw [sumW, List.take_length]; exact HT.out
        have HE := Lib.hid e
        rw [e] at hs
        clear e
        have HP := Lib.hid (show ¬ l - ((xs.length + T : Nat) : Int) < 0 by omega)
        go_wp2
        go_ret
        exact ⟨by rw [← HZ.out, if_neg (Int.not_lt.2 HP.out), HE.out]; exact ret_int (by omega), HX.out⟩

/-- the cells of a store -/
def RStore (w : World) (S : Nat → Prop) (cs : Array Value) (x : List Bl) : Prop := ∃ v, cs = #[v] ∧ RdN nrBlob w S v x
section
variable {w w' : World} {S : Nat → Prop} {cs : Array Value} {x : List Bl}
theorem RStore.ext (h : RStore w S cs x) (e : Ext w w') : RStore w' S cs x := by
  obtain ⟨v, h1, h2⟩ := h
  exact ⟨v, h1, h2.ext e⟩
theorem RStore.st (h : RStore w S cs x) : St 1 cs := by
  obtain ⟨v, rfl, h2⟩ := h
  obtain ⟨A, cap, rfl, _⟩ := h2.shape
  exact ⟨rfl, fun u hu => by simp at hu; subst hu; rfl⟩
end
theorem aggStoreL : Agg Try.prog 30 1 := Agg.mkS (fs := _) Try.underlying30 (by kernel_rfl)
theorem aggStoreI : Agg Try.prog 35 1 := Agg.mkS (fs := _) Try.underlying35 (by kernel_rfl)
set_option maxHeartbeats 1000000 in
set_option maxRecDepth 100000 in
theorem szStore_u (cs : Array Value) (x : List Bl) (l : Int) (w : World) (S : Nat → Prop) (h : RStore w S cs x) (h0 : -1 ≤ l) (h1 : l ≤ 1048576) :
    Calls Try.prog 15 #[.agg cs, .int .i64 l] w fun e w' => e = .returned (.int .i64 (if l - (szW wBlob x : Nat) < 0 then -1 else l - (szW wBlob x : Nat))) ∧ Ext w w' := by
  obtain ⟨v, rfl, hr⟩ := h
  have hc := fun W hW => szBlobS_u v x l W S (hr.ext hW) h0 h1
  obtain ⟨A, cap, rfl, _⟩ := hr.shape
  clear hr
  by_cases h2 : l - (szW wBlob x : Nat) < 0
  · rw [if_pos h2]
    simp only [if_pos h2] at hc
    go_enter Try.func15, Try.ntmps15
    go_wp2_with fail
    refine (hc _ (ext_alloc _ _)).mono ?_
    rintro e w1 ⟨rfl, hx⟩
    have HX := Lib.hid ((ext_alloc _ _).trans hx)
    clear hx hc
    go_wp2
    go_ret
    exact ⟨rfl, HX.out⟩
  · rw [if_neg h2]
    simp only [if_neg h2] at hc
    go_enter Try.func15, Try.ntmps15
    go_wp2_with fail
    refine (hc _ (ext_alloc _ _)).mono ?_
    rintro e w1 ⟨rfl, hx⟩
    have HX := Lib.hid ((ext_alloc _ _).trans hx)
    clear hx hc
    go_wp2
    go_ret
    exact ⟨rfl, HX.out⟩
set_option maxHeartbeats 1000000 in
set_option maxRecDepth 100000 in
theorem toStore_u (cs : Array Value) (x : List Bl) (w : World) (S : Nat → Prop) (h : RStore w S cs x) (hln : x.length ≤ 1048576) :
    Calls Try.prog 17 #[.agg cs] w fun e w' => ∃ cs', e = .returned (.agg cs') ∧ RStore w' (fun g => w.heap.size ≤ g) cs' x ∧ Ext w w' := by
  obtain ⟨v, rfl, hr⟩ := h
  have hc := fun W hW => toBlobS_u v x W S (hr.ext hW) hln (fun _ _ => trivial)
  obtain ⟨A, cap, rfl, _⟩ := hr.shape
  clear hr
  go_enter Try.func17, Try.ntmps17
  go_wp2_with fail
  refine (hc _ (((ext_alloc _ _).alloc _).alloc _)).mono ?_
  rintro e w1 ⟨v', rfl, hr, hx⟩
  obtain ⟨B, bc, rfl, _⟩ := hr.shape
  have HR := Lib.hid (hr.mono (S' := fun q => w.heap.size + 3 ≤ q) (fun q hq => by simpa using hq))
  have XW := Lib.hid ((((ext_alloc w _).alloc _).alloc _).trans hx)
  have B1 := Lib.hid (((Blk.new' (g := w.heap.size + 1) (w := w.alloc (.cells #[.slice A x.length cap] 30)) (by simp) 35 #[.slice none 0 0]).alloc (.cells #[.slice none 0 0] 35)).ext hx)
  have B2 := Lib.hid ((Blk.new' (g := w.heap.size + 2) (w := (w.alloc (.cells #[.slice A x.length cap] 30)).alloc (.cells #[.slice none 0 0] 35)) (by simp) 35 #[.slice none 0 0]).ext hx)
  clear hr hx hc
  have d1 := B1.out.at_ 0 rfl
  have d2 := B2.out.at_ 0 rfl
  have f1 := B1.out.free 0
  have f2 := B2.out.free 0
  go_wp2_with fail
  have HB := Lib.hid ((B1.out.far (p := ⟨w.heap.size + 1 + 1, 0, none⟩) (by show w.heap.size + 1 ≠ w.heap.size + 1 + 1; omega) (.slice B x.length bc)).set 0 (.slice B x.length bc))
  refine bodyPost_ret (results_blkB rfl _ rfl aggStoreI rfl HB.out) rfl ?_
  refine ⟨_, rfl, ⟨_, rfl, ?_⟩, (XW.out.set (by simp <;> omega) _).set (by simp <;> omega) _⟩
  exact (((HR.out.far (p := ⟨w.heap.size + 1 + 1, 0, none⟩) (fun g hg => by have h2 : w.heap.size + 3 ≤ g := hg; show g ≠ w.heap.size + 1 + 1; omega) (.slice B x.length bc)).far (p := ⟨w.heap.size + 1, 0, none⟩) (fun g hg => by have h2 : w.heap.size + 3 ≤ g := hg; show g ≠ w.heap.size + 1; omega) (.slice B x.length bc)).mono (fun g hg => by have h2 : w.heap.size + 3 ≤ g := hg; show w.heap.size ≤ g; omega))
set_option maxHeartbeats 1000000 in
set_option maxRecDepth 100000 in
theorem eqStore_u (cs cs' : Array Value) (x : List Bl) (w : World) (S S' : Nat → Prop) (h : RStore w S cs x) (h' : RStore w S' cs' x) :
    Calls Try.prog 19 #[.agg cs, .agg cs'] w fun e w' => e = .returned (.bool true) ∧ Ext w w' := by
  obtain ⟨v, rfl, hr⟩ := h
  obtain ⟨v', rfl, hr'⟩ := h'
  have hc := fun W hW => eqBlobS_u v v' x W S S' (hr.ext hW) (hr'.ext hW)
  obtain ⟨A, cap, rfl, _⟩ := hr.shape
  obtain ⟨A', cap', rfl, _⟩ := hr'.shape
  clear hr hr'
  go_enter Try.func19, Try.ntmps19
  go_wp2_with fail
  refine (hc _ ((ext_alloc _ _).alloc _)).mono ?_
  rintro e w1 ⟨rfl, hx⟩
  have XW := Lib.hid (((ext_alloc w _).alloc _).trans hx)
  clear hx hc
  go_wp2_with fail
  go_ret
  exact ⟨rfl, XW.out⟩
end Go.Proofs.Yteegnbdgfedajaa
/- Whether two blobs are equal: the reference and the program. No condition. -/
namespace Go.Proofs.Yteegnbdgfedajaa
open Go.RowKit
set_option linter.unusedVariables false
set_option linter.unusedSimpArgs false

theorem strOf_eq {xs ys : List Int} (hx : B8 xs) (hy : B8 ys) : ((strOfNums xs).toList == (strOfNums ys).toList) = (xs == ys) := by
  rw [ByteArray.toList_eq, ByteArray.toList_eq, Bool.eq_iff_iff, beq_iff_eq, beq_iff_eq]
  constructor
  · intro h
    have h1 : xs.map (fun n => UInt8.ofNat n.toNat) = ys.map (fun n => UInt8.ofNat n.toNat) := h
    clear h
    induction xs generalizing ys with
    | nil => cases ys with
      | nil => rfl
      | cons y r => simp at h1
    | cons x r ih =>
      cases ys with
      | nil => simp at h1
      | cons y q =>
        simp only [List.map_cons, List.cons.injEq] at h1
        have a := hx x (by simp)
        have b := hy y (by simp)
        have e := congrArg UInt8.toNat h1.1
        simp only [UInt8.toNat_ofNat'] at e
        have : x = y := by omega
        rw [this, ih (fun z hz => hx z (by simp [hz])) (fun z hz => hy z (by simp [hz])) h1.2]
  · rintro rfl
    rfl
theorem conv_str {v : Value} {xs : List Int} {w : World} {S : Nat → Prop} (h : RdL tByte w S v xs) : (convert 22 9 v).run Try.prog w = .ok (.string (strOfNums xs)) w := by
  obtain ⟨A, cap, rfl, hcap, hlen, hrd, hok⟩ := h
  rw [flat_bytes] at hrd
  rcases Nat.eq_zero_or_pos xs.length with h0 | h0
  · obtain rfl : xs = [] := List.eq_nil_of_length_eq_zero h0
    rw [run_convert_bytes_string w _ _ _ A _ cap Try.underlying22 Try.underlying5 Try.underlying9]
    cases A <;> simp [Conv.bytesToString, loadCells] <;> rfl
  · obtain ⟨g, o, rfl, _, hc⟩ := hrd.2 h0
    exact run_convert_bytes_arg w _ _ Try.underlying22 Try.underlying5 g o xs.length cap xs rfl (fun i hi => hc i _ (nums_at _ _ _ hi)) _ Try.underlying9

set_option maxHeartbeats 400000 in
theorem bytesEqual_any (v u : Value) (xs ys : List Int) (w : World) (S S' : Nat → Prop) (h : RdL tByte w S v xs) (h' : RdL tByte w S' u ys) :
    Calls Try.prog 81 #[v, u] w fun e w' => e = .returned (.bool (xs == ys)) ∧ w = w' := by
  have e1 := conv_str h
  have e2 := conv_str h'
  obtain ⟨A, cap, rfl, _, _, _, hok⟩ := h
  obtain ⟨A', cap', rfl, _, _, _, hok'⟩ := h'
  have he := Lib.hid (strOf_eq hok hok')
  go_enter Try.func81, Try.ntmps81
  go_wp2
  go_ret
  exact ⟨by rw [← he.out]; rfl, rfl⟩

set_option maxHeartbeats 1000000 in
theorem l05SameBlob_any (g o g' o' : Nat) (t u : Int) (v v' : Value) (xs ys : List Int) (w : World) (S S' : Nat → Prop) (h : RdL tByte w S v xs) (h' : RdL tByte w S' v' ys)
    (ha0 : w.cell? ⟨g, o, none⟩ = some (.int .u8 t)) (ha1 : w.cell? ⟨g, o + 1, none⟩ = some v) (hb0 : w.cell? ⟨g', o', none⟩ = some (.int .u8 u)) (hb1 : w.cell? ⟨g', o' + 1, none⟩ = some v') :
    Calls Try.prog 46 #[.pointer (some ⟨g, o, none⟩), .pointer (some ⟨g', o', none⟩)] w fun e w' => e = .returned (.bool (t == u && xs == ys)) ∧ Drawn w w' := by
  obtain ⟨A, cap, rfl, _, _⟩ := id h
  obtain ⟨A', cap', rfl, _, _⟩ := id h'
  have hc := fun n => l01Bytes_any _ _ xs ys (w.drewN n) S S' (h.ext (by decide) ((Ext.refl _).drewN n)) (h'.ext (by decide) ((Ext.refl _).drewN n))
  generalize (xs == ys) = q at hc ⊢
  have HC := Lib.hid hc
  clear hc h h'
  by_cases ht : t = u
  · subst ht
    have hne : (t == t) = true := by simp
    have hp : (t == t && q) = q := by simp
    rw [hp]
    clear hp
    go_enter Try.func46, Try.ntmps46
    go_wp2_with fail
    go_quiet ((go_at_call 54; exact Calls.quiet_of (HC.out _)))
    go_wp2_with fail
    go_ret
    exact ⟨rfl, ⟨_, rfl⟩⟩
  · have hne : (t == u) = false := by simpa using ht
    have hp : (t == u && q) = false := by simp [ht]
    rw [hp]
    clear hp ht
    go_enter Try.func46, Try.ntmps46
    go_wp2_with fail
    go_quiet (fail)
    go_wp2_with fail
    go_ret
    exact ⟨rfl, ⟨_, rfl⟩⟩

set_option maxHeartbeats 1000000 in
theorem implSameBlob_any (t u : Int) (v v' : Value) (xs ys : List Int) (w : World) (S S' : Nat → Prop) (h : RdL tByte w S v xs) (h' : RdL tByte w S' v' ys) :
    Calls Try.prog 49 #[.agg #[.int .u8 t, v], .agg #[.int .u8 u, v']] w fun e w' => e = .returned (.bool (t == u && xs == ys)) ∧ Ext w w' := by
  obtain ⟨A, cap, rfl, _, _⟩ := id h
  obtain ⟨A', cap', rfl, _, _⟩ := id h'
  have hc := fun a b => bytesEqual_any _ _ xs ys ((w.alloc a).alloc b) S S' (h.ext (by decide) ((ext_alloc w a).alloc b)) (h'.ext (by decide) ((ext_alloc w a).alloc b))
  generalize (xs == ys) = q at hc ⊢
  have HC := Lib.hid hc
  clear hc h h'
  by_cases ht : t = u
  · subst ht
    have hne : (t == t) = true := by simp
    have hp : (t == t && q) = q := by simp
    rw [hp]
    clear hp
    go_enter Try.func49, Try.ntmps49
    go_wp2_with (go_at_call 81; refine (HC.out _ _).mono ?_; rintro e w' ⟨rfl, rfl⟩)
    go_ret
    exact ⟨rfl, (ext_alloc _ _).alloc _⟩
  · have hne : (t == u) = false := by simpa using ht
    have hp : (t == u && q) = false := by simp [ht]
    rw [hp]
    clear hp ht
    go_enter Try.func49, Try.ntmps49
    go_wp2_with fail
    go_ret
    exact ⟨rfl, (ext_alloc _ _).alloc _⟩

end Go.Proofs.Yteegnbdgfedajaa
/- Equal lists of blobs: the reference and the program. No condition. -/
namespace Go.Proofs.Yteegnbdgfedajaa
open Go.RowKit
set_option linter.unusedVariables false
set_option linter.unusedSimpArgs false

def sameBl (x y : Bl) : Bool := x.1 == y.1 && x.2 == y.2
theorem sameBlob_w (cs cs' : Array Value) (x y : Bl) (w : World) (S S' : Nat → Prop) (h : nrBlob.R w S cs x) (h' : nrBlob.R w S' cs' y) :
    Calls Try.prog 49 #[.agg cs, .agg cs'] w fun e w' => e = .returned (.bool (sameBl x y)) ∧ Ext w w' := by
  obtain ⟨v, rfl, hr, _⟩ := h
  obtain ⟨v', rfl, hr', _⟩ := h'
  exact implSameBlob_any x.1 y.1 v v' x.2 y.2 w S S' hr hr'
set_option maxHeartbeats 2000000 in
set_option maxRecDepth 100000 in
theorem eqFuncBlob (v u : Value) (xs ys : List Bl) (w : World) (S S' : Nat → Prop) (h : RdN nrBlob w S v xs) (h' : RdN nrBlob w S' u ys) :
    Calls Try.prog 48 #[v, u, .func (.func 49) #[] #[]] w fun e w' => e = .returned (.bool (allSame sameBl xs ys)) ∧ Ext w w' := by
  obtain ⟨A, cap, rfl, hcap, hlen⟩ := h.shape
  obtain ⟨A', cap', rfl, hcap', hlen'⟩ := h'.shape
  have H := Lib.hid h
  have H' := Lib.hid h'
  clear h h'
  obtain ⟨R, hR⟩ : ∃ R, allSame sameBl xs ys = R := ⟨_, rfl⟩
  rw [hR]
  have HRR := Lib.hid hR
  clear hR
  by_cases hl : xs.length = ys.length
  rotate_left
  · have hl1 : ((xs.length : Int) != (ys.length : Int)) = true := by rw [bne_iff_ne]; omega
    have HN := Lib.hid (allSame_len (f := sameBl) hl)
    clear hl
    go_enter Try.func48, Try.ntmps48
    go_wp2
    go_ret
    exact ⟨by rw [← HRR.out, HN.out]; rfl, Ext.refl _⟩
  have hl1 : ((xs.length : Int) != (ys.length : Int)) = false := by simp [hl]
  have HL := Lib.hid hl
  clear hl
  go_enter Try.func48, Try.ntmps48
  go_wp2
  go_loopw [17] (fun i wr => ∃ k : Nat, k ≤ xs.length ∧ i = .int .i64 k ∧ (∀ p (hp : p < xs.length) (hp' : p < ys.length), p < k → sameBl xs[p] ys[p] = true) ∧ Ext w wr) (fun i _ => xs.length - (intOf i).toNat)
  case atStart => exact ⟨0, by omega, rfl, fun p hp hp' h => by omega, Ext.refl _⟩
  case round =>
    obtain ⟨k, hk, rfl, hm, hx⟩ := hrel
    have HX := Lib.hid hx
    have HM := Lib.hid hm
    clear hx hm hl1
    by_cases hlt : k < xs.length
    · have hlt' : k < ys.length := by have := HL.out; omega
      obtain ⟨g, o, rfl, hs, es, hes, hc, hR⟩ := H.out.elem k hlt
      obtain ⟨g2, o2, rfl, hs2, es2, hes2, hc2, hR2⟩ := H'.out.elem k hlt'
      have HD := Lib.hid (show ∀ j u, es[j]? = some u → wr.cell? ⟨g, o + k * 2 + j, none⟩ = some u from fun j u hu => HX.out.cell (hc j u hu))
      have HD2 := Lib.hid (show ∀ j u, es2[j]? = some u → wr.cell? ⟨g2, o2 + k * 2 + j, none⟩ = some u from fun j u hu => HX.out.cell (hc2 j u hu))
      have HD2' := Lib.hid (show ∀ ob j u, es2[j]? = some u → (wr.alloc ob).cell? ⟨g2, o2 + k * 2 + j, none⟩ = some u from fun ob j u hu => (ext_alloc wr ob).cell (HD2.out j u hu))
      have HR := Lib.hid ((nrBlob).ext hR HX.out)
      have HR2 := Lib.hid ((nrBlob).ext hR2 HX.out)
      have HES := Lib.hid (show es.length = 2 from hes)
      have HES2 := Lib.hid (show es2.length = 2 from hes2)
      have HST := Lib.hid (show St 2 es.toArray from (nrBlob).st HR.out)
      have HST2 := Lib.hid (show St 2 es2.toArray from (nrBlob).st HR2.out)
      have hz1 := HST.out.size
      have hz2 := HST2.out.size
      have hct := fun W hW => sameBlob_w es.toArray es2.toArray xs[k] ys[k] W S S' ((nrBlob).ext HR.out hW) ((nrBlob).ext HR2.out hW)
      clear hc hc2 hR hR2 hes hes2
      have hi : (0 : Int) ≤ (k : Int) := by omega
      have hi2 : (k : Int) < (xs.length : Int) := by omega
      have hi3 : (k : Int) < (ys.length : Int) := by omega
      cases hq : sameBl xs[k] ys[k] with
      | true =>
        rw [hq] at hct
        have HQ := Lib.hid hq
        have HCT := Lib.hid hct
        clear hq hct
        go_wp2_with (first
          | (refine wpl_load ⟨g, o + k * 2, none⟩ es (by rw [HES.out]; exact aggBlobI) rfl _ rfl rfl (fun j u hu => by rw [Addr.add_lit]; exact HD.out j u hu) ?_)
          | (refine wpl_load ⟨g2, o2 + k * 2, none⟩ es2 (by rw [HES2.out]; exact aggBlobI) rfl _ rfl rfl (fun j u hu => by rw [Addr.add_lit]; exact HD2'.out _ j u hu) ?_)
          | (refine wpl_storeNewB aggBlobI HST.out rfl rfl _ _ rfl rfl rfl rfl ?_)
          | (refine wpl_storeNewG (g := wr.heap.size + 1) (w := wr.alloc _) (by simp) aggBlobI HST2.out rfl rfl _ _ rfl rfl rfl rfl ?_)
          | (refine wpl_loadB ((Blk.new wr 65 es.toArray).alloc _) aggBlobI hz1 rfl _ rfl rfl ?_)
          | (refine wpl_loadB (Blk.new' (g := wr.heap.size + 1) (w := wr.alloc _) (by simp) 65 es2.toArray) aggBlobI hz2 rfl _ rfl rfl ?_))
        refine (HCT.out _ ((ext_alloc _ _).alloc _)).mono ?_
        rintro e w1 ⟨rfl, hx⟩
        have HX1 := Lib.hid (((HX.out.alloc _).alloc _).trans hx)
        clear hx
        go_wp2
        go_roundw
        case rel => exact ⟨k + 1, by omega, by go_num, fun p hp hp' h => by
          by_cases e : p = k
          · subst e; exact HQ.out
          · exact HM.out p hp hp' (by omega), HX1.out⟩
        case measure => simp [intOf]; omega
      | false =>
        rw [hq] at hct
        have HQ := Lib.hid (allSame_no k hlt hlt' hq)
        have HCT := Lib.hid hct
        clear hq hct
        go_wp2_with (first
          | (refine wpl_load ⟨g, o + k * 2, none⟩ es (by rw [HES.out]; exact aggBlobI) rfl _ rfl rfl (fun j u hu => by rw [Addr.add_lit]; exact HD.out j u hu) ?_)
          | (refine wpl_load ⟨g2, o2 + k * 2, none⟩ es2 (by rw [HES2.out]; exact aggBlobI) rfl _ rfl rfl (fun j u hu => by rw [Addr.add_lit]; exact HD2'.out _ j u hu) ?_)
          | (refine wpl_storeNewB aggBlobI HST.out rfl rfl _ _ rfl rfl rfl rfl ?_)
          | (refine wpl_storeNewG (g := wr.heap.size + 1) (w := wr.alloc _) (by simp) aggBlobI HST2.out rfl rfl _ _ rfl rfl rfl rfl ?_)
          | (refine wpl_loadB ((Blk.new wr 65 es.toArray).alloc _) aggBlobI hz1 rfl _ rfl rfl ?_)
          | (refine wpl_loadB (Blk.new' (g := wr.heap.size + 1) (w := wr.alloc _) (by simp) 65 es2.toArray) aggBlobI hz2 rfl _ rfl rfl ?_))
        refine (HCT.out _ ((ext_alloc _ _).alloc _)).mono ?_
        rintro e w1 ⟨rfl, hx⟩
        have HX1 := Lib.hid (((HX.out.alloc _).alloc _).trans hx)
        clear hx
        go_wp2
        go_ret
        exact ⟨by rw [← HRR.out, HQ.out]; rfl, HX1.out⟩
    · obtain rfl : k = xs.length := by omega
      have HQ := Lib.hid (allSame_yes (f := sameBl) HL.out fun p hp hp' => HM.out p hp hp' hp)
      go_wp2
      go_ret
      exact ⟨by rw [← HRR.out, HQ.out]; rfl, HX.out⟩

end Go.Proofs.Yteegnbdgfedajaa
/- Equal stores: the reference and the program. No condition. -/
namespace Go.Proofs.Yteegnbdgfedajaa
open Go.RowKit
set_option linter.unusedVariables false
set_option linter.unusedSimpArgs false

set_option maxHeartbeats 1000000 in
set_option maxRecDepth 100000 in
theorem implSameStore_u (cs cs' : Array Value) (x y : List Bl) (w : World) (S S' : Nat → Prop) (h : RStore w S cs x) (h' : RStore w S' cs' y) :
    Calls Try.prog 18 #[.agg cs, .agg cs'] w fun e w' => e = .returned (.bool (allSame sameBl x y)) ∧ Ext w w' := by
  obtain ⟨v, rfl, hr⟩ := h
  obtain ⟨v', rfl, hr'⟩ := h'
  have hc := fun W hW => eqFuncBlob v v' x y W S S' (hr.ext hW) (hr'.ext hW)
  obtain ⟨A, cap, rfl, _⟩ := hr.shape
  obtain ⟨A', cap', rfl, _⟩ := hr'.shape
  clear hr hr'
  go_enter Try.func18, Try.ntmps18
  go_wp2_with fail
  refine (hc _ ((ext_alloc _ _).alloc _)).mono ?_
  rintro e w1 ⟨rfl, hx⟩
  have XW := Lib.hid (((ext_alloc w _).alloc _).trans hx)
  clear hx hc
  go_wp2_with fail
  go_ret
  exact ⟨rfl, XW.out⟩
set_option maxHeartbeats 2000000 in
set_option maxRecDepth 100000 in
theorem specSameStore_u (cs cs' : Array Value) (x y : List Bl) (w : World) (S S' : Nat → Prop) (h : RStore w S cs x) (h' : RStore w S' cs' y) :
    Calls Try.prog 16 #[.agg cs, .agg cs'] w fun e w' => e = .returned (.bool (allSame sameBl x y)) ∧ Ext w w' := by
  obtain ⟨v, rfl, hr⟩ := h
  obtain ⟨v', rfl, hr'⟩ := h'
  obtain ⟨A, cap, rfl, hcap, hlen⟩ := hr.shape
  obtain ⟨A', cap', rfl, hcap', hlen'⟩ := hr'.shape
  have H := Lib.hid hr
  have H' := Lib.hid hr'
  clear hr hr'
  obtain ⟨R, hR⟩ : ∃ R, allSame sameBl x y = R := ⟨_, rfl⟩
  rw [hR]
  have HRR := Lib.hid hR
  clear hR
  by_cases hl : x.length = y.length
  rotate_left
  · have hl1 : ((x.length : Int) != (y.length : Int)) = true := by rw [bne_iff_ne]; omega
    have HN := Lib.hid (allSame_len (f := sameBl) hl)
    clear hl
    go_enter Try.func16, Try.ntmps16
    go_wp2
    go_ret
    exact ⟨by rw [← HRR.out, HN.out]; rfl, (ext_alloc _ _).alloc _⟩
  have hl1 : ((x.length : Int) != (y.length : Int)) = false := by simp [hl]
  have HL := Lib.hid hl
  clear hl
  go_enter Try.func16, Try.ntmps16
  go_wp2
  have B0 := Lib.hid ((Blk.new w 35 #[.slice A x.length cap]).alloc (.cells #[.slice A' y.length cap'] 35))
  have B1 := Lib.hid (Blk.new' (g := w.heap.size + 1) (w := w.alloc (.cells #[.slice A x.length cap] 35)) (by simp) 35 #[.slice A' y.length cap'])
  have X0 := Lib.hid ((ext_alloc w (.cells #[.slice A x.length cap] 35)).alloc (.cells #[.slice A' y.length cap'] 35))
  generalize (w.alloc (.cells #[.slice A x.length cap] 35)).alloc (.cells #[.slice A' y.length cap'] 35) = w0 at B0 B1 X0 ⊢
  go_loopw [5] (fun i wr => ∃ k : Nat, k ≤ x.length ∧ i = .int .i64 k ∧ (∀ p (hp : p < x.length) (hp' : p < y.length), p < k → sameBl x[p] y[p] = true) ∧ Ext w0 wr) (fun i _ => x.length - (intOf i).toNat)
  case atStart => exact ⟨0, by omega, rfl, fun p hp hp' h => by omega, Ext.refl _⟩
  case round =>
    obtain ⟨k, hk, rfl, hm, hx⟩ := hrel
    have HX := Lib.hid hx
    have HM := Lib.hid hm
    have d0 := (B0.out.ext hx).at_ 0 rfl
    have d1 := (B1.out.ext hx).at_ 0 rfl
    clear hx hm hl1
    by_cases hlt : k < x.length
    · have hlt' : k < y.length := by have := HL.out; omega
      obtain ⟨g, o, rfl, hs, es, hes, hc, hR⟩ := H.out.elem k hlt
      obtain ⟨g2, o2, rfl, hs2, es2, hes2, hc2, hR2⟩ := H'.out.elem k hlt'
      obtain ⟨v1, e1, hv1, _⟩ := id hR
      obtain ⟨v2, e2, hv2, _⟩ := id hR2
      have hE1 : es = [.int .u8 x[k].1, v1] := by have := congrArg Array.toList e1; simpa using this
      have hE2 : es2 = [.int .u8 y[k].1, v2] := by have := congrArg Array.toList e2; simpa using this
      subst hE1 hE2
      have HXT := Lib.hid (X0.out.trans HX.out)
      have HV1 := Lib.hid (hv1.ext (by decide) HXT.out)
      have HV2 := Lib.hid (hv2.ext (by decide) HXT.out)
      have HC := Lib.hid (show ∀ W, Ext wr W → W.cell? ⟨g, o + k * 2, none⟩ = some (.int .u8 x[k].1) ∧ W.cell? ⟨g, o + k * 2 + 1, none⟩ = some v1 from fun W hW => ⟨(HXT.out.trans hW).cell (hc 0 _ rfl), (HXT.out.trans hW).cell (hc 1 _ rfl)⟩)
      have HC2 := Lib.hid (show ∀ W, Ext wr W → W.cell? ⟨g2, o2 + k * 2, none⟩ = some (.int .u8 y[k].1) ∧ W.cell? ⟨g2, o2 + k * 2 + 1, none⟩ = some v2 from fun W hW => ⟨(HXT.out.trans hW).cell (hc2 0 _ rfl), (HXT.out.trans hW).cell (hc2 1 _ rfl)⟩)
      have hd0 : ∀ W, Ext wr W → W.cell? ⟨w.heap.size, 0, none⟩ = some (.slice (some ⟨g, o, none⟩) x.length cap) := fun W hW => hW.cell d0
      have hd1 : ∀ W, Ext wr W → W.cell? ⟨w.heap.size + 1, 0, none⟩ = some (.slice (some ⟨g2, o2, none⟩) y.length cap') := fun W hW => hW.cell d1
      clear hc hc2 hR hR2 hes hes2 e1 e2 hv1 hv2
      have hi : (0 : Int) ≤ (k : Int) := by omega
      have hi2 : (k : Int) < (x.length : Int) := by omega
      have hi3 : (k : Int) < (y.length : Int) := by omega
      have hct := fun W hW => l05SameBlob_any g (o + k * 2) g2 (o2 + k * 2) x[k].1 y[k].1 v1 v2 x[k].2 y[k].2 W S S' (HV1.out.ext (by decide) hW) (HV2.out.ext (by decide) hW) (HC.out W hW).1 (HC.out W hW).2 (HC2.out W hW).1 (HC2.out W hW).2
      cases hq : sameBl x[k] y[k] with

      | true =>
        have hct2 : ∀ W, Ext wr W → Calls Try.prog 46 #[.pointer (some ⟨g, o + k * 2, none⟩), .pointer (some ⟨g2, o2 + k * 2, none⟩)] W fun e w' => e = .returned (.bool true) ∧ Drawn W w' := fun W hW => by have := hct W hW; rw [show (x[k].1 == y[k].1 && x[k].2 == y[k].2) = true from hq] at this; exact this
        have HQ := Lib.hid hq
        have HCT := Lib.hid hct2
        clear hq hct hct2
        go_wp2_with fail
        refine wp_region_held_drew (S := fun W => Ext wr W) (by kernel_rfl) (Ext.refl _).drew (fun hHeld => ?_)
        refine wpAnyH_take (i := 0) (oi := ?oiz1) (v := ?vz1) ?hiz1 (by kernel_rfl) (by kernel_rfl) (by kernel_rfl) ?hQz1 ?hyz1 (by assumption) ?restz1
        case hiz1 => simp only [List.getElem?_toArray, List.getElem?_cons_zero, List.getElem?_cons_succ]; rfl
        case hQz1 => exact fun _ _ _ h => h
        case hyz1 => exact Or.inl ⟨by rfl, by intro w hSw; (try dsimp only at hSw); go_simp; with_reducible rfl⟩
        try simp only [Act.put, List.setIfInBounds_toArray, List.set_cons_zero, List.set_cons_succ]
        refine wpAnyH_take (i := 1) (oi := ?oiz2) (v := ?vz2) ?hiz2 (by kernel_rfl) (by kernel_rfl) (by kernel_rfl) ?hQz2 ?hyz2 (by assumption) ?restz2
        case hiz2 => simp only [List.getElem?_toArray, List.getElem?_cons_zero, List.getElem?_cons_succ]; rfl
        case hQz2 => exact fun _ _ _ h => h
        case hyz2 => exact Or.inl ⟨by rfl, by intro w hSw; (try dsimp only at hSw); have q0 := hd0 _ hSw; have q1 := hd1 _ hSw; go_simp; with_reducible rfl⟩
        try simp only [Act.put, List.setIfInBounds_toArray, List.set_cons_zero, List.set_cons_succ]
        refine wpAnyH_take (i := 2) (oi := ?oiz3) (v := ?vz3) ?hiz3 (by kernel_rfl) (by kernel_rfl) (by kernel_rfl) ?hQz3 ?hyz3 (by assumption) ?restz3
        case hiz3 => simp only [List.getElem?_toArray, List.getElem?_cons_zero, List.getElem?_cons_succ]; rfl
        case hQz3 => exact fun _ _ _ h => h
        case hyz3 => exact Or.inl ⟨by rfl, by intro w hSw; (try dsimp only at hSw); go_simp; with_reducible rfl⟩
        try simp only [Act.put, List.setIfInBounds_toArray, List.set_cons_zero, List.set_cons_succ]
        refine wpAnyH_take (i := 3) (oi := ?oiz4) (v := ?vz4) ?hiz4 (by kernel_rfl) (by kernel_rfl) (by kernel_rfl) ?hQz4 ?hyz4 (by assumption) ?restz4
        case hiz4 => simp only [List.getElem?_toArray, List.getElem?_cons_zero, List.getElem?_cons_succ]; rfl
        case hQz4 => exact fun _ _ _ h => h
        case hyz4 => exact Or.inl ⟨by rfl, by intro w hSw; (try dsimp only at hSw); go_simp; with_reducible rfl⟩
        try simp only [Act.put, List.setIfInBounds_toArray, List.set_cons_zero, List.set_cons_succ]
        refine wpAnyH_take (i := 4) (oi := ?oiz5) (v := ?vz5) ?hiz5 (by kernel_rfl) (by kernel_rfl) (by kernel_rfl) ?hQz5 ?hyz5 (by assumption) ?restz5
        case hiz5 => simp only [List.getElem?_toArray, List.getElem?_cons_zero, List.getElem?_cons_succ]; rfl
        case hQz5 => exact fun _ _ _ h => h
        case hyz5 => exact Or.inl ⟨by rfl, by intro w hSw; (try dsimp only at hSw); go_simp; with_reducible rfl⟩
        try simp only [Act.put, List.setIfInBounds_toArray, List.set_cons_zero, List.set_cons_succ]
        refine wpAnyH_take (i := 5) (oi := ?oiz6) (v := ?vz6) ?hiz6 (by kernel_rfl) (by kernel_rfl) (by kernel_rfl) ?hQz6 ?hyz6 (by assumption) ?restz6
        case hiz6 => simp only [List.getElem?_toArray, List.getElem?_cons_zero, List.getElem?_cons_succ]; rfl
        case hQz6 => exact fun _ _ _ h => h
        case hyz6 => exact Or.inl ⟨by rfl, by intro w hSw; (try dsimp only at hSw); have q0 := hd0 _ hSw; have q1 := hd1 _ hSw; go_simp; with_reducible rfl⟩
        try simp only [Act.put, List.setIfInBounds_toArray, List.set_cons_zero, List.set_cons_succ]
        refine wpAnyH_take (i := 6) (oi := ?oiz7) (v := ?vz7) ?hiz7 (by kernel_rfl) (by kernel_rfl) (by kernel_rfl) ?hQz7 ?hyz7 (by assumption) ?restz7
        case hiz7 => simp only [List.getElem?_toArray, List.getElem?_cons_zero, List.getElem?_cons_succ]; rfl
        case hQz7 => exact fun _ _ _ h => h
        case hyz7 => exact Or.inl ⟨by rfl, by intro w hSw; (try dsimp only at hSw); go_simp; with_reducible rfl⟩
        try simp only [Act.put, List.setIfInBounds_toArray, List.set_cons_zero, List.set_cons_succ]
        refine wpAnyH_take (i := 7) (oi := ?oiz8) (v := ?vz8) ?hiz8 (by kernel_rfl) (by kernel_rfl) (by kernel_rfl) ?hQz8 ?hyz8 (by assumption) ?restz8
        case hiz8 => simp only [List.getElem?_toArray, List.getElem?_cons_zero, List.getElem?_cons_succ]; rfl
        case hQz8 => exact fun _ _ _ h => h
        case hyz8 => exact Or.inl ⟨by rfl, by intro w hSw; (try dsimp only at hSw); go_simp; with_reducible rfl⟩
        try simp only [Act.put, List.setIfInBounds_toArray, List.set_cons_zero, List.set_cons_succ]
        refine wpAnyH_ready (rs := [8]) (by kernel_rfl) (by simp) (AllReadyH.cons (o := ?oy98) ?hy98 (fun K hK => ?sy98) AllReadyH.nil)
        case hy98 => simp only [List.getElem?_toArray, List.getElem?_cons_zero, List.getElem?_cons_succ]; rfl
        go_simp
        refine (HCT.out _ hHeld).mono ?_
        rintro e w1 ⟨rfl, hD⟩
        have hx := hD.ext
        clear hD
        have hH2 := hHeld.trans hx
        refine hK.out _ _ hH2 (fun _ => ?_)
        clear hHeld hK K
        have hHeld := hH2
        clear hH2
        try simp only [Act.put, List.setIfInBounds_toArray, List.set_cons_zero, List.set_cons_succ]
        refine wpAnyH_take (i := 9) (oi := ?oiz10) (v := ?vz10) ?hiz10 (by kernel_rfl) (by kernel_rfl) (by kernel_rfl) ?hQz10 ?hyz10 (by assumption) ?restz10
        case hiz10 => simp only [List.getElem?_toArray, List.getElem?_cons_zero, List.getElem?_cons_succ]; rfl
        case hQz10 => exact fun _ _ _ h => h
        case hyz10 => exact Or.inl ⟨by rfl, by intro w hSw; (try dsimp only at hSw); go_simp; with_reducible rfl⟩
        try simp only [Act.put, List.setIfInBounds_toArray, List.set_cons_zero, List.set_cons_succ]
        refine wpAnyH_done (by kernel_rfl) ?_ _
        have HX1 := Lib.hid (HX.out.trans hHeld)
        clear hHeld
        go_wp2
        go_roundw
        case rel => exact ⟨k + 1, by omega, by go_num, fun p hp hp' h => by
          by_cases e : p = k
          · subst e; exact HQ.out
          · exact HM.out p hp hp' (by omega), HX1.out⟩
        case measure => simp [intOf]; omega
      | false =>
        have hct2 : ∀ W, Ext wr W → Calls Try.prog 46 #[.pointer (some ⟨g, o + k * 2, none⟩), .pointer (some ⟨g2, o2 + k * 2, none⟩)] W fun e w' => e = .returned (.bool false) ∧ Drawn W w' := fun W hW => by have := hct W hW; rw [show (x[k].1 == y[k].1 && x[k].2 == y[k].2) = false from hq] at this; exact this
        have HQ := Lib.hid (allSame_no k hlt hlt' hq)
        have HCT := Lib.hid hct2
        clear hq hct hct2
        go_wp2_with fail
        refine wp_region_held_drew (S := fun W => Ext wr W) (by kernel_rfl) (Ext.refl _).drew (fun hHeld => ?_)
        refine wpAnyH_take (i := 0) (oi := ?oiz11) (v := ?vz11) ?hiz11 (by kernel_rfl) (by kernel_rfl) (by kernel_rfl) ?hQz11 ?hyz11 (by assumption) ?restz11
        case hiz11 => simp only [List.getElem?_toArray, List.getElem?_cons_zero, List.getElem?_cons_succ]; rfl
        case hQz11 => exact fun _ _ _ h => h
        case hyz11 => exact Or.inl ⟨by rfl, by intro w hSw; (try dsimp only at hSw); go_simp; with_reducible rfl⟩
        try simp only [Act.put, List.setIfInBounds_toArray, List.set_cons_zero, List.set_cons_succ]
        refine wpAnyH_take (i := 1) (oi := ?oiz12) (v := ?vz12) ?hiz12 (by kernel_rfl) (by kernel_rfl) (by kernel_rfl) ?hQz12 ?hyz12 (by assumption) ?restz12
        case hiz12 => simp only [List.getElem?_toArray, List.getElem?_cons_zero, List.getElem?_cons_succ]; rfl
        case hQz12 => exact fun _ _ _ h => h
        case hyz12 => exact Or.inl ⟨by rfl, by intro w hSw; (try dsimp only at hSw); have q0 := hd0 _ hSw; have q1 := hd1 _ hSw; go_simp; with_reducible rfl⟩
        try simp only [Act.put, List.setIfInBounds_toArray, List.set_cons_zero, List.set_cons_succ]
        refine wpAnyH_take (i := 2) (oi := ?oiz13) (v := ?vz13) ?hiz13 (by kernel_rfl) (by kernel_rfl) (by kernel_rfl) ?hQz13 ?hyz13 (by assumption) ?restz13
        case hiz13 => simp only [List.getElem?_toArray, List.getElem?_cons_zero, List.getElem?_cons_succ]; rfl
        case hQz13 => exact fun _ _ _ h => h
        case hyz13 => exact Or.inl ⟨by rfl, by intro w hSw; (try dsimp only at hSw); go_simp; with_reducible rfl⟩
        try simp only [Act.put, List.setIfInBounds_toArray, List.set_cons_zero, List.set_cons_succ]
        refine wpAnyH_take (i := 3) (oi := ?oiz14) (v := ?vz14) ?hiz14 (by kernel_rfl) (by kernel_rfl) (by kernel_rfl) ?hQz14 ?hyz14 (by assumption) ?restz14
        case hiz14 => simp only [List.getElem?_toArray, List.getElem?_cons_zero, List.getElem?_cons_succ]; rfl
        case hQz14 => exact fun _ _ _ h => h
        case hyz14 => exact Or.inl ⟨by rfl, by intro w hSw; (try dsimp only at hSw); go_simp; with_reducible rfl⟩
        try simp only [Act.put, List.setIfInBounds_toArray, List.set_cons_zero, List.set_cons_succ]
        refine wpAnyH_take (i := 4) (oi := ?oiz15) (v := ?vz15) ?hiz15 (by kernel_rfl) (by kernel_rfl) (by kernel_rfl) ?hQz15 ?hyz15 (by assumption) ?restz15
        case hiz15 => simp only [List.getElem?_toArray, List.getElem?_cons_zero, List.getElem?_cons_succ]; rfl
        case hQz15 => exact fun _ _ _ h => h
        case hyz15 => exact Or.inl ⟨by rfl, by intro w hSw; (try dsimp only at hSw); go_simp; with_reducible rfl⟩
        try simp only [Act.put, List.setIfInBounds_toArray, List.set_cons_zero, List.set_cons_succ]
        refine wpAnyH_take (i := 5) (oi := ?oiz16) (v := ?vz16) ?hiz16 (by kernel_rfl) (by kernel_rfl) (by kernel_rfl) ?hQz16 ?hyz16 (by assumption) ?restz16
        case hiz16 => simp only [List.getElem?_toArray, List.getElem?_cons_zero, List.getElem?_cons_succ]; rfl
        case hQz16 => exact fun _ _ _ h => h
        case hyz16 => exact Or.inl ⟨by rfl, by intro w hSw; (try dsimp only at hSw); have q0 := hd0 _ hSw; have q1 := hd1 _ hSw; go_simp; with_reducible rfl⟩
        try simp only [Act.put, List.setIfInBounds_toArray, List.set_cons_zero, List.set_cons_succ]
        refine wpAnyH_take (i := 6) (oi := ?oiz17) (v := ?vz17) ?hiz17 (by kernel_rfl) (by kernel_rfl) (by kernel_rfl) ?hQz17 ?hyz17 (by assumption) ?restz17
        case hiz17 => simp only [List.getElem?_toArray, List.getElem?_cons_zero, List.getElem?_cons_succ]; rfl
        case hQz17 => exact fun _ _ _ h => h
        case hyz17 => exact Or.inl ⟨by rfl, by intro w hSw; (try dsimp only at hSw); go_simp; with_reducible rfl⟩
        try simp only [Act.put, List.setIfInBounds_toArray, List.set_cons_zero, List.set_cons_succ]
        refine wpAnyH_take (i := 7) (oi := ?oiz18) (v := ?vz18) ?hiz18 (by kernel_rfl) (by kernel_rfl) (by kernel_rfl) ?hQz18 ?hyz18 (by assumption) ?restz18
        case hiz18 => simp only [List.getElem?_toArray, List.getElem?_cons_zero, List.getElem?_cons_succ]; rfl
        case hQz18 => exact fun _ _ _ h => h
        case hyz18 => exact Or.inl ⟨by rfl, by intro w hSw; (try dsimp only at hSw); go_simp; with_reducible rfl⟩
        try simp only [Act.put, List.setIfInBounds_toArray, List.set_cons_zero, List.set_cons_succ]
        refine wpAnyH_ready (rs := [8]) (by kernel_rfl) (by simp) (AllReadyH.cons (o := ?oy198) ?hy198 (fun K hK => ?sy198) AllReadyH.nil)
        case hy198 => simp only [List.getElem?_toArray, List.getElem?_cons_zero, List.getElem?_cons_succ]; rfl
        go_simp
        refine (HCT.out _ hHeld).mono ?_
        rintro e w1 ⟨rfl, hD⟩
        have hx := hD.ext
        clear hD
        have hH2 := hHeld.trans hx
        refine hK.out _ _ hH2 (fun _ => ?_)
        clear hHeld hK K
        have hHeld := hH2
        clear hH2
        try simp only [Act.put, List.setIfInBounds_toArray, List.set_cons_zero, List.set_cons_succ]
        refine wpAnyH_take (i := 9) (oi := ?oiz20) (v := ?vz20) ?hiz20 (by kernel_rfl) (by kernel_rfl) (by kernel_rfl) ?hQz20 ?hyz20 (by assumption) ?restz20
        case hiz20 => simp only [List.getElem?_toArray, List.getElem?_cons_zero, List.getElem?_cons_succ]; rfl
        case hQz20 => exact fun _ _ _ h => h
        case hyz20 => exact Or.inl ⟨by rfl, by intro w hSw; (try dsimp only at hSw); go_simp; with_reducible rfl⟩
        try simp only [Act.put, List.setIfInBounds_toArray, List.set_cons_zero, List.set_cons_succ]
        refine wpAnyH_done (by kernel_rfl) ?_ _
        have HX1 := Lib.hid (HX.out.trans hHeld)
        clear hHeld
        go_wp2
        go_ret
        exact ⟨by rw [← HRR.out, HQ.out]; rfl, X0.out.trans HX1.out⟩
    · obtain rfl : k = x.length := by omega
      have HQ := Lib.hid (allSame_yes (f := sameBl) HL.out fun p hp hp' => HM.out p hp hp' hp)
      go_wp2
      go_ret
      exact ⟨by rw [← HRR.out, HQ.out]; rfl, X0.out.trans HX.out⟩
end Go.Proofs.Yteegnbdgfedajaa
/- The walk of the law FnExactSameStore. No condition. -/
namespace Go.Proofs.Yteegnbdgfedajaa
open Go.RowKit
set_option linter.unusedVariables false
set_option linter.unusedSimpArgs false

set_option maxHeartbeats 1000000 in
set_option maxRecDepth 100000 in
theorem FnExactSameStore_any (w : World) (cs0 : Array Value) (x0 : List Bl) (S0 : Nat → Prop) (h0 : RStore w S0 cs0 x0) (cs1 : Array Value) (x1 : List Bl) (S1 : Nat → Prop) (h1 : RStore w S1 cs1 x1) :
    Calls Try.prog 4 #[.agg cs0, .agg cs1] w fun e w' => e = .returned (.bool true) ∧ Ext w w' := by
  have H0 := Lib.hid h0
  clear h0
  have H1 := Lib.hid h1
  clear h1
  have hn0 := H0.out.st.size
  have Hs0 := Lib.hid H0.out.st
  have hn1 := H1.out.st.size
  have Hs1 := Lib.hid H1.out.st
  by_cases hz0 : (1048576 - (szW wBlob x0 : Nat) : Int) < 0
  · go_enter Try.func4, Try.ntmps4
    go_wp2_with (first | (refine wpl_loadB ((Blk.new' (g := w.heap.size) (w := w) (by simp) 30 cs0).alloc _) aggStoreL hn0 rfl _ rfl rfl ?_) | (refine wpl_loadB (Blk.new' (g := w.heap.size + 1) (w := (World.alloc w _)) (by simp) 30 cs1) aggStoreL hn1 rfl _ rfl rfl ?_))
    refine (szStore_u _ x0 (1048576) _ _ (H0.out.ext ((ext_alloc _ _).alloc _)) (by omega) (by omega)).mono ?_
    rintro e w1 ⟨rfl, hx⟩
    rw [if_pos (by omega)]
    have B0 := Lib.hid (((Blk.new' (g := w.heap.size) (w := w) (by simp) 30 cs0).alloc _).ext hx)
    have B1 := Lib.hid ((Blk.new' (g := w.heap.size + 1) (w := (World.alloc w _)) (by simp) 30 cs1).ext hx)
    have XW := Lib.hid (((ext_alloc _ _).alloc _).trans hx)
    clear hx
    go_wp2_with (first | (refine wpl_loadB B0.out aggStoreL hn0 rfl _ rfl rfl ?_) | (refine wpl_loadB B1.out aggStoreL hn1 rfl _ rfl rfl ?_))
    go_ret
    exact ⟨rfl, XW.out⟩
  by_cases hz1 : (1048576 - (szW wBlob x0 : Nat) - (szW wBlob x1 : Nat) : Int) < 0
  · go_enter Try.func4, Try.ntmps4
    go_wp2_with (first | (refine wpl_loadB ((Blk.new' (g := w.heap.size) (w := w) (by simp) 30 cs0).alloc _) aggStoreL hn0 rfl _ rfl rfl ?_) | (refine wpl_loadB (Blk.new' (g := w.heap.size + 1) (w := (World.alloc w _)) (by simp) 30 cs1) aggStoreL hn1 rfl _ rfl rfl ?_))
    refine (szStore_u _ x0 (1048576) _ _ (H0.out.ext ((ext_alloc _ _).alloc _)) (by omega) (by omega)).mono ?_
    rintro e w1 ⟨rfl, hx⟩
    rw [if_neg (by omega)]
    have B0 := Lib.hid (((Blk.new' (g := w.heap.size) (w := w) (by simp) 30 cs0).alloc _).ext hx)
    have B1 := Lib.hid ((Blk.new' (g := w.heap.size + 1) (w := (World.alloc w _)) (by simp) 30 cs1).ext hx)
    have XW := Lib.hid (((ext_alloc _ _).alloc _).trans hx)
    clear hx
    go_wp2_with (first | (refine wpl_loadB B0.out aggStoreL hn0 rfl _ rfl rfl ?_) | (refine wpl_loadB B1.out aggStoreL hn1 rfl _ rfl rfl ?_))
    refine (szStore_u _ x1 (1048576 - (szW wBlob x0 : Nat)) _ _ (H1.out.ext XW.out) (by omega) (by omega)).mono ?_
    rintro e w2 ⟨rfl, hx⟩
    rw [if_pos (by omega)]
    replace B0 := Lib.hid (B0.out.ext hx)
    replace B1 := Lib.hid (B1.out.ext hx)
    replace XW := Lib.hid (XW.out.trans hx)
    clear hx
    go_wp2_with (first | (refine wpl_loadB B0.out aggStoreL hn0 rfl _ rfl rfl ?_) | (refine wpl_loadB B1.out aggStoreL hn1 rfl _ rfl rfl ?_))
    go_ret
    exact ⟨rfl, XW.out⟩
  have hln0 : x0.length ≤ 1048576 := by have := szW_eq wBlob x0; omega
  have hln1 : x1.length ≤ 1048576 := by have := szW_eq wBlob x1; omega
  obtain ⟨R, hR⟩ : ∃ R, allSame sameBl x0 x1 = R := ⟨_, rfl⟩
  have HR := Lib.hid hR
  clear hR
  have hq : (R != R) = false := by simp
  go_enter Try.func4, Try.ntmps4
  go_wp2_with (first | (refine wpl_loadB ((Blk.new' (g := w.heap.size) (w := w) (by simp) 30 cs0).alloc _) aggStoreL hn0 rfl _ rfl rfl ?_) | (refine wpl_loadB (Blk.new' (g := w.heap.size + 1) (w := (World.alloc w _)) (by simp) 30 cs1) aggStoreL hn1 rfl _ rfl rfl ?_))
  refine (szStore_u _ x0 (1048576) _ _ (H0.out.ext ((ext_alloc _ _).alloc _)) (by omega) (by omega)).mono ?_
  rintro e w1 ⟨rfl, hx⟩
  rw [if_neg (by omega)]
  have B0 := Lib.hid (((Blk.new' (g := w.heap.size) (w := w) (by simp) 30 cs0).alloc _).ext hx)
  have B1 := Lib.hid ((Blk.new' (g := w.heap.size + 1) (w := (World.alloc w _)) (by simp) 30 cs1).ext hx)
  have XW := Lib.hid (((ext_alloc _ _).alloc _).trans hx)
  clear hx
  go_wp2_with (first | (refine wpl_loadB B0.out aggStoreL hn0 rfl _ rfl rfl ?_) | (refine wpl_loadB B1.out aggStoreL hn1 rfl _ rfl rfl ?_))
  refine (szStore_u _ x1 (1048576 - (szW wBlob x0 : Nat)) _ _ (H1.out.ext XW.out) (by omega) (by omega)).mono ?_
  rintro e w2 ⟨rfl, hx⟩
  rw [if_neg (by omega)]
  replace B0 := Lib.hid (B0.out.ext hx)
  replace B1 := Lib.hid (B1.out.ext hx)
  replace XW := Lib.hid (XW.out.trans hx)
  clear hx
  go_wp2_with (first | (refine wpl_loadB B0.out aggStoreL hn0 rfl _ rfl rfl ?_) | (refine wpl_loadB B1.out aggStoreL hn1 rfl _ rfl rfl ?_))
  refine wp_region_held_drew (S := fun W => Ext w2 W) (by kernel_rfl) (Ext.refl _).drew (fun hHeld => ?_)
  refine wpAnyH_take (i := 0) (oi := ?oiz1) (v := (.agg cs0)) ?hiz1 (by kernel_rfl) (by kernel_rfl) (by kernel_rfl) ?hQz1 ?hyz1 (by assumption) ?restz1
  case hiz1 => simp only [List.getElem?_toArray, List.getElem?_cons_zero, List.getElem?_cons_succ]; rfl
  case hQz1 => exact fun _ _ _ h => h
  case hyz1 => refine yields_loadB B0.out aggStoreL hn0 ?_ _ rfl rfl; rfl
  try simp only [Act.put, List.setIfInBounds_toArray, List.set_cons_zero, List.set_cons_succ]
  refine wpAnyH_take (i := 2) (oi := ?oiz2) (v := (.agg cs1)) ?hiz2 (by kernel_rfl) (by kernel_rfl) (by kernel_rfl) ?hQz2 ?hyz2 (by assumption) ?restz2
  case hiz2 => simp only [List.getElem?_toArray, List.getElem?_cons_zero, List.getElem?_cons_succ]; rfl
  case hQz2 => exact fun _ _ _ h => h
  case hyz2 => refine yields_loadB B1.out aggStoreL hn1 ?_ _ rfl rfl; rfl
  try simp only [Act.put, List.setIfInBounds_toArray, List.set_cons_zero, List.set_cons_succ]
  refine wpAnyH_ready (rs := [1]) (by kernel_rfl) (by simp) (AllReadyH.cons (o := ?oy3) ?hy3 (fun K hK => ?sy3) AllReadyH.nil)
  case hy3 => simp only [List.getElem?_toArray, List.getElem?_cons_zero, List.getElem?_cons_succ]; rfl
  go_simp
  refine (toStore_u _ x0 _ _ (H0.out.ext (XW.out.trans hHeld)) hln0).mono ?_
  rintro e w3 ⟨vs0, rfl, ho, hx⟩
  have Os0 := Lib.hid ho
  clear ho
  have hH2 := hHeld.trans hx
  refine hK.out _ _ hH2 (fun _ => ?_)
  clear hHeld hK K
  have hHeld := hH2
  clear hH2
  try simp only [Act.put, List.setIfInBounds_toArray, List.set_cons_zero, List.set_cons_succ]
  refine wpAnyH_ready (rs := [3]) (by kernel_rfl) (by simp) (AllReadyH.cons (o := ?oy4) ?hy4 (fun K hK => ?sy4) AllReadyH.nil)
  case hy4 => simp only [List.getElem?_toArray, List.getElem?_cons_zero, List.getElem?_cons_succ]; rfl
  go_simp
  refine (toStore_u _ x1 _ _ (H1.out.ext (XW.out.trans hHeld)) hln1).mono ?_
  rintro e w4 ⟨vs1, rfl, ho, hx⟩
  have Os1 := Lib.hid ho
  clear ho
  replace Os0 := Lib.hid (Os0.out.ext hx)
  have hH2 := hHeld.trans hx
  refine hK.out _ _ hH2 (fun _ => ?_)
  clear hHeld hK K
  have hHeld := hH2
  clear hH2
  try simp only [Act.put, List.setIfInBounds_toArray, List.set_cons_zero, List.set_cons_succ]
  refine wpAnyH_ready (rs := [4]) (by kernel_rfl) (by simp) (AllReadyH.cons (o := ?oy5) ?hy5 (fun K hK => ?sy5) AllReadyH.nil)
  case hy5 => simp only [List.getElem?_toArray, List.getElem?_cons_zero, List.getElem?_cons_succ]; rfl
  go_simp
  refine (specSameStore_u _ _ x0 x1 _ _ _ Os0.out Os1.out).mono ?_
  rintro e w5 ⟨he, hx⟩
  rw [HR.out] at he
  subst he
  clear Os0 Os1
  have hH2 := hHeld.trans hx
  refine hK.out _ _ hH2 (fun _ => ?_)
  clear hHeld hK K
  have hHeld := hH2
  clear hH2
  try simp only [Act.put, List.setIfInBounds_toArray, List.set_cons_zero, List.set_cons_succ]
  refine wpAnyH_take (i := 5) (oi := ?oiz6) (v := ?vz6) ?hiz6 (by kernel_rfl) (by kernel_rfl) (by kernel_rfl) ?hQz6 ?hyz6 (by assumption) ?restz6
  case hiz6 => simp only [List.getElem?_toArray, List.getElem?_cons_zero, List.getElem?_cons_succ]; rfl
  case hQz6 => exact fun _ _ _ h => h
  case hyz6 => exact Or.inl ⟨by rfl, by intro w hSw; go_simp; with_reducible rfl⟩
  try simp only [Act.put, List.setIfInBounds_toArray, List.set_cons_zero, List.set_cons_succ]
  refine wpAnyH_done (by kernel_rfl) ?_ _
  replace B0 := Lib.hid (B0.out.ext hHeld)
  replace B1 := Lib.hid (B1.out.ext hHeld)
  replace XW := Lib.hid (XW.out.trans hHeld)
  clear hHeld
  go_wp2_with (first | (refine wpl_loadB B0.out aggStoreL hn0 rfl _ rfl rfl ?_) | (refine wpl_loadB B1.out aggStoreL hn1 rfl _ rfl rfl ?_))
  refine (toStore_u _ x0 _ _ (H0.out.ext XW.out) hln0).mono ?_
  rintro e w6 ⟨vx0, rfl, ho, hx⟩
  replace B0 := Lib.hid (B0.out.ext hx)
  replace B1 := Lib.hid (B1.out.ext hx)
  replace XW := Lib.hid (XW.out.trans hx)
  have Ox0 := Lib.hid ho
  clear ho
  have Znx0 := Ox0.out.st.size
  have Zsx0 := Lib.hid Ox0.out.st
  clear hx
  go_wp2_with (first | (refine wpl_storeNewB aggStoreI Zsx0.out rfl rfl _ _ rfl rfl rfl rfl ?_) | (refine wpl_loadB (Blk.new w6 35 vx0) aggStoreI Znx0 rfl _ rfl rfl ?_) | (refine wpl_loadB B0.out aggStoreL hn0 rfl _ rfl rfl ?_) | (refine wpl_loadB (B0.out.alloc _) aggStoreL hn0 rfl _ rfl rfl ?_) | (refine wpl_loadB B1.out aggStoreL hn1 rfl _ rfl rfl ?_) | (refine wpl_loadB (B1.out.alloc _) aggStoreL hn1 rfl _ rfl rfl ?_))
  refine (toStore_u _ x1 _ _ (H1.out.ext (XW.out.alloc _)) hln1).mono ?_
  rintro e w7 ⟨vx1, rfl, ho, hx⟩
  have hE := (ext_alloc w6 (.cells vx0 35)).trans hx
  replace Ox0 := Lib.hid (Ox0.out.ext hE)
  replace B0 := Lib.hid (B0.out.ext hE)
  replace B1 := Lib.hid (B1.out.ext hE)
  replace XW := Lib.hid (XW.out.trans hE)
  clear hE
  have Vx0 := Lib.hid ((Blk.new w6 35 vx0).ext hx)
  have Ox1 := Lib.hid ho
  clear ho
  have Znx1 := Ox1.out.st.size
  have Zsx1 := Lib.hid Ox1.out.st
  clear hx
  go_wp2_with (first | (refine wpl_storeNewB aggStoreI Zsx1.out rfl rfl _ _ rfl rfl rfl rfl ?_) | (refine wpl_loadB (Blk.new w7 35 vx1) aggStoreI Znx1 rfl _ rfl rfl ?_) | (refine wpl_loadB B0.out aggStoreL hn0 rfl _ rfl rfl ?_) | (refine wpl_loadB (B0.out.alloc _) aggStoreL hn0 rfl _ rfl rfl ?_) | (refine wpl_loadB B1.out aggStoreL hn1 rfl _ rfl rfl ?_) | (refine wpl_loadB (B1.out.alloc _) aggStoreL hn1 rfl _ rfl rfl ?_) | (refine wpl_loadB Vx0.out aggStoreI Znx0 rfl _ rfl rfl ?_) | (refine wpl_loadB (Vx0.out.alloc _) aggStoreI Znx0 rfl _ rfl rfl ?_))
  refine (implSameStore_u _ _ x0 x1 _ _ _ (Ox0.out.ext (ext_alloc _ _)) (Ox1.out.ext (ext_alloc _ _))).mono ?_
  rintro e w8 ⟨he, hx⟩
  rw [HR.out] at he
  subst he
  have hE := (ext_alloc w7 (.cells vx1 35)).trans hx
  replace Ox0 := Lib.hid (Ox0.out.ext hE)
  replace Ox1 := Lib.hid (Ox1.out.ext hE)
  replace B0 := Lib.hid (B0.out.ext hE)
  replace B1 := Lib.hid (B1.out.ext hE)
  replace Vx0 := Lib.hid (Vx0.out.ext hE)
  replace XW := Lib.hid (XW.out.trans hE)
  clear hE
  have Vx1 := Lib.hid ((Blk.new w7 35 vx1).ext hx)
  clear hx
  go_wp2_with (first | (refine wpl_loadB B0.out aggStoreL hn0 rfl _ rfl rfl ?_) | (refine wpl_loadB B1.out aggStoreL hn1 rfl _ rfl rfl ?_) | (refine wpl_loadB Vx0.out aggStoreI Znx0 rfl _ rfl rfl ?_) | (refine wpl_loadB Vx1.out aggStoreI Znx1 rfl _ rfl rfl ?_))
  refine wp_region_held_drew (S := fun W => Ext w8 W) (by kernel_rfl) (Ext.refl _).drew (fun hHeld => ?_)
  refine wpAnyH_take (i := 0) (oi := ?oiz7) (v := (.agg vx0)) ?hiz7 (by kernel_rfl) (by kernel_rfl) (by kernel_rfl) ?hQz7 ?hyz7 (by assumption) ?restz7
  case hiz7 => simp only [List.getElem?_toArray, List.getElem?_cons_zero, List.getElem?_cons_succ]; rfl
  case hQz7 => exact fun _ _ _ h => h
  case hyz7 => refine yields_loadB Vx0.out aggStoreI Znx0 ?_ _ rfl rfl; rfl
  try simp only [Act.put, List.setIfInBounds_toArray, List.set_cons_zero, List.set_cons_succ]
  refine wpAnyH_take (i := 1) (oi := ?oiz8) (v := (.agg cs0)) ?hiz8 (by kernel_rfl) (by kernel_rfl) (by kernel_rfl) ?hQz8 ?hyz8 (by assumption) ?restz8
  case hiz8 => simp only [List.getElem?_toArray, List.getElem?_cons_zero, List.getElem?_cons_succ]; rfl
  case hQz8 => exact fun _ _ _ h => h
  case hyz8 => refine yields_loadB B0.out aggStoreL hn0 ?_ _ rfl rfl; rfl
  try simp only [Act.put, List.setIfInBounds_toArray, List.set_cons_zero, List.set_cons_succ]
  refine wpAnyH_ready (rs := [2]) (by kernel_rfl) (by simp) (AllReadyH.cons (o := ?oy9) ?hy9 (fun K hK => ?sy9) AllReadyH.nil)
  case hy9 => simp only [List.getElem?_toArray, List.getElem?_cons_zero, List.getElem?_cons_succ]; rfl
  go_simp
  refine (toStore_u _ x0 _ _ (H0.out.ext (XW.out.trans hHeld)) hln0).mono ?_
  rintro e w9 ⟨vy0, rfl, ho, hx⟩
  have hH2 := hHeld.trans hx
  refine hK.out _ _ hH2 (fun _ => ?_)
  clear hHeld hK K
  have hHeld := hH2
  clear hH2
  try simp only [Act.put, List.setIfInBounds_toArray, List.set_cons_zero, List.set_cons_succ]
  refine wpAnyH_ready (rs := [3]) (by kernel_rfl) (by simp) (AllReadyH.cons (o := ?oy10) ?hy10 (fun K hK => ?sy10) AllReadyH.nil)
  case hy10 => simp only [List.getElem?_toArray, List.getElem?_cons_zero, List.getElem?_cons_succ]; rfl
  go_simp
  refine (eqStore_u _ _ x0 _ _ _ (Ox0.out.ext hHeld) ho).mono ?_
  rintro e w10 ⟨rfl, hx⟩
  have hH2 := hHeld.trans hx
  refine hK.out _ _ hH2 (fun _ => ?_)
  clear hHeld hK K
  have hHeld := hH2
  clear hH2
  try simp only [Act.put, List.setIfInBounds_toArray, List.set_cons_zero, List.set_cons_succ]
  refine wpAnyH_take (i := 4) (oi := ?oiz11) (v := ?vz11) ?hiz11 (by kernel_rfl) (by kernel_rfl) (by kernel_rfl) ?hQz11 ?hyz11 (by assumption) ?restz11
  case hiz11 => simp only [List.getElem?_toArray, List.getElem?_cons_zero, List.getElem?_cons_succ]; rfl
  case hQz11 => exact fun _ _ _ h => h
  case hyz11 => exact Or.inl ⟨by rfl, by intro w hSw; go_simp; with_reducible rfl⟩
  try simp only [Act.put, List.setIfInBounds_toArray, List.set_cons_zero, List.set_cons_succ]
  refine wpAnyH_done (by kernel_rfl) ?_ _
  replace Ox0 := Lib.hid (Ox0.out.ext hHeld)
  replace Ox1 := Lib.hid (Ox1.out.ext hHeld)
  replace B0 := Lib.hid (B0.out.ext hHeld)
  replace B1 := Lib.hid (B1.out.ext hHeld)
  replace Vx0 := Lib.hid (Vx0.out.ext hHeld)
  replace Vx1 := Lib.hid (Vx1.out.ext hHeld)
  replace XW := Lib.hid (XW.out.trans hHeld)
  clear hHeld
  go_wp2_with (first | (refine wpl_loadB B0.out aggStoreL hn0 rfl _ rfl rfl ?_) | (refine wpl_loadB B1.out aggStoreL hn1 rfl _ rfl rfl ?_) | (refine wpl_loadB Vx0.out aggStoreI Znx0 rfl _ rfl rfl ?_) | (refine wpl_loadB Vx1.out aggStoreI Znx1 rfl _ rfl rfl ?_))
  refine wp_region_held_drew (S := fun W => Ext w10 W) (by kernel_rfl) (Ext.refl _).drew (fun hHeld => ?_)
  refine wpAnyH_take (i := 0) (oi := ?oiz12) (v := (.agg vx1)) ?hiz12 (by kernel_rfl) (by kernel_rfl) (by kernel_rfl) ?hQz12 ?hyz12 (by assumption) ?restz12
  case hiz12 => simp only [List.getElem?_toArray, List.getElem?_cons_zero, List.getElem?_cons_succ]; rfl
  case hQz12 => exact fun _ _ _ h => h
  case hyz12 => refine yields_loadB Vx1.out aggStoreI Znx1 ?_ _ rfl rfl; rfl
  try simp only [Act.put, List.setIfInBounds_toArray, List.set_cons_zero, List.set_cons_succ]
  refine wpAnyH_take (i := 1) (oi := ?oiz13) (v := (.agg cs1)) ?hiz13 (by kernel_rfl) (by kernel_rfl) (by kernel_rfl) ?hQz13 ?hyz13 (by assumption) ?restz13
  case hiz13 => simp only [List.getElem?_toArray, List.getElem?_cons_zero, List.getElem?_cons_succ]; rfl
  case hQz13 => exact fun _ _ _ h => h
  case hyz13 => refine yields_loadB B1.out aggStoreL hn1 ?_ _ rfl rfl; rfl
  try simp only [Act.put, List.setIfInBounds_toArray, List.set_cons_zero, List.set_cons_succ]
  refine wpAnyH_ready (rs := [2]) (by kernel_rfl) (by simp) (AllReadyH.cons (o := ?oy14) ?hy14 (fun K hK => ?sy14) AllReadyH.nil)
  case hy14 => simp only [List.getElem?_toArray, List.getElem?_cons_zero, List.getElem?_cons_succ]; rfl
  go_simp
  refine (toStore_u _ x1 _ _ (H1.out.ext (XW.out.trans hHeld)) hln1).mono ?_
  rintro e w11 ⟨vy1, rfl, ho, hx⟩
  have hH2 := hHeld.trans hx
  refine hK.out _ _ hH2 (fun _ => ?_)
  clear hHeld hK K
  have hHeld := hH2
  clear hH2
  try simp only [Act.put, List.setIfInBounds_toArray, List.set_cons_zero, List.set_cons_succ]
  refine wpAnyH_ready (rs := [3]) (by kernel_rfl) (by simp) (AllReadyH.cons (o := ?oy15) ?hy15 (fun K hK => ?sy15) AllReadyH.nil)
  case hy15 => simp only [List.getElem?_toArray, List.getElem?_cons_zero, List.getElem?_cons_succ]; rfl
  go_simp
  refine (eqStore_u _ _ x1 _ _ _ (Ox1.out.ext hHeld) ho).mono ?_
  rintro e w12 ⟨rfl, hx⟩
  have hH2 := hHeld.trans hx
  refine hK.out _ _ hH2 (fun _ => ?_)
  clear hHeld hK K
  have hHeld := hH2
  clear hH2
  try simp only [Act.put, List.setIfInBounds_toArray, List.set_cons_zero, List.set_cons_succ]
  refine wpAnyH_take (i := 4) (oi := ?oiz16) (v := ?vz16) ?hiz16 (by kernel_rfl) (by kernel_rfl) (by kernel_rfl) ?hQz16 ?hyz16 (by assumption) ?restz16
  case hiz16 => simp only [List.getElem?_toArray, List.getElem?_cons_zero, List.getElem?_cons_succ]; rfl
  case hQz16 => exact fun _ _ _ h => h
  case hyz16 => exact Or.inl ⟨by rfl, by intro w hSw; go_simp; with_reducible rfl⟩
  try simp only [Act.put, List.setIfInBounds_toArray, List.set_cons_zero, List.set_cons_succ]
  refine wpAnyH_done (by kernel_rfl) ?_ _
  replace Ox0 := Lib.hid (Ox0.out.ext hHeld)
  replace Ox1 := Lib.hid (Ox1.out.ext hHeld)
  replace B0 := Lib.hid (B0.out.ext hHeld)
  replace B1 := Lib.hid (B1.out.ext hHeld)
  replace Vx0 := Lib.hid (Vx0.out.ext hHeld)
  replace Vx1 := Lib.hid (Vx1.out.ext hHeld)
  replace XW := Lib.hid (XW.out.trans hHeld)
  clear hHeld
  go_wp2_with (first | (refine wpl_loadB B0.out aggStoreL hn0 rfl _ rfl rfl ?_) | (refine wpl_loadB B1.out aggStoreL hn1 rfl _ rfl rfl ?_) | (refine wpl_loadB Vx0.out aggStoreI Znx0 rfl _ rfl rfl ?_) | (refine wpl_loadB Vx1.out aggStoreI Znx1 rfl _ rfl rfl ?_))
  go_ret
  exact ⟨rfl, XW.out⟩
end Go.Proofs.Yteegnbdgfedajaa
/- A store as an argument. No condition. -/
namespace Go.Proofs.Yteegnbdgfedajaa
open Go.RowKit Go.ChangeShapes Go.WideShapes Go.Deep
set_option linter.unusedVariables false
theorem opens_struct1 {α : Type} {P : Program} {t : TypeId} {f : Field} {c : Cd α} (ht : P.underlying t = some (.struct #[f])) (h0 : f.offset = 0) (hc : P.cellsOf t = P.cellsOf f.type) (hf : Opens P f.type c) : Opens P t c := by
  intro H enc w base spare held fuel cs x h hw
  obtain ⟨xs, m, rfl, rfl, hl, hx, hi⟩ := DataW.trod_struct ht h
  match xs, hx with
  | [y0], _ =>
    have e0 := hi 0 f rfl
    simp only [List.getElem?_cons_zero] at e0
    rw [h0, List.drop_zero, List.take_of_length_le (by omega)] at e0
    exact hf _ _ _ _ _ _ _ _ _ e0 (fun n hn => hw n (by simp [DataW.weights, ht, DataW.weightsEach, hn]))
/-- a slice whose elements hold slices -/
theorem rdn_of {α β : Type} {N : NR β} {c : Cd α} {w : World} {S : Nat → Prop} {v : Value} {xs : List α} (f : α → β) (hc : ∀ es x, c w S es x → es.length = N.sz → N.R w S es.toArray (f x)) (h : cSl N.sz c w S [v] xs) : RdN N w S v (xs.map f) := by
  obtain ⟨A, cap, hv, h1, h2, h3⟩ := h
  obtain rfl : v = .slice A xs.length cap := by simpa using hv
  refine ⟨A, cap, by rw [List.length_map], by rw [List.length_map]; exact h1, by rw [List.length_map]; omega, fun hn => ?_⟩
  rw [List.length_map] at hn
  obtain ⟨g, o, e, hS, h4⟩ := h3 hn
  refine ⟨g, o, e, hS, fun i hi => ?_⟩
  rw [List.length_map] at hi
  obtain ⟨es, h5, h6, h7⟩ := h4 i hi
  exact ⟨es, h5, h6, by rw [List.getElem_map]; exact hc es _ h7 h5⟩
theorem rdn_blobs {w : World} {S : Nat → Prop} {v : Value} {xs : List Bl} (h : cSl 2 (cPair (cInt .u8) (cSl 1 (cInt .u8))) w S [v] xs) : RdN nrBlob w S v xs := by
  have := rdn_of (N := nrBlob) (f := fun x : Bl => x) (fun es x hx _ => by
    obtain ⟨c1, c2, rfl, ⟨rfl, hwf⟩, hs⟩ := hx
    obtain ⟨A, cap, rfl, _⟩ := id hs
    exact ⟨_, rfl, rdl_of c_byte hs, wf_u8 hwf⟩) h
  simpa using this
end Go.Proofs.Yteegnbdgfedajaa
