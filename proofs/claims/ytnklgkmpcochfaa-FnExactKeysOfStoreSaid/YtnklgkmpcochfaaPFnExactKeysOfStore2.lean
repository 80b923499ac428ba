/- What the walk of the law FnExactKeysOfStore needs, part 2 of 5. No condition. -/
import Derived.Deep.RegionLaw
import Derived.Laws.CopyRow
import Derived.Deep.RegionHeld3
import Derived.Laws.BytesArg
import Derived.Test.YtnklgkmpcochfaaPFnExactKeysOfStore1
/- The program's key of bytes: the blocks mixed in. No condition. -/
namespace Go.Proofs.Ytnklgkmpcochfaa
open Go.RowKit
set_option linter.unusedVariables false
set_option linter.unusedSimpArgs false

set_option maxHeartbeats 1000000 in
set_option maxRecDepth 100000 in
theorem mixed_any (st : List Int) (hs8 : st.length = 8) (hu : U32 st) (v : Value) (al : List Int) (m : Nat) (w : World) (S : Nat → Prop) (h : RdL tKey w S v (blocksL al m)) :
    Calls Try.prog 120 #[.agg (numsA .u32 st), v] w fun e w' => e = .returned (.agg (numsA .u32 (mixN al st m))) ∧ Ext w w' := by
  obtain ⟨A, cap, rfl, hcap, hlen, hrd, hok⟩ := h
  have HEL := Lib.hid (fun k (hk : k < (blocksL al m).length) => hrd.elem hok k hk)
  have HOK := Lib.hid hok
  have HS8 := Lib.hid hs8
  have HU := Lib.hid hu
  have hbl : (blocksL al m).length = m := by simp [blocksL]
  have HBL := Lib.hid (show ∀ k, (h : k < (blocksL al m).length) → (blocksL al m)[k] = blockL al k from fun k h => by simp [blocksL])
  have HBM := Lib.hid hbl
  rw [hbl] at hcap hlen ⊢
  clear hrd hok hs8 hu
  go_enter Try.func120, Try.ntmps120
  go_wp2_with fail
  go_loopw [9] (fun q wr => ∃ (k : Nat) (z : Array Value), k ≤ m ∧ q = .int .i64 k ∧ z.size = 8 ∧ Blk wr w.heap.size 177 (numsA .u32 (mixN al st k)) ∧ Blk wr (w.heap.size + 1) 177 z ∧ Ext w wr) (fun q _ => m - (intOf q).toNat)
  case atStart => exact ⟨0, _, by omega, rfl, rfl, by rw [mixN_zero]; exact (Blk.new w _ _).alloc _, Blk.new' (by simp) _ _, (ext_alloc _ _).alloc _⟩
  case round =>
    obtain ⟨k, z, hk, rfl, hz, hb0, hb1, hx⟩ := hrel
    have HX := Lib.hid hx
    have HB0 := Lib.hid hb0
    have HB1 := Lib.hid hb1
    clear hx hb0 hb1
    by_cases hlt : k < m
    · obtain ⟨g, o, rfl, hs, hc⟩ := HEL.out k (by rw [HBM.out]; exact hlt)
      have hK := HOK.out _ (List.getElem_mem (l := blocksL al m) (n := k) (by rw [HBM.out]; exact hlt))
      rw [HBL.out] at hc hK
      have hbl : (blockL al k).length = 32 := hK.1
      have hck : ∀ j u, (nums .u8 (blockL al k))[j]? = some u → wr.cell? ((⟨g, o + k * 32, none⟩ : Addr).add j) = some u := by
        intro j u hu
        rw [Addr.add_lit]
        exact HX.out.cell (hc j u hu)
      have HCK := Lib.hid hck
      have HK := Lib.hid (show K32 (blockL al k) from hK)
      have hs := mixN_length al st k HS8.out
      have hu := mixN_ok al st k HU.out
      have HN := Lib.hid (mixN_succ al st k)
      have lt1 := HB1.out.lt
      generalize mixN al st k = s at *
      generalize blockL al k = blk at *
      have hb0 := (HB0.out.alloc (.cells #[Value.int .u8 0, Value.int .u8 0, Value.int .u8 0, Value.int .u8 0, Value.int .u8 0, Value.int .u8 0, Value.int .u8 0, Value.int .u8 0, Value.int .u8 0, Value.int .u8 0, Value.int .u8 0, Value.int .u8 0, Value.int .u8 0, Value.int .u8 0, Value.int .u8 0, Value.int .u8 0, Value.int .u8 0, Value.int .u8 0, Value.int .u8 0, Value.int .u8 0, Value.int .u8 0, Value.int .u8 0, Value.int .u8 0, Value.int .u8 0, Value.int .u8 0, Value.int .u8 0, Value.int .u8 0, Value.int .u8 0, Value.int .u8 0, Value.int .u8 0, Value.int .u8 0, Value.int .u8 0] 45)).row_far (by omega : w.heap.size ≠ wr.heap.size) (numsA .u8 blk)
      have hb1 := (HB1.out.alloc (.cells #[Value.int .u8 0, Value.int .u8 0, Value.int .u8 0, Value.int .u8 0, Value.int .u8 0, Value.int .u8 0, Value.int .u8 0, Value.int .u8 0, Value.int .u8 0, Value.int .u8 0, Value.int .u8 0, Value.int .u8 0, Value.int .u8 0, Value.int .u8 0, Value.int .u8 0, Value.int .u8 0, Value.int .u8 0, Value.int .u8 0, Value.int .u8 0, Value.int .u8 0, Value.int .u8 0, Value.int .u8 0, Value.int .u8 0, Value.int .u8 0, Value.int .u8 0, Value.int .u8 0, Value.int .u8 0, Value.int .u8 0, Value.int .u8 0, Value.int .u8 0, Value.int .u8 0, Value.int .u8 0] 45)).row_far (by omega : w.heap.size + 1 ≠ wr.heap.size) (numsA .u8 blk)
      have hb2 := (Blk.new wr 45 #[Value.int .u8 0, Value.int .u8 0, Value.int .u8 0, Value.int .u8 0, Value.int .u8 0, Value.int .u8 0, Value.int .u8 0, Value.int .u8 0, Value.int .u8 0, Value.int .u8 0, Value.int .u8 0, Value.int .u8 0, Value.int .u8 0, Value.int .u8 0, Value.int .u8 0, Value.int .u8 0, Value.int .u8 0, Value.int .u8 0, Value.int .u8 0, Value.int .u8 0, Value.int .u8 0, Value.int .u8 0, Value.int .u8 0, Value.int .u8 0, Value.int .u8 0, Value.int .u8 0, Value.int .u8 0, Value.int .u8 0, Value.int .u8 0, Value.int .u8 0, Value.int .u8 0, Value.int .u8 0]).setRow (numsA .u8 blk)
      have hx0 := (HX.out.alloc (.cells #[Value.int .u8 0, Value.int .u8 0, Value.int .u8 0, Value.int .u8 0, Value.int .u8 0, Value.int .u8 0, Value.int .u8 0, Value.int .u8 0, Value.int .u8 0, Value.int .u8 0, Value.int .u8 0, Value.int .u8 0, Value.int .u8 0, Value.int .u8 0, Value.int .u8 0, Value.int .u8 0, Value.int .u8 0, Value.int .u8 0, Value.int .u8 0, Value.int .u8 0, Value.int .u8 0, Value.int .u8 0, Value.int .u8 0, Value.int .u8 0, Value.int .u8 0, Value.int .u8 0, Value.int .u8 0, Value.int .u8 0, Value.int .u8 0, Value.int .u8 0, Value.int .u8 0, Value.int .u8 0] 45)).setRow HX.out.size (numsA .u8 blk)
      have G0 := Lib.hid hb0
      have G1 := Lib.hid hb1
      have G2 := Lib.hid hb2
      have GX := Lib.hid hx0
      have HM := Lib.hid (fun W => mixBlock_any s blk hs hu HK.out W)
      have HSS := Lib.hid hs
      clear hc hck hK hb0 hb1 hb2 hx0 hu hs
      go_wp2_with (first
        | (refine wpl_load ⟨g, o + k * 32, none⟩ (nums .u8 blk) (by rw [nums_length, hbl]; exact aggB32) rfl _ rfl rfl HCK.out ?_)
        | (refine wpl_storeN (k := .u8) (xs := blk) (Blk.new wr _ _) aggB32 hbl rfl rfl _ _ rfl rfl rfl rfl ?_)
        | (refine wpl_loadN G0.out aggU32 HSS.out rfl _ rfl rfl ?_)
        | (refine wpl_loadN G2.out aggB32 hbl rfl _ rfl rfl ?_))
      refine (HM.out _).mono ?_
      rintro e w4 ⟨rfl, hx4⟩
      have F0 := Lib.hid (G0.out.ext hx4)
      have F1 := Lib.hid (G1.out.ext hx4)
      have FX := Lib.hid (GX.out.trans hx4)
      have hml := mixL_length s blk HSS.out
      clear hx4
      go_wp2_with (refine wpl_storeN (k := .u32) (xs := mixL s blk) F0.out aggU32 hml (by rw [numsA_size]; exact HSS.out) rfl _ _ rfl rfl rfl rfl ?_)
      go_roundw
      case rel => exact ⟨k + 1, z, by omega, by go_num, hz, by rw [HN.out]; exact F0.out.setRow _, F1.out.row_far (by omega) _, FX.out.setRow (Nat.le_refl _) _⟩
      case measure => simp [intOf]; omega
    · obtain rfl : k = m := by omega
      have hs := mixN_length al st k HS8.out
      go_wp2_with (first
        | (refine wpl_loadN HB0.out aggU32 hs rfl _ rfl rfl ?_)
        | (refine wpl_storeN HB1.out aggU32 hs hz rfl _ _ rfl rfl rfl rfl ?_))
      refine bodyPost_ret (results_blk rfl _ rfl aggU32 hs (HB1.out.setRow _)) rfl ?_
      exact ⟨rfl, HX.out.setRow (by omega) _⟩

end Go.Proofs.Ytnklgkmpcochfaa
/- The program's key of bytes: the key of a state. No condition. -/
namespace Go.Proofs.Ytnklgkmpcochfaa
open Go.RowKit
set_option linter.unusedVariables false
set_option linter.unusedSimpArgs false

theorem stp_copy {P : Program} {dT sT elem : TypeId} {ops : Array Oper} {o : Oper} {a : Act} {w : World} {K : Act → World → Prop} {Q : Exit → Act → World → Prop} {E : Prop} (hgd : o.guard = none) (d x : Operand)
    (hop : o.op = .call { callee := .builtin .copy, args := #[d, x], argTypes := #[dT, sT] }) (g off dLen dCap : Nat) (A : Addr) (n c : Nat) {cur : Array Value} {t : TypeId} (cs : List Value)
    (hd : a.eval d = .slice (some ⟨g, off, none⟩) dLen dCap) (hx : a.eval x = .slice (some A) n c) (hu : P.underlying dT = some (.slice elem)) (hs : (P.info? elem).map (·.size) = some 1)
    (hg : Blk w g t cur) (hn : cs.length = Nat.min n dLen) (hsrc : ∀ j v, cs[j]? = some v → w.cell? (A.add j) = some v) (hfit : off + cs.length ≤ cur.size) (h1 : ∀ v ∈ cs, v.oneCell' = true)
    (h : K (a.put o.dst (goInt cs.length)) (w.setRow g (splice cur off cs))) :
    if Region.wanted o (yielded ops a.tmps) = true then Oper.wp P o a w K Q else E := by
  have hrun := run_copy_row (P := P) w dT sT o.type elem g off dLen dCap A n c cur t cs hu hs hg hn hsrc hfit h1
  have hw : Region.wanted o (yielded ops a.tmps) = true := by simp [Region.wanted, hgd]
  rw [if_pos hw]
  unfold Oper.wp execOp
  simp only [hop, resolve, invoke, builtin, Sem.run_bind, Sem.run_pure, Result.andThen_ok, List.map_toArray, List.map_cons, List.map_nil, hd, hx, hrun]
  exact h
theorem keyL_word (s : List Int) (k : Nat) (h : k < 8) : bytesLE (gI s k) 4 = ((keyL s).drop (4 * k)).take 4 := by
  apply List.ext_getElem
  · rw [bytesLE_length, List.length_take, List.length_drop, keyL_length]; omega
  · intro j h1 h2
    rw [bytesLE_length] at h1
    have e := keyL_at s (4 * k + j) (by omega)
    rw [gI_lt (by rw [keyL_length]; omega), show (4 * k + j) / 4 = k by omega, show (4 * k + j) % 4 = j by omega] at e
    simp only [List.getElem_take, List.getElem_drop, e]
    simp only [bytesLE, List.getElem_map, List.getElem_range, pow256]
theorem keyL_splice (s : List Int) (k : Nat) (h : k < 8) : splice (numsA .u8 ((keyL s).take (4 * k) ++ List.replicate (32 - 4 * k) 0)) (4 * k) (nums .u8 (bytesLE (gI s k) 4)) = numsA .u8 ((keyL s).take (4 * (k + 1)) ++ List.replicate (32 - 4 * (k + 1)) 0) := by
  have hl := keyL_length s
  have h1 : ((keyL s).take (4 * k)).length = 4 * k := by rw [List.length_take]; omega
  have hd : ((keyL s).take (4 * k)).drop (4 * k + 4) = [] := List.drop_eq_nil_of_le (by omega)
  unfold splice numsA
  congr 1
  rw [nums_length, bytesLE_length, keyL_word s k h]
  simp only [nums, ← List.map_take, ← List.map_drop, ← List.map_append]
  congr 1
  rw [List.take_left' h1, List.drop_append, hd, List.nil_append, h1, List.drop_replicate, show 4 * (k + 1) = 4 * k + 4 by omega, List.take_add, show 32 - 4 * k - (4 * k + 4 - 4 * k) = 32 - (4 * k + 4) by omega]
set_option maxHeartbeats 1000000 in
set_option maxRecDepth 100000 in
theorem keyOf_any (s : List Int) (hs8 : s.length = 8) (hu : U32 s) (w : World) :
    Calls Try.prog 119 #[.agg (numsA .u32 s)] w fun e w' => e = .returned (.agg (numsA .u8 (keyL s))) ∧ Ext w w' := by
  have HS8 := Lib.hid hs8
  have HU := Lib.hid hu
  have hkl := keyL_length s
  have HKL := Lib.hid hkl
  clear hkl hu
  go_enter Try.func119, Try.ntmps119
  go_wp2_with (first
    | (refine wpl_storeN (k := .u8) (xs := List.replicate 32 0) (Blk.new' (g := w.heap.size + 2) (by simp) _ _) aggKey (by simp) rfl rfl _ _ rfl rfl rfl rfl ?_)
    | (refine wpl_loadN (Blk.row_far (g := w.heap.size) (((Blk.new w _ _).alloc _).alloc _) (by omega) _) aggU32 hs8 rfl _ rfl rfl ?_))
  have HB1 := Lib.hid ((((Blk.new' (g := w.heap.size + 1) (by simp) 53 #[Value.int .u8 0, Value.int .u8 0, Value.int .u8 0, Value.int .u8 0, Value.int .u8 0, Value.int .u8 0, Value.int .u8 0, Value.int .u8 0, Value.int .u8 0, Value.int .u8 0, Value.int .u8 0, Value.int .u8 0, Value.int .u8 0, Value.int .u8 0, Value.int .u8 0, Value.int .u8 0, Value.int .u8 0, Value.int .u8 0, Value.int .u8 0, Value.int .u8 0, Value.int .u8 0, Value.int .u8 0, Value.int .u8 0, Value.int .u8 0, Value.int .u8 0, Value.int .u8 0, Value.int .u8 0, Value.int .u8 0, Value.int .u8 0, Value.int .u8 0, Value.int .u8 0, Value.int .u8 0] : Blk ((w.alloc (.cells (numsA .u32 s) 177)).alloc _) _ _ _).alloc (.cells #[Value.int .u8 0, Value.int .u8 0, Value.int .u8 0, Value.int .u8 0, Value.int .u8 0, Value.int .u8 0, Value.int .u8 0, Value.int .u8 0, Value.int .u8 0, Value.int .u8 0, Value.int .u8 0, Value.int .u8 0, Value.int .u8 0, Value.int .u8 0, Value.int .u8 0, Value.int .u8 0, Value.int .u8 0, Value.int .u8 0, Value.int .u8 0, Value.int .u8 0, Value.int .u8 0, Value.int .u8 0, Value.int .u8 0, Value.int .u8 0, Value.int .u8 0, Value.int .u8 0, Value.int .u8 0, Value.int .u8 0, Value.int .u8 0, Value.int .u8 0, Value.int .u8 0, Value.int .u8 0] 53))).row_far (by omega : w.heap.size + 1 ≠ w.heap.size + 2) (numsA .u8 (List.replicate 32 0)))
  go_loopw [8] (fun q wr => ∃ (k : Nat) (z : Array Value), k ≤ 8 ∧ q = .int .i64 k ∧ z.size = 32 ∧ Blk wr (w.heap.size + 1) 53 z ∧ Blk wr (w.heap.size + 2) 53 (numsA .u8 ((keyL s).take (4 * k) ++ List.replicate (32 - 4 * k) 0)) ∧ Ext w wr) (fun q _ => 8 - (intOf q).toNat)
  case atStart => exact ⟨0, _, by omega, rfl, rfl, HB1.out, by rw [Nat.mul_zero, List.take_zero, List.nil_append, Nat.sub_zero]; exact (Blk.new' (by simp) _ _).setRow _, (((ext_alloc _ _).alloc _).alloc _).setRow (by omega) _⟩
  case round =>
    clear HB1
    obtain ⟨k, z, hk, rfl, hz, hb1, hb2, hx⟩ := hrel
    have HX := Lib.hid hx
    have HB1 := Lib.hid hb1
    have HB2 := Lib.hid hb2
    clear hx hb1 hb2
    by_cases hlt : k < 8
    · have hat := numsA_at .u32 s k (by rw [hs8]; exact hlt)
      have hu := HU.out.get k
      have hz0 : (0 : Int) ≤ (k : Int) := by omega
      have hk8 : (k : Int) < 8 := by omega
      have hidx : (Instr.index 177 (.agg (numsA .u32 s)) (.int .i64 k)).run Try.prog wr = .ok (.int .u32 (gI s k)) wr := by
        have h1 : (isAgg 176).run Try.prog wr = .ok false wr := by kernel_rfl
        have h2 : (sizeOf 176).run Try.prog wr = .ok 1 wr := by kernel_rfl
        simp [Instr.index, asIntOf, run_underlying (show Try.prog.underlying 177 = some (.array 8 176) by kernel_rfl), hk8, hlt, part, h1, h2, hat]
      have HSP := Lib.hid (keyL_splice s k hlt)
      have hcur : (numsA .u8 ((keyL s).take (4 * k) ++ List.replicate (32 - 4 * k) 0)).size = 32 := by
        rw [numsA_size, List.length_append, List.length_replicate, List.length_take, HKL.out]; omega
      generalize numsA .u8 ((keyL s).take (4 * k) ++ List.replicate (32 - 4 * k) 0) = cur at *
      have hbl := bytesLE_length (gI s k) 4
      have hal : ∀ W, Calls Try.prog 144 #[.slice none 0 0, .int .u64 (gI s k), .int .i64 4] W fun e w' => ∃ v', e = .returned v' ∧ Own tByte 5 w' W.heap.size v' (bytesLE (gI s k) 4) ∧ Ext W w' := by
        intro W
        have := appendLittle_any (.slice none 0 0) [] (gI s k) 4 W W (Own.nil _ _ _ _) (Ext.refl _) (by omega) (by decide) (by simp)
        rw [List.nil_append] at this
        exact this
      generalize bytesLE (gI s k) 4 = bs at *
      have HAL := Lib.hid hal
      have W1 : IntKind.i64.wrap (4 * (k : Int)) = 4 * k := IntWalk.i64_in _ (by omega)
      have W2 : (4 * (k : Int)).toNat = 4 * k := by omega
      have W3 : ¬ 32 = 4 * k := by omega
      have W6 : IntKind.u64.wrap (gI s k) = gI s k := wraps_u64 _ (by omega) (by omega)
      have W4 : (0 : Int) ≤ 4 * k := by omega
      have W5 : 4 * (k : Int) ≤ 32 := by omega
      have HBL := Lib.hid hbl
      clear hal hbl
      have r1 := (Ext.refl wr).drew
      go_wp2_with fail
      go_region_law (first
        | (go_simp; go_at_call 144; refine (HAL.out _).mono ?_; rintro e p1 ⟨v1, rfl, ho1, hx1⟩; obtain ⟨g1, bc1, rfl, hb1, hlt1, hcc1, hf1, hs1⟩ := ho1.byte 0 (by rw [HBL.out]; decide); clear hcc1 hf1 hs1; have HCL := Lib.hid (fun j v (hj : (nums .u8 bs)[j]? = some v) => ho1.1.cells (g := g1) rfl j v (by rw [flat_bytes]; exact hj)); have HX1 := Lib.hid hx1; clear ho1 hx1)
        | (refine stp_copy (dT := 66) (sT := 66) (elem := 5) rfl (.tmp 14) (.tmp 17) rfl (w.heap.size + 1 + 1) (4 * k) (32 - 4 * k) (32 - 4 * k) ⟨g1, 0, none⟩ bs.length bc1 (cur := cur) (t := 53) (nums .u8 bs) rfl rfl rowByte.ht (by kernel_rfl) ((HB2.out.drewN 1).ext HX1.out) (by rw [nums_length, HBL.out]; exact (Nat.min_eq_left (by omega)).symm) HCL.out (by rw [nums_length, HBL.out, hcur]; omega) (one_nums _ _) ?_))
      all_goals
        (try simp only [Act.put, List.setIfInBounds_toArray, List.set_cons_zero, List.set_cons_succ, List.getElem_cons_zero, List.getElem_cons_succ, List.getElem_toArray])
        go_wp2_with fail
        go_roundw
        case rel => exact ⟨k + 1, z, by omega, by go_num, hz, ((HB1.out.drewN 1).ext HX1.out).row_far (by omega) _, by rw [← HSP.out]; exact ((HB2.out.drewN 1).ext HX1.out).setRow _, ((HX.out.drew).trans HX1.out).setRow (by omega) _⟩
        case measure => simp [intOf]; omega
    · obtain rfl : k = 8 := by omega
      have hb := HB2.out
      rw [Nat.sub_self, List.replicate_zero, List.append_nil, List.take_of_length_le (by rw [HKL.out]; decide)] at hb
      have HB3 := Lib.hid hb
      clear hb
      go_wp2_with (first
        | (refine wpl_loadN HB3.out aggKey HKL.out rfl _ rfl rfl ?_)
        | (refine wpl_storeN HB1.out aggKey HKL.out hz rfl _ _ rfl rfl rfl rfl ?_))
      refine bodyPost_ret (results_blk rfl _ rfl aggKey HKL.out (HB1.out.setRow _)) rfl ?_
      exact ⟨rfl, HX.out.setRow (by omega) _⟩

end Go.Proofs.Ytnklgkmpcochfaa
/- The program's key of bytes. No condition. -/
namespace Go.Proofs.Ytnklgkmpcochfaa
open Go.RowKit
set_option linter.unusedVariables false
set_option linter.unusedSimpArgs false

set_option maxHeartbeats 1000000 in
set_option maxRecDepth 100000 in
theorem hash_any (tag : Int) (ht : 0 ≤ tag ∧ tag ≤ 255) (v : Value) (xs : List Int) (w : World) (S : Nat → Prop) (h : RdL tByte w S v xs) (hl : xs.length ≤ 140737488000) :
    Calls Try.prog 92 #[.int .u8 tag, v] w fun e w' => e = .returned (.agg (numsA .u8 (hashL tag xs))) ∧ Ext w w' := by
  have H := Lib.hid h
  obtain ⟨A, cap, rfl, hcap, hlen, hz1, hz2⟩ := h
  clear hz1 hz2
  go_enter Try.func92, Try.ntmps92
  go_wp2_with fail
  refine (sizeB_any _ _ _ _).mono ?_
  rintro e w' ⟨rfl, rfl⟩
  go_wp2_with fail
  refine (padding_any xs.length (by omega) _).mono ?_
  rintro e w1 ⟨v1, rfl, ho1, hx1⟩
  have HO1 := Lib.hid ho1
  have HX1 := Lib.hid hx1
  obtain ⟨B1, bn1, bc1, rfl⟩ := ho1.shape3
  clear ho1 hx1
  go_wp2_with fail
  have hcc := concat2_any w1.heap.size 0 _ _ xs (padL xs.length xs.length) (w1.alloc (.cells #[.slice A xs.length cap, .slice B1 bn1 bc1] 66)) S _ (H.out.ext (by decide) (((ext_alloc w _).trans HX1.out).alloc _)) (HO1.out.alloc _).rd (by rw [padL_length]; omega) (by rw [padL_length, padZ_eq]; omega) (by go_simp) (by go_simp)
  refine hcc.mono ?_
  clear hcc
  rintro e w2 ⟨v2, rfl, ho2, hx2⟩
  have HO2 := Lib.hid ho2
  have HX2 := Lib.hid (((ext_alloc w (.cells _ 53)).trans (HX1.out.alloc _)).trans hx2)
  have HB2 := Lib.hid (((Blk.new w 53 _).ext (HX1.out.alloc _)).ext hx2)
  obtain ⟨B2, bn2, bc2, rfl⟩ := ho2.shape3
  clear ho2 hx2 HX1 HO1
  have hlen2 : (xs ++ padL xs.length xs.length).length = xs.length + padZ xs.length + 9 := by rw [List.length_append, padL_length]; omega
  have hpz : padZ xs.length ≤ 31 := by rw [padZ_eq]; omega
  have hm0 := padded_mod xs.length
  have HE := Lib.hid (show hashL tag xs = keyL (mixN (xs ++ padL xs.length xs.length) (startL tag) ((xs.length + padZ xs.length + 9) / 32)) by rw [hashL, endL])
  obtain ⟨m, hm⟩ : ∃ m, xs.length + padZ xs.length + 9 = 32 * m := ⟨(xs.length + padZ xs.length + 9) / 32, by omega⟩
  rw [show (xs.length + padZ xs.length + 9) / 32 = m by omega] at HE
  have hal : (xs ++ padL xs.length xs.length).length = 32 * m := by omega
  have hal2 : (xs ++ padL xs.length xs.length).length ≤ 140737488355 := by omega
  clear hlen2 hpz hm0 hm
  generalize xs ++ padL xs.length xs.length = al at *
  go_wp2_with fail
  refine (blocks_any _ al m w2 _ HO2.out.rd hal hal2).mono ?_
  rintro e w3 ⟨v3, u3, rfl, ho3, hx3⟩
  have HO3 := Lib.hid ho3
  have HX3 := Lib.hid (HX2.out.trans hx3)
  have HB3 := Lib.hid (HB2.out.ext hx3)
  clear ho3 hx3 HX2 HB2 HO2
  go_wp2_with fail
  refine (startState_any tag ht _).mono ?_
  rintro e w4 ⟨rfl, hx4⟩
  have HX4 := Lib.hid (HX3.out.trans hx4)
  have HB4 := Lib.hid (HB3.out.ext hx4)
  have HO4 := Lib.hid (HO3.out.ext hx4)
  clear hx4 HX3 HB3 HO3
  go_wp2_with fail
  refine (mixed_any (startL tag) (startL_length tag) (startL_ok tag ht) v3 al m w4 _ HO4.out.rd).mono ?_
  rintro e w5 ⟨rfl, hx5⟩
  have HX5 := Lib.hid (HX4.out.trans hx5)
  have HB5 := Lib.hid (HB4.out.ext hx5)
  clear hx5 HX4 HB4 HO4
  go_wp2_with fail
  refine (keyOf_any (mixN al (startL tag) m) (mixN_length _ _ _ (startL_length tag)) (mixN_ok _ _ _ (startL_ok tag ht)) w5).mono ?_
  rintro e w6 ⟨rfl, hx6⟩
  have HX6 := Lib.hid (HX5.out.trans hx6)
  have HB6 := Lib.hid (HB5.out.ext hx6)
  clear hx6 HX5 HB5
  have hk := (hashL_ok tag xs).1
  rw [← HE.out]
  go_wp2_with (refine wpl_storeN HB6.out aggKey hk rfl rfl _ _ rfl rfl rfl rfl ?_)
  refine bodyPost_ret (results_blk rfl _ rfl aggKey hk (HB6.out.setRow _)) rfl ?_
  exact ⟨rfl, HX6.out.setRow (Nat.le_refl _) _⟩

end Go.Proofs.Ytnklgkmpcochfaa
/- The statements' mixing of a block into a state. No condition. -/
namespace Go.Proofs.Ytnklgkmpcochfaa
open Go.RowKit
set_option linter.unusedVariables false
set_option linter.unusedSimpArgs false

set_option maxHeartbeats 8000000 in
set_option maxRecDepth 100000 in
theorem l01Mix_any (st b : List Int) (hs : st.length = 8) (hu : U32 st) (hk : K32 b) (w : World) : Calls Try.prog 141 #[.agg (numsA .u32 st), .agg (numsA .u8 b)] w fun e w' => e = .returned (.agg (numsA .u32 (mixL st b))) ∧ Ext w w' := by
  have HU := Lib.hid hu
  have HK := Lib.hid hk
  have HS := Lib.hid hs
  clear hu hk hs
  go_enter Try.func141, Try.ntmps141
  go_wp2_with fail
  go_loopw [6] (fun i wr => ∃ (k : Nat) (z : Array Value), k ≤ 8 ∧ i = .int .i64 k ∧ z.size = 8 ∧ Blk wr w.heap.size 177 (numsA .u32 st) ∧ Blk wr (w.heap.size + 1) 45 (numsA .u8 b) ∧ Blk wr (w.heap.size + 2) 177 z ∧ Blk wr (w.heap.size + 3) 177 (numsA .u32 ((List.range k).map (word b) ++ List.replicate (8 - k) 0)) ∧ Ext w wr) (fun i _ => 8 - (intOf i).toNat)
  case atStart => exact ⟨0, _, by omega, rfl, rfl, ((((Blk.new _ _ _).alloc _).alloc _).alloc _), ((Blk.new' (by simp) _ _).alloc _).alloc _, (Blk.new' (by simp) _ _).alloc _, Blk.new' (by simp) _ _, (((ext_alloc _ _).alloc _).alloc _).alloc _⟩
  case round =>
    obtain ⟨k, z, hk, rfl, hz, hb1, hb2, hb3, hb4, hx⟩ := hrel
    have HX := Lib.hid hx
    have HB1 := Lib.hid hb1
    have HB2 := Lib.hid hb2
    have HB3 := Lib.hid hb3
    have HB4 := Lib.hid hb4
    clear hx hb1 hb2 hb3 hb4
    by_cases hlt : k < 8
    · obtain ⟨M, hM⟩ : ∃ M, M = (List.range k).map (word b) ++ List.replicate (8 - k) 0 := ⟨_, rfl⟩
      have hMl : M.length = 8 := by rw [hM]; simp; omega
      have hMk : gI M k = 0 := by rw [hM]; unfold gI; rw [List.getD_eq_getElem?_getD, List.getElem?_append_right (by simp)]; rw [List.getElem?_replicate, if_pos (by simp; omega)]; rfl
      rw [← hM] at HB4
      have HM := Lib.hid hM
      clear hM
      go_wp2_with fail
      go_loopw [7] (fun i wq => ∃ j : Nat, j ≤ 4 ∧ i = .int .i64 (3 - (j : Int)) ∧ Blk wq w.heap.size 177 (numsA .u32 st) ∧ Blk wq (w.heap.size + 1) 45 (numsA .u8 b) ∧ Blk wq (w.heap.size + 2) 177 z ∧ Blk wq (w.heap.size + 3) 177 (numsA .u32 (M.set k (littleN ((b.drop (4 * k + (4 - j))).take j)))) ∧ Ext w wq) (fun i _ => (intOf i + 1).toNat)
      case atStart => exact ⟨0, by omega, by go_num, HB1.out, HB2.out, HB3.out, by
        have h0 : M.set k (littleN ((b.drop (4 * k + (4 - 0))).take 0)) = M := by
          have := set_same M k (by omega)
          rwa [hMk] at this
        rw [h0]; exact HB4.out, HX.out⟩
      case round =>
        obtain ⟨j, hj, rfl, hb1, hb2, hb3, hb4, hx⟩ := hrel
        clear HX HB1 HB2 HB3 HB4
        have HX := Lib.hid hx
        have HB1 := Lib.hid hb1
        have HB2 := Lib.hid hb2
        have HB3 := Lib.hid hb3
        have HB4 := Lib.hid hb4
        clear hx hb1 hb2 hb3 hb4
        by_cases hl4 : j < 4
        · have hc := HB4.out.num k (by simp; omega)
          rw [gI_set _ _ _ _ (by omega), if_pos rfl] at hc
          have hX := littleN_bound ((b.drop (4 * k + (4 - j))).take j) ((HK.out.2.drop _).take _)
          have hXl : ((b.drop (4 * k + (4 - j))).take j).length = j := by simp [HK.out.1]; omega
          have hp : (256 : Int) ^ j ≤ 16777216 := by
            rcases (show j = 0 ∨ j = 1 ∨ j = 2 ∨ j = 3 by omega) with rfl | rfl | rfl | rfl <;> decide
          rw [hXl] at hX
          have hstep : littleN ((b.drop (4 * k + (4 - (j + 1)))).take (j + 1)) = gI b (4 * k + (3 - j)) + 256 * littleN ((b.drop (4 * k + (4 - j))).take j) := by
            have h1 : 4 * k + (3 - j) < b.length := by rw [HK.out.1]; omega
            rw [show 4 * k + (4 - (j + 1)) = 4 * k + (3 - j) by omega, List.drop_eq_getElem_cons h1, List.take_succ_cons, show 4 * k + (3 - j) + 1 = 4 * k + (4 - j) by omega, gI_lt h1]
            rfl
          have hy := B8.get HK.out.2 (4 * k + (3 - j))
          have hd := HB2.out.num (4 * k + (3 - j)) (by rw [HK.out.1]; omega)
          have hor : bits .or .u32 (littleN ((b.drop (4 * k + (4 - j))).take j) * 256) (gI b (4 * k + (3 - j))) = gI b (4 * k + (3 - j)) + 256 * littleN ((b.drop (4 * k + (4 - j))).take j) := by
            have := bits_join .u32 32 (by decide) wraps_u32 8 (littleN ((b.drop (4 * k + (4 - j))).take j) * 256) (gI b (4 * k + (3 - j))) (by omega) (Int.mul_emod_left _ _) (by omega) (by omega) (by omega) (by omega)
            omega
          rw [← hstep] at hor
          generalize gI b (4 * k + (3 - j)) = Y at hd hy hor
          generalize littleN ((b.drop (4 * k + (4 - j))).take j) = X at hc hX hor HB4
          clear hstep hXl
          have hX0 : 0 ≤ X := hX.1
          have hX1 : X ≤ 16777215 := by omega
          clear hX hp
          have HOR := Lib.hid hor
          clear hor
          have hf := HB4.out.free k
          generalize hq : 4 * k + (3 - j) = q at hd
          have hq1 : 4 * (k : Int) + (3 - (j : Int)) = (q : Int) := by omega
          have hq2 : (q : Int) < 32 := by omega
          have HQ := Lib.hid hq
          clear hq
          go_wp2_with fail
          go_region
          go_wp2_with fail
          go_roundw
          case rel =>
            have h4 := HB4.out.set k (.int .u32 (bits .or .u32 (X * 256) Y))
            rw [numsA_set, HOR.out, List.set_set] at h4
            rw [HOR.out]
            exact ⟨j + 1, by omega, by go_num, (HB1.out.far (by simp; omega) _).drewN 1, (HB2.out.far (by simp) _).drewN 1, (HB3.out.far (by simp) _).drewN 1, h4.drewN 1, (HX.out.set (by simp; omega) _).drew⟩
          case measure => simp [intOf]; omega
        · go_wp2_with fail
          go_roundw
          case rel =>
            obtain rfl : j = 4 := by omega
            have h4 := HB4.out
            rw [HM.out, show 4 * k + (4 - 4) = 4 * k by omega] at h4
            have := mapRange_set (word b) 8 k hlt
            unfold word at this h4
            rw [this] at h4
            exact ⟨k + 1, z, by omega, by go_num, hz, HB1.out, HB2.out, HB3.out, h4, HX.out⟩
          case measure => simp [intOf]; omega
    · obtain rfl : k = 8 := by omega
      go_wp2_with (first
        | (refine wpl_loadN HB1.out aggU32 HS.out rfl _ rfl rfl ?_)
        | (refine wpl_storeN (Blk.new wr _ _) aggU32 HS.out rfl rfl _ _ rfl rfl rfl rfl ?_))
      have h4 := HB4.out
      rw [Nat.sub_self, List.replicate_zero, List.append_nil, ← words_eq] at h4
      have h5 : Blk _ wr.heap.size 177 (numsA .u32 st) := (Blk.new wr 177 #[Value.int IntKind.u32 0, Value.int IntKind.u32 0, Value.int IntKind.u32 0, Value.int IntKind.u32 0, Value.int IntKind.u32 0, Value.int IntKind.u32 0, Value.int IntKind.u32 0, Value.int IntKind.u32 0]).setRow (numsA .u32 st)
      have lt4 := h4.lt
      have n1 : w.heap.size ≠ wr.heap.size := by omega
      have n3 : w.heap.size + 2 ≠ wr.heap.size := by omega
      have n4 : w.heap.size + 3 ≠ wr.heap.size := by omega
      have hgs : w.heap.size + 4 ≤ wr.heap.size := by omega
      have hx0 := (HX.out.alloc (.cells #[Value.int IntKind.u32 0, Value.int IntKind.u32 0, Value.int IntKind.u32 0, Value.int IntKind.u32 0, Value.int IntKind.u32 0, Value.int IntKind.u32 0, Value.int IntKind.u32 0, Value.int IntKind.u32 0] 177)).setRow HX.out.size (numsA .u32 st)
      have hb1 := (HB1.out.alloc (.cells #[Value.int IntKind.u32 0, Value.int IntKind.u32 0, Value.int IntKind.u32 0, Value.int IntKind.u32 0, Value.int IntKind.u32 0, Value.int IntKind.u32 0, Value.int IntKind.u32 0, Value.int IntKind.u32 0] 177)).row_far n1 (numsA .u32 st)
      have hb3 := (HB3.out.alloc (.cells #[Value.int IntKind.u32 0, Value.int IntKind.u32 0, Value.int IntKind.u32 0, Value.int IntKind.u32 0, Value.int IntKind.u32 0, Value.int IntKind.u32 0, Value.int IntKind.u32 0, Value.int IntKind.u32 0] 177)).row_far n3 (numsA .u32 st)
      have hb4 := (h4.alloc (.cells #[Value.int IntKind.u32 0, Value.int IntKind.u32 0, Value.int IntKind.u32 0, Value.int IntKind.u32 0, Value.int IntKind.u32 0, Value.int IntKind.u32 0, Value.int IntKind.u32 0, Value.int IntKind.u32 0] 177)).row_far n4 (numsA .u32 st)
      clear h4 lt4 HB1 HB2 HB3 HB4 HX n1 n3 n4
      generalize wr.heap.size = gs at *
      have HW := Lib.hid (words_eq b)
      go_loopw [9] (fun i wq => ∃ r : Nat, r ≤ 12 ∧ i = .int .i64 r ∧ Blk wq w.heap.size 177 (numsA .u32 st) ∧ Blk wq (w.heap.size + 2) 177 z ∧ Blk wq (w.heap.size + 3) 177 (numsA .u32 (words b)) ∧ Blk wq gs 177 (numsA .u32 (mixOut (words b) r st)) ∧ Ext w wq) (fun i _ => 12 - (intOf i).toNat)
      case atStart => exact ⟨0, by omega, rfl, hb1, hb3, hb4, by rw [mixOut_zero]; exact h5, hx0⟩
      case round =>
        clear hx0 hb1 hb3 hb4 h5
        obtain ⟨r, hr, rfl, hb1, hb3, hb4, hb5, hx⟩ := hrel
        have HX := Lib.hid hx
        have HB1 := Lib.hid hb1
        have HB3 := Lib.hid hb3
        have HB4 := Lib.hid hb4
        have HB5 := Lib.hid hb5
        clear hx hb1 hb3 hb4 hb5
        by_cases hlr : r < 12
        · go_wp2_with fail
          have hd12 : decide ((r : Int) < 12) = true := by simp; omega
          simp only [hd12]
          go_loopw [10] (fun i wq => ∃ k : Nat, k ≤ 8 ∧ i = .int .i64 k ∧ Blk wq w.heap.size 177 (numsA .u32 st) ∧ Blk wq (w.heap.size + 2) 177 z ∧ Blk wq (w.heap.size + 3) 177 (numsA .u32 (words b)) ∧ Blk wq gs 177 (numsA .u32 (mixIn (words b) r k (mixOut (words b) r st))) ∧ Ext w wq) (fun i _ => 8 - (intOf i).toNat)
          case atStart => exact ⟨0, by omega, rfl, HB1.out, HB3.out, HB4.out, by rw [mixIn_zero]; exact HB5.out, HX.out⟩
          case round =>
            clear HX HB1 HB3 HB4 HB5
            obtain ⟨k, hk, rfl, hb1, hb3, hb4, hb5, hx⟩ := hrel
            have HX := Lib.hid hx
            have HB1 := Lib.hid hb1
            have HB3 := Lib.hid hb3
            have HB4 := Lib.hid hb4
            have HB5 := Lib.hid hb5
            clear hx hb1 hb3 hb4 hb5
            by_cases hlk : k < 8
            · have hl := (mixIn_length (words b) r k (mixOut (words b) r st)).trans ((mixOut_length (words b) r st).trans HS.out)
              have hu := mixIn_ok (words b) r k _ (mixOut_ok (words b) r st HU.out)
              have HE := Lib.hid (mixIn_succ (words b) r k (mixOut (words b) r st))
              generalize mixIn (words b) r k (mixOut (words b) r st) = s at *
              have p1 : (k + 3 * r) % 8 < 8 := Nat.mod_lt _ (by decide)
              have p2 : (k + 1) % 8 < 8 := Nat.mod_lt _ (by decide)
              have p3 : (k + 5) % 8 < 8 := Nat.mod_lt _ (by decide)
              have c0 := HB5.out.num k (by omega)
              have c1 := HB4.out.num ((k + 3 * r) % 8) (by rw [words_length]; omega)
              have c2 := HB5.out.num ((k + 1) % 8) (by omega)
              have c3 := HB5.out.num ((k + 5) % 8) (by omega)
              have hf := HB5.out.free k
              have u0 := hu.get k
              have u2 := hu.get ((k + 1) % 8)
              have u3 := hu.get ((k + 5) % 8)
              have q1 : ((k : Int) + 3 * r) % 8 = (((k + 3 * r) % 8 : Nat) : Int) := by omega
              have q2 : ((k : Int) + 1) % 8 = (((k + 1) % 8 : Nat) : Int) := by omega
              have q3 : ((k : Int) + 5) % 8 = (((k + 5) % 8 : Nat) : Int) := by omega
              generalize hj1 : (k + 3 * r) % 8 = j1 at *
              generalize hj2 : (k + 1) % 8 = j2 at *
              generalize hj3 : (k + 5) % 8 = j3 at *
              have J1 := Lib.hid hj1
              have J2 := Lib.hid hj2
              have J3 := Lib.hid hj3
              clear hj1 hj2 hj3 hu
              go_wp2_with fail
              go_quiet (fail)
              replace c0 := (show (wr.drewN nq).cell? _ = _ from c0)
              replace c2 := (show (wr.drewN nq).cell? _ = _ from c2)
              replace c3 := (show (wr.drewN nq).cell? _ = _ from c3)
              replace hf := (show (wr.drewN nq).frozen? _ = _ from hf)
              replace HX := Lib.hid (HX.out.drewN nq)
              replace HB1 := Lib.hid (HB1.out.drewN nq)
              replace HB3 := Lib.hid (HB3.out.drewN nq)
              replace HB4 := Lib.hid (HB4.out.drewN nq)
              replace HB5 := Lib.hid (HB5.out.drewN nq)
              clear c1
              generalize wr.drewN nq = wx at *
              go_wp2_with fail
              go_quiet ((go_at_call 154; exact Calls.quiet_of ((l01Turn_7 _ _).mono fun e w' ⟨he, hw⟩ => ⟨he, 0, hw.symm⟩)))
              go_wp2_with (go_at_call 154; refine (l01Turn_13 _ _).mono ?_; rintro e w' ⟨rfl, rfl⟩)
              go_roundw
              case rel =>
                have h5 := (HB5.out.drewN nq).set k (.int .u32 ((bits .xor .u32 (turn7 ((gI s k + gI (words b) j1 + 2654435769 * (8 * (r : Int) + (k : Int) + 1)) % 4294967296)) (gI s j2) + turn13 (gI s j3)) % 4294967296))
                rw [numsA_set] at h5
                have he := HE.out
                unfold mixStep at he
                rw [J1.out, J2.out, J3.out] at he
                rw [← he] at h5
                exact ⟨k + 1, by omega, by go_num, (HB1.out.drewN _).far (by simp; omega) _, (HB3.out.drewN _).far (by simp; omega) _, (HB4.out.drewN _).far (by simp; omega) _, h5, (HX.out.drewN _).set (by simp; omega) _⟩
              case measure => simp [intOf]; omega
            · obtain rfl : k = 8 := by omega
              go_wp2_with fail
              go_roundw
              case rel => exact ⟨r + 1, by omega, by go_num, HB1.out, HB3.out, HB4.out, by rw [mixOut_succ]; exact HB5.out, HX.out⟩
              case measure => simp [intOf]; omega
        · obtain rfl : r = 12 := by omega
          go_wp2_with fail
          have HL := Lib.hid ((mixOut_length (words b) 12 st).trans HS.out)
          have HE := Lib.hid (show mixL st b = xorIn st 8 (mixOut (words b) 12 st) by rw [mixL])
          generalize mixOut (words b) 12 st = s at *
          go_loopw [13] (fun i wq => ∃ k : Nat, k ≤ 8 ∧ i = .int .i64 k ∧ Blk wq w.heap.size 177 (numsA .u32 st) ∧ Blk wq (w.heap.size + 2) 177 z ∧ Blk wq gs 177 (numsA .u32 (xorIn st k s)) ∧ Ext w wq) (fun i _ => 8 - (intOf i).toNat)
          case atStart => exact ⟨0, by omega, rfl, HB1.out, HB3.out, by rw [xorIn_zero]; exact HB5.out, HX.out⟩
          case round =>
            clear HX HB1 HB3 HB4 HB5
            obtain ⟨k, hk, rfl, hb1, hb3, hb5, hx⟩ := hrel
            have HX := Lib.hid hx
            have HB1 := Lib.hid hb1
            have HB3 := Lib.hid hb3
            have HB5 := Lib.hid hb5
            clear hx hb1 hb3 hb5
            have hl := (xorIn_length st k s).trans HL.out
            by_cases hlk : k < 8
            · have c0 := HB5.out.num k (by omega)
              have c1 := HB1.out.num k (by rw [HS.out]; omega)
              have hf := HB5.out.free k
              have HE2 := Lib.hid (xorIn_succ st k s)
              generalize xorIn st k s = s1 at *
              go_wp2_with fail
              go_region
              go_wp2_with fail
              go_roundw
              case rel =>
                have h5 := HB5.out.set k (.int .u32 (bits .xor .u32 (gI s1 k) (gI st k)))
                rw [numsA_set, ← HE2.out] at h5
                exact ⟨k + 1, by omega, by go_num, (HB1.out.far (by simp; omega) _).drewN 1, (HB3.out.far (by simp; omega) _).drewN 1, h5.drewN 1, (HX.out.set (by simp; omega) _).drew⟩
              case measure => simp [intOf]; omega
            · obtain rfl : k = 8 := by omega
              rw [← HE.out] at HB5 hl
              go_wp2_with (first
                | (refine wpl_loadN HB5.out aggU32 hl rfl _ rfl rfl ?_)
                | (refine wpl_storeN HB3.out aggU32 hl hz rfl _ _ rfl rfl rfl rfl ?_))
              refine bodyPost_ret (results_blk rfl _ rfl aggU32 hl (HB3.out.setRow _)) rfl ?_
              exact ⟨rfl, HX.out.setRow (by omega) _⟩

end Go.Proofs.Ytnklgkmpcochfaa
/- The statements' key of bytes: the end. No condition. -/
namespace Go.Proofs.Ytnklgkmpcochfaa
open Go.RowKit
set_option linter.unusedVariables false
set_option linter.unusedSimpArgs false

theorem len8 {s : List Int} (h : s.length = 8) : ∃ a0 a1 a2 a3 a4 a5 a6 a7, s = [a0, a1, a2, a3, a4, a5, a6, a7] := by
  match s, h with
  | [a0, a1, a2, a3, a4, a5, a6, a7], _ => exact ⟨a0, a1, a2, a3, a4, a5, a6, a7, rfl⟩

/-- eight words written into a block -/
def put8 (w : World) (g : Nat) (c0 c1 c2 c3 c4 c5 c6 c7 : Int) : World := ((((((((w.setCell ⟨g, 0, none⟩ (.int .u32 c0)).setCell ⟨g, 1, none⟩ (.int .u32 c1)).setCell ⟨g, 2, none⟩ (.int .u32 c2)).setCell ⟨g, 3, none⟩ (.int .u32 c3)).setCell ⟨g, 4, none⟩ (.int .u32 c4)).setCell ⟨g, 5, none⟩ (.int .u32 c5)).setCell ⟨g, 6, none⟩ (.int .u32 c6)).setCell ⟨g, 7, none⟩ (.int .u32 c7))
section
variable {w : World} {g : Nat} {c0 c1 c2 c3 c4 c5 c6 c7 : Int}
theorem put8_blk {t : TypeId} {a0 a1 a2 a3 a4 a5 a6 a7 : Int} (h : Blk w g t (numsA .u32 [a0, a1, a2, a3, a4, a5, a6, a7])) : Blk (put8 w g c0 c1 c2 c3 c4 c5 c6 c7) g t (numsA .u32 [c0, c1, c2, c3, c4, c5, c6, c7]) := by
  have := ((((((((h.set 0 (.int .u32 c0)).set 1 (.int .u32 c1)).set 2 (.int .u32 c2)).set 3 (.int .u32 c3)).set 4 (.int .u32 c4)).set 5 (.int .u32 c5)).set 6 (.int .u32 c6)).set 7 (.int .u32 c7))
  simp only [numsA_set, List.set_cons_zero, List.set_cons_succ] at this
  exact this
theorem put8_far {t g' : Nat} {cs : Array Value} (h : Blk w g' t cs) (hg : g' ≠ g) : Blk (put8 w g c0 c1 c2 c3 c4 c5 c6 c7) g' t cs := ((((((((h.far hg _).far hg _).far hg _).far hg _).far hg _).far hg _).far hg _).far hg _)
theorem put8_own {α : Type} {T : Ty α} {e : TypeId} {base : Nat} {v : Value} {xs : List α} (h : Own T e w base v xs) (hg : g < base) : Own T e (put8 w g c0 c1 c2 c3 c4 c5 c6 c7) base v xs := ((((((((h.set_below hg _).set_below hg _).set_below hg _).set_below hg _).set_below hg _).set_below hg _).set_below hg _).set_below hg _)
theorem put8_ext {a : World} (h : Ext a w) (hg : a.heap.size ≤ g) : Ext a (put8 w g c0 c1 c2 c3 c4 c5 c6 c7) := ((((((((h.set hg _).set hg _).set hg _).set hg _).set hg _).set hg _).set hg _).set hg _)
end

set_option maxHeartbeats 4000000 in
set_option maxRecDepth 100000 in
theorem l01End_any (st : List Int) (hs8 : st.length = 8) (hu : U32 st) (v : Value) (xs : List Int) (w : World) (S : Nat → Prop) (h : RdL tByte w S v xs) (hl : xs.length ≤ 70368744177664) (len : Int) (h0 : 0 ≤ len) (h1 : len ≤ 9223372036854775807) :
    Calls Try.prog 114 #[.agg (numsA .u32 st), v, .int .i64 len] w fun e w' => e = .returned (.agg (numsA .u8 (endL st xs len))) ∧ Ext w w' := by
  have H := Lib.hid h
  obtain ⟨A, cap, rfl, hcap, hlen, hz1, hz2⟩ := h
  clear hz1 hz2
  have HU := Lib.hid hu
  have HS8 := Lib.hid hs8
  clear hu hs8
  go_enter Try.func114, Try.ntmps114
  go_wp2_with fail
  refine (l01Padded_any _ xs _ S (H.out.ext (by decide) ((ext_alloc w _).alloc _)) hl len h0 h1).mono ?_
  rintro e w1 ⟨v1, rfl, ho, hx⟩
  have hb0 := hx.heap (show _ from ((Blk.new w _ _).alloc _ : Blk ((w.alloc (.cells (numsA .u32 st) 177)).alloc _) w.heap.size 177 (numsA .u32 st)))
  have hb1 := hx.heap (show _ from (Blk.new' (g := w.heap.size + 1) (by simp) _ _ : Blk ((w.alloc (.cells (numsA .u32 st) 177)).alloc _) (w.heap.size + 1) 53 _))
  have hxw := ((ext_alloc w (.cells (numsA .u32 st) 177)).alloc _).trans hx
  have ho' : Own tByte 5 w1 (w.heap.size + 2) v1 (xs ++ padL xs.length len) := ho.le (by simp)
  obtain ⟨B, bn, bc, rfl⟩ := ho'.shape3
  have hbn := ho'.len
  rw [List.length_append, padL_length] at hbn
  have hm0 := padded_mod xs.length
  have hpz : padZ xs.length ≤ 31 := by have := padZ_eq xs.length; omega
  have HE := Lib.hid (show endL st xs len = keyL (mixN (xs ++ padL xs.length len) st ((xs.length + padZ xs.length + 9) / 32)) by rw [endL])
  obtain ⟨m, hm⟩ : ∃ m, xs.length + padZ xs.length + 9 = 32 * m := ⟨(xs.length + padZ xs.length + 9) / 32, by omega⟩
  rw [show (xs.length + padZ xs.length + 9) / 32 = m by omega] at HE
  have hbm : bn = 32 * m := by omega
  have hmm : m ≤ 2199023255553 := by omega
  have hal : (xs ++ padL xs.length len).length = 32 * m := by rw [List.length_append, padL_length]; omega
  generalize xs ++ padL xs.length len = al at *
  subst hbm
  have HO := Lib.hid ho'
  have HXW := Lib.hid hxw
  have HB0 := Lib.hid (show Blk w1 w.heap.size 177 (numsA .u32 st) from hb0)
  have HB1 := Lib.hid (show Blk w1 (w.heap.size + 1) 53 _ from hb1)
  have HAL := Lib.hid hal
  clear ho ho' hx hxw hb0 hb1 hbn hm0 hm hpz hal H
  go_wp2_with fail
  go_loopw [8] (fun q wr => ∃ (i : Nat) (z : Array Value), i ≤ m ∧ z.size = 32 ∧ q = .int .i64 ((32 * i : Nat) : Int) ∧ Blk wr w.heap.size 177 (numsA .u32 (mixN al st i)) ∧ Blk wr (w.heap.size + 1) 53 z ∧ Own tByte 5 wr (w.heap.size + 2) (.slice B (32 * m) bc) al ∧ Ext w wr) (fun q _ => 32 * m + 32 - (intOf q).toNat)
  case atStart => exact ⟨0, _, by omega, rfl, rfl, by rw [mixN_zero]; exact HB0.out, HB1.out, HO.out, HXW.out⟩
  case round =>
    clear HO HXW HB0 HB1
    obtain ⟨i, z, him, hz, rfl, hb0, hb1, ho, hx⟩ := hrel
    have HO := Lib.hid ho
    have HX := Lib.hid hx
    have HB0 := Lib.hid hb0
    have HB1 := Lib.hid hb1
    clear ho hx hb0 hb1
    by_cases hlt : i < m
    · have hs := mixN_length al st i HS8.out
      have hu := mixN_ok al st i HU.out
      have HN := Lib.hid (mixN_succ al st i)
      generalize mixN al st i = s at *
      obtain ⟨a0, a1, a2, a3, a4, a5, a6, a7, rfl⟩ := len8 hs
      have hblk : ∀ W, Ext wr W → Calls Try.prog 142 #[.slice B (32 * m) bc, .int .i64 (32 * (i : Int))] W fun e w' => e = .returned (.agg (numsA .u8 (blockL al i))) ∧ Ext W w' := by
        intro W E
        have := l01Block_any (.slice B (32 * m) bc) al W _ ((HO.out.ext E).rd) i (by rw [HAL.out]; omega)
        rw [show ((32 * i : Nat) : Int) = 32 * (i : Int) by omega] at this
        exact this
      have hK := blockL_ok al i HO.out.2.2 (by rw [HAL.out]; omega)
      obtain ⟨c0, c1, c2, c3, c4, c5, c6, c7, hc⟩ := len8 (mixL_length [a0, a1, a2, a3, a4, a5, a6, a7] (blockL al i) rfl)
      have hmix : ∀ W, Calls Try.prog 141 #[.agg #[Value.int .u32 a0, Value.int .u32 a1, Value.int .u32 a2, Value.int .u32 a3, Value.int .u32 a4, Value.int .u32 a5, Value.int .u32 a6, Value.int .u32 a7], .agg (numsA .u8 (blockL al i))] W fun e w' => e = .returned (.agg #[Value.int .u32 c0, Value.int .u32 c1, Value.int .u32 c2, Value.int .u32 c3, Value.int .u32 c4, Value.int .u32 c5, Value.int .u32 c6, Value.int .u32 c7]) ∧ Ext W w' := by
        intro W
        have := l01Mix_any [a0, a1, a2, a3, a4, a5, a6, a7] (blockL al i) rfl hu hK W
        rw [hc] at this
        exact this
      rw [hc] at HN
      generalize blockL al i = blk at *
      have HBLK := Lib.hid hblk
      have HMIX := Lib.hid hmix
      have HB := HB0
      clear hblk hmix hs hu hK hc
      have k0 : ∀ W, Ext wr W → W.cell? ⟨w.heap.size, 0, none⟩ = some (.int .u32 a0) := fun W h => h.cell (HB.out.at_ 0 rfl)
      have k1 : ∀ W, Ext wr W → W.cell? ⟨w.heap.size, 1, none⟩ = some (.int .u32 a1) := fun W h => h.cell (HB.out.at_ 1 rfl)
      have k2 : ∀ W, Ext wr W → W.cell? ⟨w.heap.size, 2, none⟩ = some (.int .u32 a2) := fun W h => h.cell (HB.out.at_ 2 rfl)
      have k3 : ∀ W, Ext wr W → W.cell? ⟨w.heap.size, 3, none⟩ = some (.int .u32 a3) := fun W h => h.cell (HB.out.at_ 3 rfl)
      have k4 : ∀ W, Ext wr W → W.cell? ⟨w.heap.size, 4, none⟩ = some (.int .u32 a4) := fun W h => h.cell (HB.out.at_ 4 rfl)
      have k5 : ∀ W, Ext wr W → W.cell? ⟨w.heap.size, 5, none⟩ = some (.int .u32 a5) := fun W h => h.cell (HB.out.at_ 5 rfl)
      have k6 : ∀ W, Ext wr W → W.cell? ⟨w.heap.size, 6, none⟩ = some (.int .u32 a6) := fun W h => h.cell (HB.out.at_ 6 rfl)
      have k7 : ∀ W, Ext wr W → W.cell? ⟨w.heap.size, 7, none⟩ = some (.int .u32 a7) := fun W h => h.cell (HB.out.at_ 7 rfl)
      have f0 : ∀ W, Ext wr W → ∀ j, W.frozen? ⟨w.heap.size, j, none⟩ = false := fun W h j => (HB.out.ext h).free j
      have r0 := Ext.refl wr
      have r1 := (Ext.refl wr).drew
      go_wp2_with fail
      go_region_law (first
        | (go_simp; go_at_call 142; refine (HBLK.out _ (by assumption)).mono ?_; rintro e p1 ⟨rfl, hx1⟩; have y1 := Ext.trans (by assumption : Ext wr _) hx1)
        | (go_simp; go_at_call 141; refine (HMIX.out _).mono ?_; rintro e p2 ⟨rfl, hx2⟩; have y2 := y1.trans hx2))
      all_goals
        go_wp2_with fail
        go_roundw
        case rel => exact ⟨i + 1, z, by omega, hz, congrArg (Value.int .i64) (by omega), by rw [HN.out]; exact put8_blk (HB.out.ext y2), put8_far (HB1.out.ext y2) (by omega), put8_own (HO.out.ext y2) (by omega), put8_ext (HX.out.trans y2) (Nat.le_refl _)⟩
        case measure => simp [intOf]; omega
    · obtain rfl : i = m := by omega
      have hs := mixN_length al st i HS8.out
      have hu := mixN_ok al st i HU.out
      have hlt0 := HB1.out.lt
      generalize mixN al st i = s at *
      have HSL := Lib.hid hs
      clear hs
      go_wp2_with (refine wpl_storeN (k := .u8) (xs := List.replicate 32 0) (Blk.new wr _ _) aggKey (by simp) rfl rfl _ _ rfl rfl rfl rfl ?_)
      have hx0 := (HX.out.alloc (.cells #[Value.int .u8 0, Value.int .u8 0, Value.int .u8 0, Value.int .u8 0, Value.int .u8 0, Value.int .u8 0, Value.int .u8 0, Value.int .u8 0, Value.int .u8 0, Value.int .u8 0, Value.int .u8 0, Value.int .u8 0, Value.int .u8 0, Value.int .u8 0, Value.int .u8 0, Value.int .u8 0, Value.int .u8 0, Value.int .u8 0, Value.int .u8 0, Value.int .u8 0, Value.int .u8 0, Value.int .u8 0, Value.int .u8 0, Value.int .u8 0, Value.int .u8 0, Value.int .u8 0, Value.int .u8 0, Value.int .u8 0, Value.int .u8 0, Value.int .u8 0, Value.int .u8 0, Value.int .u8 0] 53)).setRow HX.out.size (numsA .u8 (List.replicate 32 0))
      have hb0 := (HB0.out.alloc (.cells #[Value.int .u8 0, Value.int .u8 0, Value.int .u8 0, Value.int .u8 0, Value.int .u8 0, Value.int .u8 0, Value.int .u8 0, Value.int .u8 0, Value.int .u8 0, Value.int .u8 0, Value.int .u8 0, Value.int .u8 0, Value.int .u8 0, Value.int .u8 0, Value.int .u8 0, Value.int .u8 0, Value.int .u8 0, Value.int .u8 0, Value.int .u8 0, Value.int .u8 0, Value.int .u8 0, Value.int .u8 0, Value.int .u8 0, Value.int .u8 0, Value.int .u8 0, Value.int .u8 0, Value.int .u8 0, Value.int .u8 0, Value.int .u8 0, Value.int .u8 0, Value.int .u8 0, Value.int .u8 0] 53)).row_far (by omega : w.heap.size ≠ wr.heap.size) (numsA .u8 (List.replicate 32 0))
      have hb1 := (HB1.out.alloc (.cells #[Value.int .u8 0, Value.int .u8 0, Value.int .u8 0, Value.int .u8 0, Value.int .u8 0, Value.int .u8 0, Value.int .u8 0, Value.int .u8 0, Value.int .u8 0, Value.int .u8 0, Value.int .u8 0, Value.int .u8 0, Value.int .u8 0, Value.int .u8 0, Value.int .u8 0, Value.int .u8 0, Value.int .u8 0, Value.int .u8 0, Value.int .u8 0, Value.int .u8 0, Value.int .u8 0, Value.int .u8 0, Value.int .u8 0, Value.int .u8 0, Value.int .u8 0, Value.int .u8 0, Value.int .u8 0, Value.int .u8 0, Value.int .u8 0, Value.int .u8 0, Value.int .u8 0, Value.int .u8 0] 53)).row_far (by omega : w.heap.size + 1 ≠ wr.heap.size) (numsA .u8 (List.replicate 32 0))
      have hb2 := (Blk.new wr 53 #[Value.int .u8 0, Value.int .u8 0, Value.int .u8 0, Value.int .u8 0, Value.int .u8 0, Value.int .u8 0, Value.int .u8 0, Value.int .u8 0, Value.int .u8 0, Value.int .u8 0, Value.int .u8 0, Value.int .u8 0, Value.int .u8 0, Value.int .u8 0, Value.int .u8 0, Value.int .u8 0, Value.int .u8 0, Value.int .u8 0, Value.int .u8 0, Value.int .u8 0, Value.int .u8 0, Value.int .u8 0, Value.int .u8 0, Value.int .u8 0, Value.int .u8 0, Value.int .u8 0, Value.int .u8 0, Value.int .u8 0, Value.int .u8 0, Value.int .u8 0, Value.int .u8 0, Value.int .u8 0]).setRow (numsA .u8 (List.replicate 32 0))
      have hgs : w.heap.size + 2 ≤ wr.heap.size := by omega
      generalize wr.heap.size = gs at *
      have hkl := keyL_length s
      have HKL := Lib.hid hkl
      go_loopw [10] (fun q wq => ∃ k : Nat, k ≤ 32 ∧ q = .int .i64 k ∧ Blk wq w.heap.size 177 (numsA .u32 s) ∧ Blk wq (w.heap.size + 1) 53 z ∧ Blk wq gs 53 (numsA .u8 ((keyL s).take k ++ List.replicate (32 - k) 0)) ∧ Ext w wq) (fun q _ => 32 - (intOf q).toNat)
      case atStart => exact ⟨0, by omega, rfl, hb0, hb1, by rw [List.take_zero, List.nil_append, Nat.sub_zero]; exact hb2, hx0⟩
      case round =>
        clear hb0 hb1 hb2 hx0 HO HX HB0 HB1 hlt0
        obtain ⟨k, hk, rfl, hb0, hb1, hb2, hx⟩ := hrel
        have HX := Lib.hid hx
        have HB0 := Lib.hid hb0
        have HB1 := Lib.hid hb1
        have HB2 := Lib.hid hb2
        clear hx hb0 hb1 hb2
        by_cases hk32 : k < 32
        · have c0 := HB0.out.num (k / 4) (by rw [HSL.out]; omega)
          have u0 := hu.get (k / 4)
          have hc := HB2.out.num k (by simp [keyL_length]; omega)
          have hf := HB2.out.free k
          have q1 : (k : Int) / 4 = ((k / 4 : Nat) : Int) := by omega
          have q2 : (k : Int) % 4 = ((k % 4 : Nat) : Int) := by omega
          have p1 : k / 4 < 8 := by omega
          have p2 : k % 4 < 4 := by omega
          generalize hj1 : k / 4 = j1 at *
          generalize hj2 : k % 4 = j2 at *
          have hn := fill_step (keyL s) 32 k hk32 HKL.out
          rw [keyL_at s k hk32, hj1, hj2] at hn
          have HN := Lib.hid hn
          have J1 := Lib.hid hj1
          have J2 := Lib.hid hj2
          clear hn hj1 hj2 hkl
          go_wp2_with fail
          go_roundw
          case rel =>
            have h2 := HB2.out.set k (.int .u8 (gI s j1 / 2 ^ (8 * j2) % 256))
            rw [numsA_set, HN.out] at h2
            exact ⟨k + 1, by omega, by go_num, HB0.out.far (by simp; omega) _, HB1.out.far (by simp; omega) _, h2, HX.out.set (by simp; omega) _⟩
          case measure => simp [intOf]; omega
        · obtain rfl : k = 32 := by omega
          have hb := HB2.out
          rw [Nat.sub_self, List.replicate_zero, List.append_nil, List.take_of_length_le (by omega), ← HE.out] at hb
          have hl32 : (endL st xs len).length = 32 := by rw [HE.out]; exact HKL.out
          have HB3 := Lib.hid hb
          clear hb
          go_wp2_with (first
            | (refine wpl_loadN HB3.out aggKey hl32 rfl _ rfl rfl ?_)
            | (refine wpl_storeN HB1.out aggKey hl32 hz rfl _ _ rfl rfl rfl rfl ?_))
          refine bodyPost_ret (results_blk rfl _ rfl aggKey hl32 (HB1.out.setRow _)) rfl ?_
          exact ⟨rfl, HX.out.setRow (by omega) _⟩

end Go.Proofs.Ytnklgkmpcochfaa
/- The statements' key of bytes. No condition. -/
namespace Go.Proofs.Ytnklgkmpcochfaa
open Go.RowKit
set_option linter.unusedVariables false
set_option linter.unusedSimpArgs false

set_option maxHeartbeats 1000000 in
set_option maxRecDepth 100000 in
theorem l01Hash_any (tag : Int) (ht : 0 ≤ tag ∧ tag ≤ 255) (v : Value) (xs : List Int) (w : World) (S : Nat → Prop) (h : RdL tByte w S v xs) (hl : xs.length ≤ 70368744177664) :
    Calls Try.prog 90 #[.int .u8 tag, v] w fun e w' => e = .returned (.agg (numsA .u8 (hashL tag xs))) ∧ Ext w w' := by
  have H := Lib.hid h
  obtain ⟨A, cap, rfl, hcap, hlen, hz1, hz2⟩ := h
  clear hz1 hz2
  have hk := (hashL_ok tag xs).1
  have he : hashL tag xs = endL (startL tag) xs xs.length := by rw [hashL]
  rw [he] at hk ⊢
  clear he
  go_enter Try.func90, Try.ntmps90
  go_wp2_with fail
  refine (l01Start_any tag ht _).mono ?_
  rintro e w1 ⟨rfl, hx1⟩
  have HX1 := Lib.hid hx1
  clear hx1
  go_wp2_with fail
  refine (l01End_any (startL tag) (startL_length tag) (startL_ok tag ht) _ xs w1 S (H.out.ext (by decide) ((ext_alloc w _).trans HX1.out)) hl xs.length (by omega) (by omega)).mono ?_
  rintro e w2 ⟨rfl, hx2⟩
  have HB := Lib.hid (((Blk.new w 53 _).ext HX1.out).ext hx2)
  have HX := Lib.hid (((ext_alloc w _).trans HX1.out).trans hx2)
  clear hx2 HX1
  go_wp2_with (refine wpl_storeN HB.out aggKey hk rfl rfl _ _ rfl rfl rfl rfl ?_)
  refine bodyPost_ret (results_blk rfl _ rfl aggKey hk (HB.out.setRow _)) rfl ?_
  exact ⟨rfl, HX.out.setRow (Nat.le_refl _) _⟩

end Go.Proofs.Ytnklgkmpcochfaa
/- Functions that are one key of bytes. No condition. -/
namespace Go.Proofs.Ytnklgkmpcochfaa
open Go.RowKit
set_option linter.unusedVariables false
set_option linter.unusedSimpArgs false

theorem rd_none (w : World) (S : Nat → Prop) : RdL tByte w S (.slice none 0 0) [] := ⟨none, 0, rfl, Nat.le_refl _, by simp, Rd.nil _ _ _ _, by simp⟩
theorem Own.empty' {α : Type} (T : Ty α) {g : Nat} {w : World} (hg : g = w.heap.size) (e base : Nat) (hb : base ≤ w.heap.size) : Own T e (w.alloc (.cells #[] e)) base (.slice (some ⟨g, 0, none⟩) 0 0) ([] : List α) := by
  subst hg
  exact Own.empty T w e base hb
/-- the key of the empty map -/
def emptyL : List Int := hashL 5 []
theorem emptyL_ok : K32 emptyL := hashL_ok _ _
set_option maxHeartbeats 1000000 in
set_option maxRecDepth 100000 in
theorem l04Empty_any (w : World) : Calls Try.prog 134 #[] w fun e w' => e = .returned (.agg (numsA .u8 emptyL)) ∧ Ext w w' := by
  have hk := emptyL_ok.1
  go_enter Try.func134, Try.ntmps134
  go_wp2_with fail
  refine (l01Hash_any 5 (by decide) _ [] _ _ (Own.empty' tByte (by simp) 5 0 (Nat.zero_le _)).rd (by simp)).mono ?_
  rintro e w1 ⟨rfl, hx⟩
  have HB := Lib.hid (((Blk.new w 53 _).alloc _).ext hx)
  have HX := Lib.hid (((ext_alloc w _).alloc _).trans hx)
  clear hx
  go_wp2_with (refine wpl_storeN HB.out aggKey hk rfl rfl _ _ rfl rfl rfl rfl ?_)
  refine bodyPost_ret (results_blk rfl _ rfl aggKey hk (HB.out.setRow _)) rfl ?_
  exact ⟨rfl, HX.out.setRow (Nat.le_refl _) _⟩

/-- functions whose whole result is one key -/
theorem ret_key {fn : Func} {c : Tmp} {t g : Nat} {xs : List Int} {w : World} {cur : Array Value} {P : Program} (hr : fn.results = #[.cell c t]) (tmps : Array Value) (hp : tmps.getD c undef = .pointer (some ⟨g, 0, none⟩)) (ht : Agg P t 32) (hn : xs.length = 32) (hb : Blk w g t cur) :
    (results fn tmps).run P (w.setRow g (numsA .u8 xs)) = .ok (.agg (numsA .u8 xs)) (w.setRow g (numsA .u8 xs)) := results_blk hr tmps hp ht hn (hb.setRow _)
set_option maxHeartbeats 1000000 in
set_option maxRecDepth 100000 in
theorem implEmptyMapKey_any (w : World) : Calls Try.prog 111 #[] w fun e w' => e = .returned (.agg (numsA .u8 emptyL)) ∧ Ext w w' := by
  have hk := emptyL_ok.1
  go_enter Try.func111, Try.ntmps111
  go_wp2_with fail
  refine (hash_any 5 (by decide) _ [] _ _ (rd_none _ (fun _ => True)) (by simp)).mono ?_
  rintro e w1 ⟨rfl, hx⟩
  have HB := Lib.hid ((Blk.new w 53 _).ext hx)
  have HX := Lib.hid ((ext_alloc w _).trans hx)
  clear hx
  go_wp2_with (refine wpl_storeN HB.out aggKey hk rfl rfl _ _ rfl rfl rfl rfl ?_)
  refine bodyPost_ret (results_blk rfl _ rfl aggKey hk (HB.out.setRow _)) rfl ?_
  exact ⟨rfl, HX.out.setRow (Nat.le_refl _) _⟩

end Go.Proofs.Ytnklgkmpcochfaa
/- Names and valid entries. No condition. -/
namespace Go.Proofs.Ytnklgkmpcochfaa
open Go.RowKit
set_option linter.unusedVariables false
set_option linter.unusedSimpArgs false

/-- a text that is a name -/
@[irreducible] def nameB (s : ByteArray) : Bool := decide (1 ≤ (s.size : Int)) && decide ((s.size : Int) ≤ 24)
theorem nameB_eq (s : ByteArray) : nameB s = (decide (1 ≤ (s.size : Int)) && decide ((s.size : Int) ≤ 24)) := by rw [nameB]
set_option maxHeartbeats 1000000 in
set_option maxRecDepth 100000 in
theorem l04Name_any (s : ByteArray) (hs : s.size ≤ 140737488351232) (w : World) : Calls Try.prog 151 #[.string s] w fun e w' => e = .returned (.bool (nameB s)) ∧ w = w' := by
  have H := Lib.hid (nameB_eq s)
  go_enter Try.func151, Try.ntmps151
  go_wp2_with fail
  refine (l00In_any s.size 1 24 _).mono ?_
  rintro e w' ⟨rfl, rfl⟩
  rw [← H.out]
  go_wp2
  go_ret
  exact ⟨rfl, rfl⟩
set_option maxHeartbeats 1000000 in
set_option maxRecDepth 100000 in
theorem isName_any (s : ByteArray) (hs : s.size ≤ 140737488351232) (w : World) : Calls Try.prog 138 #[.string s] w fun e w' => e = .returned (.bool (nameB s)) ∧ w = w' := by
  have H := Lib.hid (nameB_eq s)
  go_enter Try.func138, Try.ntmps138
  go_wp2_with fail
  refine (within_any s.size 1 24 _).mono ?_
  rintro e w' ⟨rfl, rfl⟩
  rw [← H.out]
  go_wp2
  go_ret
  exact ⟨rfl, rfl⟩
/-- a valid entry -/
@[irreducible] def entB (n v : ByteArray) : Bool := nameB n && decide (v.size ≤ 64)
theorem entB_eq (n v : ByteArray) : entB n v = (nameB n && decide (v.size ≤ 64)) := by rw [entB]
theorem nameB_le {n : ByteArray} (h : nameB n = true) : 1 ≤ n.size ∧ n.size ≤ 24 := by
  rw [nameB_eq] at h
  simp at h
  omega
theorem entB_le {n v : ByteArray} (h : entB n v = true) : 1 ≤ n.size ∧ n.size ≤ 24 ∧ v.size ≤ 64 := by
  rw [entB_eq] at h
  simp at h
  have := nameB_le h.1
  omega
set_option maxHeartbeats 1000000 in
set_option maxRecDepth 100000 in
theorem l04Entry_any (n v : ByteArray) (hn : n.size ≤ 140737488351232) (hv : v.size ≤ 140737488351232) (g off : Nat) (w : World) (c0 : w.cell? ⟨g, off, none⟩ = some (.string n)) (c1 : w.cell? ⟨g, off + 1, none⟩ = some (.string v)) :
    Calls Try.prog 133 #[.pointer (some ⟨g, off, none⟩)] w fun e w' => e = .returned (.bool (entB n v)) ∧ w = w' := by
  rw [entB_eq]
  have hc := l04Name_any n hn
  cases hb : nameB n with
  | true =>
    simp only [hb] at hc
    clear hb
    go_enter Try.func133, Try.ntmps133
    go_wp2_with fail
    refine (hc _).mono ?_
    rintro e w' ⟨rfl, rfl⟩
    go_wp2
    go_ret
    exact ⟨ret_bool (by simp; omega), rfl⟩
  | false =>
    simp only [hb] at hc
    clear hb
    go_enter Try.func133, Try.ntmps133
    go_wp2_with fail
    refine (hc _).mono ?_
    rintro e w' ⟨rfl, rfl⟩
    go_wp2
    go_ret
    exact ⟨rfl, rfl⟩
set_option maxHeartbeats 1000000 in
set_option maxRecDepth 100000 in
theorem validEntry_any (n v : ByteArray) (hn : n.size ≤ 140737488351232) (hv : v.size ≤ 140737488351232) (w : World) :
    Calls Try.prog 109 #[.agg #[.string n, .string v]] w fun e w' => e = .returned (.bool (entB n v)) ∧ Ext w w' := by
  rw [entB_eq]
  have hc := isName_any n hn
  cases hb : nameB n with
  | true =>
    simp only [hb] at hc
    clear hb
    go_enter Try.func109, Try.ntmps109
    go_wp2_with fail
    refine (hc _).mono ?_
    rintro e w' ⟨rfl, rfl⟩
    go_wp2
    go_ret
    exact ⟨ret_bool (by simp; omega), ext_alloc _ _⟩
  | false =>
    simp only [hb] at hc
    clear hb
    go_enter Try.func109, Try.ntmps109
    go_wp2_with fail
    refine (hc _).mono ?_
    rintro e w' ⟨rfl, rfl⟩
    go_wp2
    go_ret
    exact ⟨rfl, ext_alloc _ _⟩


end Go.Proofs.Ytnklgkmpcochfaa
/- Names, and their priorities. No condition. -/
namespace Go.Proofs.Ytnklgkmpcochfaa
open Go.RowKit
set_option linter.unusedVariables false
set_option linter.unusedSimpArgs false

def prioL (s : ByteArray) : List Int := hashL 4 (strL s)
theorem prioL_ok (s : ByteArray) : K32 (prioL s) := hashL_ok _ _
theorem prioL_eq (s : ByteArray) : prioL s = hashL 4 (strL s) := rfl
attribute [irreducible] prioL
set_option maxHeartbeats 1000000 in
set_option maxRecDepth 100000 in
theorem l04Priority_any (s : ByteArray) (hs : s.size ≤ 1048576) (w : World) : Calls Try.prog 152 #[.string s] w fun e w' => e = .returned (.agg (numsA .u8 (prioL s))) ∧ Ext w w' := by
  have hk := (prioL_ok s).1
  go_enter Try.func152, Try.ntmps152
  go_wp2_with (refine wpl_conv Try.underlying9 Try.underlying66 Try.underlying5 rfl _ rfl rfl (by omega) ?_; intro A1 c1 w1 hr hx; have HR := Lib.hid hr; have HX := Lib.hid hx; clear hr hx)
  refine (l01Hash_any 4 (by decide) _ (strL s) _ _ HR.out (by rw [strL_length]; omega)).mono ?_
  rw [← prioL_eq]
  rintro e w2 ⟨rfl, hx⟩
  have HB := Lib.hid (((Blk.new w 53 _).ext HX.out).ext hx)
  have HX2 := Lib.hid (((ext_alloc w _).trans HX.out).trans hx)
  clear hx
  go_wp2_with (refine wpl_storeN HB.out aggKey hk rfl rfl _ _ rfl rfl rfl rfl ?_)
  refine bodyPost_ret (results_blk rfl _ rfl aggKey hk (HB.out.setRow _)) rfl ?_
  exact ⟨rfl, HX2.out.setRow (Nat.le_refl _) _⟩
/-- the priority and the code -/
def prioR (s : ByteArray) : List Int × Int := if nameB s then (prioL s, 0) else (List.replicate 32 0, 1)
theorem zero_ok : K32 (List.replicate 32 0) := ⟨by simp, replicate_ok _⟩
theorem prioR_ok (s : ByteArray) : K32 (prioR s).1 := by unfold prioR; split; exact prioL_ok s; exact zero_ok
end Go.Proofs.Ytnklgkmpcochfaa
/- The bytes and the key of a node. No condition. -/
namespace Go.Proofs.Ytnklgkmpcochfaa
open Go.RowKit
set_option linter.unusedVariables false
set_option linter.unusedSimpArgs false

theorem rd_of {w : World} {S : Nat → Prop} {A : Option Addr} {n c : Nat} {xs : List Int} (h : RdL tByte w S (.slice A n c) xs) : Rd w S tByte.sz A xs.length (xs.flatMap tByte.enc) ∧ (∀ y ∈ xs, tByte.ok y) ∧ n = xs.length := by
  obtain ⟨A2, cap2, e, _, _, h1, h2⟩ := h
  injection e with e1 e2 e3
  subst e1
  exact ⟨h1, h2, e2⟩
/-- the bytes of a node -/
@[irreducible] def nodeL (x : Nd) : List Int := x.l ++ x.r ++ [(x.n.size : Int) % 256] ++ strL x.n ++ strL x.v
theorem nodeL_eq (x : Nd) : nodeL x = x.l ++ x.r ++ [(x.n.size : Int) % 256] ++ strL x.n ++ strL x.v := by rw [nodeL]
theorem nodeL_length {x : Nd} (h : x.ok) : (nodeL x).length = 65 + x.n.size + x.v.size := by
  rw [nodeL]; simp only [List.length_append, strL_length, h.1.1, h.2.1.1, List.length_cons, List.length_nil]
set_option maxHeartbeats 1000000 in
set_option maxRecDepth 100000 in
theorem l04Bytes_any (x : Nd) (hok : x.ok) (he : entB x.n x.v = true) (b : Nat) (w : World) (hb : Blk w b 171 x.enc.toArray) :
    Calls Try.prog 153 #[.pointer (some ⟨b, 0, none⟩)] w fun e w' => ∃ v', e = .returned v' ∧ Own tByte 5 w' w.heap.size v' (nodeL x) ∧ Ext w w' := by
  obtain ⟨hn1, hn2, hv⟩ := entB_le he
  have HB := Lib.hid hb
  have HL := Lib.hid hok.1.1
  have HR := Lib.hid hok.2.1.1
  have HLb := Lib.hid hok.1.2
  have HRb := Lib.hid hok.2.1.2
  have HO := Lib.hid hok
  clear hb hok he
  go_enter Try.func153, Try.ntmps153
  go_wp2_with fail
  go_loopw [3, 4] (fun o i wr => ∃ k : Nat, k ≤ 32 ∧ i = .int .i64 k ∧ Own tByte 5 wr w.heap.size o (x.l.take k) ∧ Ext w wr) (fun _ i _ => 32 - (intOf i).toNat)
  case atStart => exact ⟨0, by omega, rfl, by rw [List.take_zero]; exact Own.empty' tByte rfl _ _ (Nat.le_refl _), ext_alloc _ _⟩
  case round =>
    obtain ⟨k, hk, rfl, ho, hx⟩ := hrel
    have HO1 := Lib.hid ho
    have HX := Lib.hid hx
    obtain ⟨C, cn, cc, rfl⟩ := ho.shape3
    clear ho hx
    by_cases hlt : k < 32
    · have hd : wr.cell? ⟨b, k, none⟩ = some (.int .u8 (gI x.l k)) := by
        have := (HB.out.ext HX.out).at_ (0 + k) (Nd.left HO.out k _ (numsA_at .u8 x.l k (by rw [HL.out]; exact hlt)))
        rwa [Nat.zero_add] at this
      have hu := HLb.out.get k
      have HS2 := Lib.hid (take_snoc x.l k (by rw [HL.out]; exact hlt))
      go_wp2_with (at_builtin; refine wpl_append rowByte rfl _ _ rfl (v := .slice C cn cc) rfl (HO1.out.alloc _) _ _ rfl (A := some ⟨wr.heap.size, 0, none⟩) (ys := [gI x.l k]) rfl (rd_byte wr (gI x.l k) hu _) (okOne hu) (by simp; omega) (HX.out.alloc _).size ?_; intro v9 w9 ho1 hg1 hat1; have HX9 := Lib.hid ((HO1.out.alloc _).ext_app (HX.out.alloc _) hg1); have HO9 := Lib.hid ho1; clear ho1 hg1 hat1)
      go_roundw
      case rel => exact ⟨k + 1, by omega, by go_num, by rw [HS2.out]; exact HO9.out, HX9.out⟩
      case measure => simp [intOf]; omega
    · obtain rfl : k = 32 := by omega
      have e : x.l.take 32 = x.l := List.take_of_length_le (by rw [HL.out]; exact Nat.le_refl _)
      rw [e] at HO1
      clear e
      simp only [Int.cast_ofNat_Int]
      go_wp2_with fail
      go_loopw [3, 5] (fun o i wr => ∃ k : Nat, k ≤ 32 ∧ i = .int .i64 k ∧ Own tByte 5 wr w.heap.size o (x.l ++ x.r.take k) ∧ Ext w wr) (fun _ i _ => 32 - (intOf i).toNat)
      case atStart => exact ⟨0, by omega, rfl, by rw [List.take_zero, List.append_nil]; exact HO1.out, HX.out⟩
      case round =>
        clear HO1 HX hlt hk
        obtain ⟨k, hk, rfl, ho, hx⟩ := hrel
        have HO1 := Lib.hid ho
        have HX := Lib.hid hx
        obtain ⟨D, dn, dc, rfl⟩ := ho.shape3
        clear ho hx
        by_cases hlt : k < 32
        · have hd : wr.cell? ⟨b, 32 + k, none⟩ = some (.int .u8 (gI x.r k)) := 
            (HB.out.ext HX.out).at_ (32 + k) (Nd.right HO.out k _ (numsA_at .u8 x.r k (by rw [HR.out]; exact hlt)))
          have hu := HRb.out.get k
          have HS2 := Lib.hid (take_snoc x.r k (by rw [HR.out]; exact hlt))
          go_wp2_with (at_builtin; refine wpl_append rowByte rfl _ _ rfl (v := .slice D dn dc) rfl (HO1.out.alloc _) _ _ rfl (A := some ⟨wr.heap.size, 0, none⟩) (ys := [gI x.r k]) rfl (rd_byte wr (gI x.r k) hu _) (okOne hu) (by simp [HL.out]; omega) (HX.out.alloc _).size ?_; intro v9 w9 ho1 hg1 hat1; have HX9 := Lib.hid ((HO1.out.alloc _).ext_app (HX.out.alloc _) hg1); have HO9 := Lib.hid ho1; clear ho1 hg1 hat1)
          go_roundw
          case rel => exact ⟨k + 1, by omega, by go_num, by rw [HS2.out, ← List.append_assoc]; exact HO9.out, HX9.out⟩
          case measure => simp [intOf]; omega
        · obtain rfl : k = 32 := by omega
          have e : x.r.take 32 = x.r := List.take_of_length_le (by rw [HR.out]; exact Nat.le_refl _)
          rw [e] at HO1
          clear e
          simp only [Int.cast_ofNat_Int]
          have c0 := (HB.out.ext HX.out).at_ 64 (Nd.at64 HO.out)
          have W1 : IntKind.u8.wrap (x.n.size : Int) = x.n.size := by rw [IntKind.wrap_u8]; omega
          have hl1 := strL_length x.n
          have hl2 := strL_length x.v
          have Hl1 := Lib.hid hl1
          have Hl2 := Lib.hid hl2
          have Hlen : Hid ((x.l ++ x.r).length = 64) := Lib.hid (by simp [HL.out, HR.out])
          clear hl1 hl2
          have hu : (0 : Int) ≤ x.n.size ∧ (x.n.size : Int) ≤ 255 := by omega
          go_wp2_with (first
            | (at_builtin; refine wpl_append rowByte rfl _ _ rfl (v := .slice D dn dc) rfl (HO1.out.alloc _) _ _ rfl (A := some ⟨wr.heap.size, 0, none⟩) (ys := [(x.n.size : Int)]) rfl (rd_byte wr (x.n.size : Int) hu _) (okOne hu) (by rw [Hlen.out]; simp) (HX.out.alloc _).size ?_; intro v9 w9 ho1 hg1 hat1; obtain ⟨E1, en, ec, rfl⟩ := ho1.shape3; have HX9 := Lib.hid ((HO1.out.alloc _).ext_app (HX.out.alloc _) hg1); have HO9 := Lib.hid ho1; have c1 := (HB.out.ext HX9.out).at_ 64 (Nd.at64 HO.out); clear ho1 hg1 hat1)
            | (refine wpl_conv (s := x.n) Try.underlying9 Try.underlying66 Try.underlying5 rfl _ rfl rfl (by omega) ?_; intro A1 k1 w10 hr hx; have HX10 := Lib.hid (HX9.out.trans hx); have HO10 := Lib.hid (HO9.out.ext hx); have HR10 := Lib.hid (rd_of hr); clear hr hx)
            | (at_builtin; refine wpl_append rowByte rfl _ _ rfl (v := .slice E1 en ec) rfl HO10.out _ _ rfl (ys := strL x.n) HR10.out.2.2 HR10.out.1 HR10.out.2.1 (by rw [List.length_append, Hlen.out, Hl1.out]; simp; omega) HX10.out.size ?_; intro v11 w11 ho1 hg1 hat1; obtain ⟨G1, gn, gc, rfl⟩ := ho1.shape3; have HX11 := Lib.hid (HO10.out.ext_app HX10.out hg1); have HO11 := Lib.hid ho1; have c2 := (HB.out.ext HX11.out).at_ 65 (Nd.at65 HO.out); clear ho1 hg1 hat1)
            | (refine wpl_conv (s := x.v) Try.underlying9 Try.underlying66 Try.underlying5 rfl _ rfl rfl (by omega) ?_; intro A2 k2 w12 hr hx; have HX12 := Lib.hid (HX11.out.trans hx); have HO12 := Lib.hid (HO11.out.ext hx); have HR12 := Lib.hid (rd_of hr); clear hr hx)
            | (at_builtin; refine wpl_append rowByte rfl _ _ rfl (v := .slice G1 gn gc) rfl HO12.out _ _ rfl (ys := strL x.v) HR12.out.2.2 HR12.out.1 HR12.out.2.1 (by rw [List.length_append, List.length_append, Hlen.out, Hl1.out, Hl2.out]; simp; omega) HX12.out.size ?_; intro v13 w13 ho1 hg1 hat1; have HX13 := Lib.hid (HO12.out.ext_app HX12.out hg1); have HO13 := Lib.hid ho1; clear ho1 hg1 hat1))
          go_ret
          refine ⟨_, rfl, ?_, HX13.out⟩
          have := HO13.out
          rw [nodeL_eq, show (x.n.size : Int) % 256 = x.n.size by omega]
          exact this
set_option maxHeartbeats 1000000 in
set_option maxRecDepth 100000 in
theorem l04NodeKey_any (x : Nd) (hok : x.ok) (he : entB x.n x.v = true) (b : Nat) (w : World) (hb : Blk w b 171 x.enc.toArray) :
    Calls Try.prog 136 #[.pointer (some ⟨b, 0, none⟩)] w fun e w' => e = .returned (.agg (numsA .u8 (hashL 5 (nodeL x)))) ∧ Ext w w' := by
  have hk := (hashL_ok 5 (nodeL x)).1
  have hle := entB_le he
  have hnl := nodeL_length hok
  have Hnl : Hid ((nodeL x).length ≤ 1000) := Lib.hid (by omega)
  have HB := Lib.hid hb
  clear hb hle hnl
  go_enter Try.func136, Try.ntmps136
  go_wp2_with fail
  refine (l04Bytes_any x hok he b _ (HB.out.alloc _)).mono ?_
  rintro e w1 ⟨v1, rfl, ho, hx⟩
  obtain ⟨A1, n1, c1, rfl⟩ := ho.shape3
  have B1 := Lib.hid ((Blk.new w 53 _).ext hx)
  have XW := Lib.hid ((ext_alloc w _).trans hx)
  have HO := Lib.hid ho
  clear hx ho
  go_wp2_with fail
  refine (l01Hash_any 5 (by decide) _ (nodeL x) _ _ HO.out.rd (by have := Hnl.out; omega)).mono ?_
  rintro e w2 ⟨rfl, hx⟩
  replace B1 := Lib.hid (B1.out.ext hx)
  replace XW := Lib.hid (XW.out.trans hx)
  clear hx HO
  go_wp2_with (refine wpl_storeN B1.out aggKey hk rfl rfl _ _ rfl rfl rfl rfl ?_)
  refine bodyPost_ret (results_blk rfl _ rfl aggKey hk (B1.out.setRow _)) rfl ?_
  exact ⟨rfl, XW.out.setRow (by omega) _⟩
/-- the key of a node, and the code -/
def nodeKR (x : Nd) : List Int × Int := if entB x.n x.v then (hashL 5 (nodeL x), 0) else (List.replicate 32 0, 1)
theorem nodeKR_ok (x : Nd) : K32 (nodeKR x).1 := by unfold nodeKR; split; exact hashL_ok _ _; exact zero_ok
end Go.Proofs.Ytnklgkmpcochfaa
/- Any number of slices of bytes put together. No condition. -/
namespace Go.Proofs.Ytnklgkmpcochfaa
open Go.RowKit
set_option linter.unusedVariables false
set_option linter.unusedSimpArgs false

/-- all bytes of the first k -/
@[irreducible] def catL (L : List (Value × List Int)) (k : Nat) : List Int := (L.take k).flatMap (·.2)
theorem catL_zero (L : List (Value × List Int)) : catL L 0 = [] := by rw [catL]; simp
theorem catL_succ (L : List (Value × List Int)) (k : Nat) (h : k < L.length) : catL L (k + 1) = catL L k ++ L[k].2 := by
  rw [catL, catL, List.take_succ_eq_append_getElem h, List.flatMap_append, List.flatMap_cons, List.flatMap_nil, List.append_nil]
theorem catL_le (L : List (Value × List Int)) (k : Nat) (h : k ≤ L.length) : (catL L k).length ≤ (catL L L.length).length := by
  rw [catL, catL]
  conv => rhs; rw [← Nat.add_sub_cancel' h, List.take_add]
  simp
set_option maxHeartbeats 1000000 in
set_option maxRecDepth 100000 in
theorem concat_any (g o c : Nat) (L : List (Value × List Int)) (w : World) (S : Nat → Prop) (hrd : ∀ i (h : i < L.length), RdL tByte w S L[i].1 L[i].2) (hc : ∀ i (h : i < L.length), w.cell? ⟨g, o + i, none⟩ = some L[i].1)
    (hL : L.length ≤ 1000) (h0 : 0 < (catL L L.length).length) (hn : (catL L L.length).length ≤ 70368744177664) :
    Calls Try.prog 117 #[.slice (some ⟨g, o, none⟩) L.length c] w fun e w' => ∃ v', e = .returned v' ∧ Own tByte 5 w' w.heap.size v' (catL L L.length) ∧ Ext w w' := by
  have HRD := Lib.hid hrd
  have HC := Lib.hid hc
  have HZ := Lib.hid (catL_zero L)
  clear hrd hc
  go_enter Try.func117, Try.ntmps117
  go_wp2_with fail
  go_loop [3, 11] (fun s i => ∃ k : Nat, k ≤ L.length ∧ i = .int .i64 k ∧ s = .int .i64 (catL L k).length) (fun _ i => L.length - (intOf i).toNat)
  case atStart => exact ⟨0, by omega, rfl, by rw [HZ.out]; rfl⟩
  case round =>
    obtain ⟨k, hk, rfl, rfl⟩ := hrel
    have hle := catL_le L k hk
    by_cases hlt : k < L.length
    · have hle2 := catL_le L (k + 1) hlt
      have HS := Lib.hid (catL_succ L k hlt)
      have hcell := HC.out k hlt
      obtain ⟨A, cap, e, hcap, hlen, _⟩ := HRD.out k hlt
      rw [e] at hcell
      rw [HS.out, List.length_append] at hle2
      have hi : (0 : Int) ≤ (k : Int) := by omega
      go_wp2_with fail
      go_round
      case rel => exact ⟨k + 1, by omega, by go_num, by rw [HS.out, List.length_append]; go_num⟩
      case measure => simp [intOf]; omega
    · obtain rfl : k = L.length := by omega
      have G := grow_any (catL L L.length).length h0 hn w
      have HG := Lib.hid G
      clear G
      go_wp2_with fail
      refine HG.out.mono ?_
      rintro e w1 ⟨v1, rfl, ho, hx⟩
      have HO := Lib.hid ho
      have HX := Lib.hid hx
      clear ho hx
      go_wp2_with fail
      go_loopw [6, 27] (fun v i wr => ∃ k : Nat, k ≤ L.length ∧ i = .int .i64 k ∧ Own tByte 5 wr w.heap.size v (catL L k) ∧ Ext w wr) (fun _ i _ => L.length - (intOf i).toNat)
      case atStart => exact ⟨0, by omega, rfl, by rw [HZ.out]; exact HO.out, HX.out⟩
      case round =>
        clear HO HX hk hle hlt
        obtain ⟨k, hk, rfl, ho, hx⟩ := hrel
        have HX := Lib.hid hx
        have HO := Lib.hid ho
        obtain ⟨B, bn, bc, rfl⟩ := ho.shape3
        have hle := catL_le L k hk
        clear ho hx
        by_cases hlt : k < L.length
        · have hle2 := catL_le L (k + 1) hlt
          have HS := Lib.hid (catL_succ L k hlt)
          have hcell := HX.out.cell (HC.out k hlt)
          obtain ⟨A, cap, e, hcap, hlen, hr1, hok1⟩ := (HRD.out k hlt).ext (by decide) HX.out
          rw [e] at hcell
          rw [HS.out, List.length_append] at hle2
          have HR := Lib.hid hr1
          have HK := Lib.hid hok1
          have hi : (0 : Int) ≤ (k : Int) := by omega
          clear hr1 hok1
          go_wp2_with (at_builtin; refine wpl_append rowByte rfl _ _ rfl (v := .slice B bn bc) rfl HO.out _ _ rfl (ys := L[k].2) (A := A) (S := S) rfl HR.out HK.out (by omega) HX.out.size ?_; intro v1 w1 ho1 hg1 hat1; have HO1 := Lib.hid ho1; have HX1 := Lib.hid (HO.out.ext_app HX.out hg1); clear ho1 hg1 hat1)
          go_roundw
          case rel => exact ⟨k + 1, by omega, by go_num, by rw [HS.out]; exact HO1.out, HX1.out⟩
          case measure => simp [intOf]; omega
        · obtain rfl : k = L.length := by omega
          go_wp2_with fail
          go_ret
          exact ⟨_, rfl, HO.out, HX.out⟩

end Go.Proofs.Ytnklgkmpcochfaa
/- The program's bytes and key of a node. No condition. -/
namespace Go.Proofs.Ytnklgkmpcochfaa
open Go.RowKit
set_option linter.unusedVariables false
set_option linter.unusedSimpArgs false

/-- the bytes of a text, in new memory: one step of a region that draws its order -/
theorem stp_conv {P : Program} {ops : Array Oper} {o : Oper} {a : Act} {w : World} {K : Act → World → Prop} {Q : Exit → Act → World → Prop} {E : Prop} {src dst e : TypeId} {s : ByteArray}
    (hs : P.underlying src = some .string) (hd : P.underlying dst = some (.slice e)) (he : P.underlying e = some (.int .u8)) (hgd : o.guard = none) (x : Operand) (ho : o.op = .convert src dst x) (hx : a.eval x = .string s) (hl : s.size ≤ 140737488351232)
    (h : ∀ A c w', RdL tByte w' (fun _ => True) (.slice A s.size c) (strL s) → Ext w w' → K (a.put o.dst (.slice A s.size c)) w') : if Region.wanted o (yielded ops a.tmps) = true then Oper.wp P o a w K Q else E := by
  have hw : Region.wanted o (yielded ops a.tmps) = true := by simp [Region.wanted, hgd]
  rw [if_pos hw]
  unfold Oper.wp execOp
  simp only [ho, hx, Sem.run_bind, Sem.run_pure, Result.andThen_ok, Lib.run_convert_string_bytes w src dst e s hs hd he]
  exact h _ _ _ ((bytesWorld_rd w e s hl).mono fun _ _ => trivial) (bytesWorld_ext w e s)
/-- bytes that lie in a variable -/
theorem rdl_blk {w : World} {g t off n : Nat} {cs : Array Value} {xs : List Int} (hb : Blk w g t cs) (hp : ∀ j u, (numsA .u8 xs)[j]? = some u → cs[off + j]? = some u) (hn : xs.length = n) (h1 : B8 xs) (h2 : n ≤ 1000) (c : Nat) (hc : n ≤ c) : RdL tByte w (fun _ => True) (.slice (some ⟨g, off, none⟩) n c) xs := by
  subst hn
  refine ⟨_, _, rfl, hc, by omega, ⟨by rw [flat_bytes, nums_length]; exact (Nat.mul_one _).symm, fun _ => ⟨g, off, rfl, trivial, fun j u hu => ?_⟩⟩, h1⟩
  rw [hb.cell]
  exact hp j u (by rw [flat_bytes] at hu; simpa [numsA] using hu)
theorem rdl_one {w : World} {g : Nat} {x : Int} (hx : 0 ≤ x ∧ x ≤ 255) (hc : w.cell? ⟨g, 0, none⟩ = some (.int .u8 x)) (c : Nat) (h : 1 ≤ c) : RdL tByte w (fun _ => True) (.slice (some ⟨g, 0, none⟩) 1 c) [x] := by
  refine ⟨_, _, rfl, h, by simp, ⟨by simp [tByte], fun _ => ⟨g, 0, rfl, trivial, fun j u hu => ?_⟩⟩, okOne hx⟩
  simp [tByte] at hu
  obtain ⟨rfl, rfl⟩ : j = 0 ∧ u = .int .u8 x := by
    cases j with
    | zero => simp at hu; exact ⟨rfl, hu.symm⟩
    | succ j => simp at hu
  exact hc
/-- the five parts of a node's bytes put together -/
theorem nodeCat_any (x : Nd) (hok : x.ok) (b : Nat) (v9 v13 : Value) (W : World) (v17 : Value) (hn2 : x.n.size ≤ 24) (B1 : Blk W b 171 x.enc.toArray) (r9 : RdL tByte W (fun _ => True) v9 [(x.n.size : Int)]) (r13 : RdL tByte W (fun _ => True) v13 (strL x.n)) (r17 : RdL tByte W (fun _ => True) v17 (strL x.v))
    (h0 : 0 < (x.l ++ x.r ++ [(x.n.size : Int) % 256] ++ strL x.n ++ strL x.v).length) (h1 : (x.l ++ x.r ++ [(x.n.size : Int) % 256] ++ strL x.n ++ strL x.v).length ≤ 70368744177664) :
    Calls Try.prog 117 #[.slice (some ⟨W.heap.size, 0, none⟩) 5 5] (W.alloc (.cells #[.slice (some ⟨b, 0, none⟩) 32 32, .slice (some ⟨b, 32, none⟩) 32 32, v9, v13, v17] 66)) fun e w' => ∃ v', e = .returned v' ∧ Own tByte 5 w' (W.alloc (.cells #[.slice (some ⟨b, 0, none⟩) 32 32, .slice (some ⟨b, 32, none⟩) 32 32, v9, v13, v17] 66)).heap.size v' (x.l ++ x.r ++ [(x.n.size : Int) % 256] ++ strL x.n ++ strL x.v) ∧ Ext (W.alloc (.cells #[.slice (some ⟨b, 0, none⟩) 32 32, .slice (some ⟨b, 32, none⟩) 32 32, v9, v13, v17] 66)) w' := by
  have e : (x.n.size : Int) % 256 = x.n.size := by omega
  rw [e] at h0 h1 ⊢
  obtain ⟨L, hL⟩ : ∃ L : List (Value × List Int), L = [(.slice (some ⟨b, 0, none⟩) 32 32, x.l), (.slice (some ⟨b, 32, none⟩) 32 32, x.r), (v9, [(x.n.size : Int)]), (v13, strL x.n), (v17, strL x.v)] := ⟨_, rfl⟩
  have hcat : catL L L.length = x.l ++ x.r ++ [(x.n.size : Int)] ++ strL x.n ++ strL x.v := by rw [catL, List.take_length, hL]; simp
  have hrow := Blk.new W 66 #[.slice (some ⟨b, 0, none⟩) 32 32, .slice (some ⟨b, 32, none⟩) 32 32, v9, v13, v17]
  have H := concat_any W.heap.size 0 5 L (W.alloc (.cells #[.slice (some ⟨b, 0, none⟩) 32 32, .slice (some ⟨b, 32, none⟩) 32 32, v9, v13, v17] 66)) (fun _ => True) ?_ ?_ (by rw [hL]; simp) (by rw [hcat]; exact h0) (by rw [hcat]; exact h1)
  · rw [hcat] at H
    rw [show L.length = 5 by rw [hL]; rfl] at H
    exact H
  · have hE := ext_alloc W (.cells #[.slice (some ⟨b, 0, none⟩) 32 32, .slice (some ⟨b, 32, none⟩) 32 32, v9, v13, v17] 66)
    intro i hi
    subst hL
    simp only [List.length_cons, List.length_nil] at hi
    rcases (show i = 0 ∨ i = 1 ∨ i = 2 ∨ i = 3 ∨ i = 4 by omega) with rfl | rfl | rfl | rfl | rfl
    · exact (rdl_blk B1 (Nd.left hok) hok.1.1 hok.1.2 (by decide) 32 (Nat.le_refl _)).ext (by decide) hE
    · exact (rdl_blk B1 (Nd.right hok) hok.2.1.1 hok.2.1.2 (by decide) 32 (Nat.le_refl _)).ext (by decide) hE
    · exact r9.ext (by decide) hE
    · exact r13.ext (by decide) hE
    · exact r17.ext (by decide) hE
  · intro i hi
    subst hL
    simp only [List.length_cons, List.length_nil] at hi
    rcases (show i = 0 ∨ i = 1 ∨ i = 2 ∨ i = 3 ∨ i = 4 by omega) with rfl | rfl | rfl | rfl | rfl <;> exact hrow.at_ _ rfl
set_option maxHeartbeats 1000000 in
set_option maxRecDepth 100000 in
theorem nodeBytes_any (x : Nd) (hok : x.ok) (he : entB x.n x.v = true) (w : World) :
    Calls Try.prog 139 #[.agg x.enc.toArray] w fun e w' => ∃ v', e = .returned v' ∧ Own tByte 5 w' w.heap.size v' (nodeL x) ∧ Ext w w' := by
  obtain ⟨hn1, hn2, hv⟩ := entB_le he
  have HL := Lib.hid hok.1.1
  have HR := Lib.hid hok.2.1.1
  have HO := Lib.hid hok
  have HNL := Lib.hid (nodeL_length hok)
  have HN := Lib.hid (nodeL_eq x)
  have W1 : IntKind.u8.wrap (x.n.size : Int) = x.n.size := by rw [IntKind.wrap_u8]; omega
  have hu : (0 : Int) ≤ x.n.size ∧ (x.n.size : Int) ≤ 255 := by omega
  have B0 := Lib.hid (Blk.new w 171 x.enc.toArray)
  have hc0 : ∀ W, Ext (w.alloc (.cells x.enc.toArray 171)) W → W.cell? ⟨w.heap.size, 64, none⟩ = some (.string x.n) := fun W h => (B0.out.ext h).at_ 64 (Nd.at64 HO.out)
  have hc1 : ∀ W, Ext (w.alloc (.cells x.enc.toArray 171)) W → W.cell? ⟨w.heap.size, 65, none⟩ = some (.string x.v) := fun W h => (B0.out.ext h).at_ 65 (Nd.at65 HO.out)
  clear hok he
  go_enter Try.func139, Try.ntmps139
  go_wp2_with fail
  refine wp_region_held_drew (S := fun W => Ext (w.alloc (.cells x.enc.toArray 171)) W) (by kernel_rfl) (Ext.refl _).drew (fun hHeld => ?_)
  refine wpAnyH_take (i := 0) (oi := ?oiz1) (v := ?vz1) ?hiz1 (by kernel_rfl) (by kernel_rfl) (by kernel_rfl) ?hQz1 ?hyz1 (by assumption) ?restz1
  case hiz1 => simp only [List.getElem?_toArray, List.getElem?_cons_zero, List.getElem?_cons_succ]; rfl
  case hQz1 => exact fun _ _ _ h => h
  case hyz1 => exact Or.inl ⟨by rfl, by intro w hSw; (try dsimp only at hSw); go_simp; with_reducible rfl⟩
  try simp only [Act.put, List.setIfInBounds_toArray, List.set_cons_zero, List.set_cons_succ]
  refine wpAnyH_take (i := 1) (oi := ?oiz2) (v := ?vz2) ?hiz2 (by kernel_rfl) (by kernel_rfl) (by kernel_rfl) ?hQz2 ?hyz2 (by assumption) ?restz2
  case hiz2 => simp only [List.getElem?_toArray, List.getElem?_cons_zero, List.getElem?_cons_succ]; rfl
  case hQz2 => exact fun _ _ _ h => h
  case hyz2 => exact Or.inl ⟨by rfl, by intro w hSw; (try dsimp only at hSw); go_simp; with_reducible rfl⟩
  try simp only [Act.put, List.setIfInBounds_toArray, List.set_cons_zero, List.set_cons_succ]
  refine wpAnyH_take (i := 2) (oi := ?oiz3) (v := ?vz3) ?hiz3 (by kernel_rfl) (by kernel_rfl) (by kernel_rfl) ?hQz3 ?hyz3 (by assumption) ?restz3
  case hiz3 => simp only [List.getElem?_toArray, List.getElem?_cons_zero, List.getElem?_cons_succ]; rfl
  case hQz3 => exact fun _ _ _ h => h
  case hyz3 => exact Or.inl ⟨by rfl, by intro w hSw; (try dsimp only at hSw); go_simp; with_reducible rfl⟩
  try simp only [Act.put, List.setIfInBounds_toArray, List.set_cons_zero, List.set_cons_succ]
  refine wpAnyH_take (i := 3) (oi := ?oiz4) (v := ?vz4) ?hiz4 (by kernel_rfl) (by kernel_rfl) (by kernel_rfl) ?hQz4 ?hyz4 (by assumption) ?restz4
  case hiz4 => simp only [List.getElem?_toArray, List.getElem?_cons_zero, List.getElem?_cons_succ]; rfl
  case hQz4 => exact fun _ _ _ h => h
  case hyz4 => exact Or.inl ⟨by rfl, by intro w hSw; (try dsimp only at hSw); go_simp; with_reducible rfl⟩
  try simp only [Act.put, List.setIfInBounds_toArray, List.set_cons_zero, List.set_cons_succ]
  refine wpAnyH_take (i := 4) (oi := ?oiz5) (v := ?vz5) ?hiz5 (by kernel_rfl) (by kernel_rfl) (by kernel_rfl) ?hQz5 ?hyz5 (by assumption) ?restz5
  case hiz5 => simp only [List.getElem?_toArray, List.getElem?_cons_zero, List.getElem?_cons_succ]; rfl
  case hQz5 => exact fun _ _ _ h => h
  case hyz5 => exact Or.inl ⟨by rfl, by intro w hSw; (try dsimp only at hSw); go_simp; with_reducible rfl⟩
  try simp only [Act.put, List.setIfInBounds_toArray, List.set_cons_zero, List.set_cons_succ]
  refine wpAnyH_take (i := 5) (oi := ?oiz6) (v := ?vz6) ?hiz6 (by kernel_rfl) (by kernel_rfl) (by kernel_rfl) ?hQz6 ?hyz6 (by assumption) ?restz6
  case hiz6 => simp only [List.getElem?_toArray, List.getElem?_cons_zero, List.getElem?_cons_succ]; rfl
  case hQz6 => exact fun _ _ _ h => h
  case hyz6 => exact Or.inl ⟨by rfl, by intro w hSw; (try dsimp only at hSw); go_simp; with_reducible rfl⟩
  try simp only [Act.put, List.setIfInBounds_toArray, List.set_cons_zero, List.set_cons_succ]
  refine wpAnyH_take (i := 6) (oi := ?oiz7) (v := ?vz7) ?hiz7 (by kernel_rfl) (by kernel_rfl) (by kernel_rfl) ?hQz7 ?hyz7 (by assumption) ?restz7
  case hiz7 => simp only [List.getElem?_toArray, List.getElem?_cons_zero, List.getElem?_cons_succ]; rfl
  case hQz7 => exact fun _ _ _ h => h
  case hyz7 => exact Or.inl ⟨by rfl, by intro w hSw; (try dsimp only at hSw); go_simp; with_reducible rfl⟩
  try simp only [Act.put, List.setIfInBounds_toArray, List.set_cons_zero, List.set_cons_succ]
  refine wpAnyH_take (i := 7) (oi := ?oiz8) (v := ?vz8) ?hiz8 (by kernel_rfl) (by kernel_rfl) (by kernel_rfl) ?hQz8 ?hyz8 (by assumption) ?restz8
  case hiz8 => simp only [List.getElem?_toArray, List.getElem?_cons_zero, List.getElem?_cons_succ]; rfl
  case hQz8 => exact fun _ _ _ h => h
  case hyz8 => exact Or.inl ⟨by rfl, by intro w hSw; (try dsimp only at hSw); go_simp; with_reducible rfl⟩
  try simp only [Act.put, List.setIfInBounds_toArray, List.set_cons_zero, List.set_cons_succ]
  refine wpAnyH_take (i := 8) (oi := ?oiz9) (v := ?vz9) ?hiz9 (by kernel_rfl) (by kernel_rfl) (by kernel_rfl) ?hQz9 ?hyz9 (by assumption) ?restz9
  case hiz9 => simp only [List.getElem?_toArray, List.getElem?_cons_zero, List.getElem?_cons_succ]; rfl
  case hQz9 => exact fun _ _ _ h => h
  case hyz9 => exact Or.inl ⟨by rfl, by intro w hSw; (try dsimp only at hSw); go_simp; with_reducible rfl⟩
  try simp only [Act.put, List.setIfInBounds_toArray, List.set_cons_zero, List.set_cons_succ]
  refine wpAnyH_take (i := 10) (oi := ?oiz10) (v := ?vz10) ?hiz10 (by kernel_rfl) (by kernel_rfl) (by kernel_rfl) ?hQz10 ?hyz10 (by assumption) ?restz10
  case hiz10 => simp only [List.getElem?_toArray, List.getElem?_cons_zero, List.getElem?_cons_succ]; rfl
  case hQz10 => exact fun _ _ _ h => h
  case hyz10 => exact Or.inl ⟨by rfl, by intro w hSw; (try dsimp only at hSw); go_simp; with_reducible rfl⟩
  try simp only [Act.put, List.setIfInBounds_toArray, List.set_cons_zero, List.set_cons_succ]
  refine wpAnyH_take (i := 11) (oi := ?oiz11) (v := ?vz11) ?hiz11 (by kernel_rfl) (by kernel_rfl) (by kernel_rfl) ?hQz11 ?hyz11 (by assumption) ?restz11
  case hiz11 => simp only [List.getElem?_toArray, List.getElem?_cons_zero, List.getElem?_cons_succ]; rfl
  case hQz11 => exact fun _ _ _ h => h
  case hyz11 => exact Or.inl ⟨by rfl, by intro w hSw; (try dsimp only at hSw); go_simp; with_reducible rfl⟩
  try simp only [Act.put, List.setIfInBounds_toArray, List.set_cons_zero, List.set_cons_succ]
  refine wpAnyH_take (i := 12) (oi := ?oiz12) (v := ?vz12) ?hiz12 (by kernel_rfl) (by kernel_rfl) (by kernel_rfl) ?hQz12 ?hyz12 (by assumption) ?restz12
  case hiz12 => simp only [List.getElem?_toArray, List.getElem?_cons_zero, List.getElem?_cons_succ]; rfl
  case hQz12 => exact fun _ _ _ h => h
  case hyz12 => exact Or.inl ⟨by rfl, by intro w hSw; (try dsimp only at hSw); go_simp; with_reducible rfl⟩
  try simp only [Act.put, List.setIfInBounds_toArray, List.set_cons_zero, List.set_cons_succ]
  refine wpAnyH_take (i := 14) (oi := ?oiz13) (v := ?vz13) ?hiz13 (by kernel_rfl) (by kernel_rfl) (by kernel_rfl) ?hQz13 ?hyz13 (by assumption) ?restz13
  case hiz13 => simp only [List.getElem?_toArray, List.getElem?_cons_zero, List.getElem?_cons_succ]; rfl
  case hQz13 => exact fun _ _ _ h => h
  case hyz13 => exact Or.inl ⟨by rfl, by intro w hSw; (try dsimp only at hSw); go_simp; with_reducible rfl⟩
  try simp only [Act.put, List.setIfInBounds_toArray, List.set_cons_zero, List.set_cons_succ]
  refine wpAnyH_take (i := 15) (oi := ?oiz14) (v := ?vz14) ?hiz14 (by kernel_rfl) (by kernel_rfl) (by kernel_rfl) ?hQz14 ?hyz14 (by assumption) ?restz14
  case hiz14 => simp only [List.getElem?_toArray, List.getElem?_cons_zero, List.getElem?_cons_succ]; rfl
  case hQz14 => exact fun _ _ _ h => h
  case hyz14 => exact Or.inl ⟨by rfl, by intro w hSw; (try dsimp only at hSw); go_simp; with_reducible rfl⟩
  try simp only [Act.put, List.setIfInBounds_toArray, List.set_cons_zero, List.set_cons_succ]
  refine wpAnyH_take (i := 16) (oi := ?oiz15) (v := ?vz15) ?hiz15 (by kernel_rfl) (by kernel_rfl) (by kernel_rfl) ?hQz15 ?hyz15 (by assumption) ?restz15
  case hiz15 => simp only [List.getElem?_toArray, List.getElem?_cons_zero, List.getElem?_cons_succ]; rfl
  case hQz15 => exact fun _ _ _ h => h
  case hyz15 => exact Or.inl ⟨by rfl, by intro w hSw; (try dsimp only at hSw); go_simp; with_reducible rfl⟩
  try simp only [Act.put, List.setIfInBounds_toArray, List.set_cons_zero, List.set_cons_succ]
  have XW := Lib.hid (ext_alloc w (.cells x.enc.toArray 171))
  generalize World.drew (World.alloc w (.cells x.enc.toArray 171)) = w0 at hHeld ⊢
  refine wpAnyH_ready (rs := [9, 13, 17]) (by kernel_rfl) (by simp) (AllReadyH.cons (o := ?oy169) ?hy169 (fun K hK => ?sy169) (AllReadyH.cons (o := ?oy1613) ?hy1613 (fun K hK => ?sy1613) (AllReadyH.cons (o := ?oy1617) ?hy1617 (fun K hK => ?sy1617) AllReadyH.nil)))
  case hy169 => simp only [List.getElem?_toArray, List.getElem?_cons_zero, List.getElem?_cons_succ]; rfl
  case hy1613 => simp only [List.getElem?_toArray, List.getElem?_cons_zero, List.getElem?_cons_succ]; rfl
  case hy1617 => simp only [List.getElem?_toArray, List.getElem?_cons_zero, List.getElem?_cons_succ]; rfl
  case sy169 =>
    go_simp
    obtain ⟨p1, hp1⟩ : ∃ W, W = World.alloc w0 (.cells #[.int .u8 x.n.size] 5) := ⟨_, rfl⟩
    have hx : Ext w0 p1 := by rw [hp1]; exact ext_alloc _ _
    have r9 : p1.cell? ⟨w0.heap.size, 0, none⟩ = some (.int .u8 x.n.size) := by rw [hp1]; exact (Blk.new _ _ _).at_ 0 rfl
    have R9 := Lib.hid (rdl_one hu r9 1 (Nat.le_refl _))
    clear r9
    rw [← hp1]
    clear hp1
    have hH2 := hHeld.trans hx
    refine hK.out _ _ hH2 (fun _ => ?_)
    clear hHeld hK K
    have hHeld := hH2
    clear hH2 hx
    try simp only [Act.put, List.setIfInBounds_toArray, List.set_cons_zero, List.set_cons_succ]
    refine wpAnyH_ready (rs := [13, 17]) (by kernel_rfl) (by simp) (AllReadyH.cons (o := ?oy1713) ?hy1713 (fun K hK => ?sy1713) (AllReadyH.cons (o := ?oy1717) ?hy1717 (fun K hK => ?sy1717) AllReadyH.nil))
    case hy1713 => simp only [List.getElem?_toArray, List.getElem?_cons_zero, List.getElem?_cons_succ]; rfl
    case hy1717 => simp only [List.getElem?_toArray, List.getElem?_cons_zero, List.getElem?_cons_succ]; rfl
    case sy1713 =>
      refine stp_conv (s := x.n) Try.underlying9 Try.underlying66 Try.underlying5 rfl (.tmp 15) rfl rfl (by omega) ?_
      intro A13 c13 p2 hr hx
      have R13 := Lib.hid hr
      clear hr
      replace R9 := Lib.hid (R9.out.ext (by decide) hx)
      have hH2 := hHeld.trans hx
      refine hK.out _ _ hH2 (fun _ => ?_)
      clear hHeld hK K
      have hHeld := hH2
      clear hH2 hx
      try simp only [Act.put, List.setIfInBounds_toArray, List.set_cons_zero, List.set_cons_succ]
      refine wpAnyH_ready (rs := [17]) (by kernel_rfl) (by simp) (AllReadyH.cons (o := ?oy1817) ?hy1817 (fun K hK => ?sy1817) AllReadyH.nil)
      case hy1817 => simp only [List.getElem?_toArray, List.getElem?_cons_zero, List.getElem?_cons_succ]; rfl
      case sy1817 =>
        refine stp_conv (s := x.v) Try.underlying9 Try.underlying66 Try.underlying5 rfl (.tmp 19) rfl rfl (by omega) ?_
        intro A17 c17 p3 hr hx
        have R17 := Lib.hid hr
        clear hr
        replace R9 := Lib.hid (R9.out.ext (by decide) hx)
        replace R13 := Lib.hid (R13.out.ext (by decide) hx)
        have hH2 := hHeld.trans hx
        refine hK.out _ _ hH2 (fun _ => ?_)
        clear hHeld hK K
        have hHeld := hH2
        clear hH2 hx
        try simp only [Act.put, List.setIfInBounds_toArray, List.set_cons_zero, List.set_cons_succ]
        refine wpAnyH_ready (rs := [18]) (by kernel_rfl) (by simp) (AllReadyH.cons (o := ?oy1918) ?hy1918 (fun K hK => ?sy1918) AllReadyH.nil)
        case hy1918 => simp only [List.getElem?_toArray, List.getElem?_cons_zero, List.getElem?_cons_succ]; rfl
        case sy1918 =>
          go_simp
          refine hK.out _ _ (hHeld.alloc _) (fun _ => ?_)
          clear hK K
          try simp only [Act.put, List.setIfInBounds_toArray, List.set_cons_zero, List.set_cons_succ]
          have B1 := Lib.hid (B0.out.ext hHeld)
          refine wpAnyH_ready (rs := [19]) (by kernel_rfl) (by simp) (AllReadyH.cons (o := ?oy2019) ?hy2019 (fun K hK => ?sy2019) AllReadyH.nil)
          case hy2019 => simp only [List.getElem?_toArray, List.getElem?_cons_zero, List.getElem?_cons_succ]; rfl
          case sy2019 =>
            go_simp
            refine (nodeCat_any x HO.out w.heap.size _ _ p3 _ hn2 B1.out R9.out R13.out R17.out (by rw [← HN.out, HNL.out]; omega) (by rw [← HN.out, HNL.out]; omega)).mono ?_
            rintro e q ⟨v1, rfl, ho, hx⟩
            rw [← HN.out] at ho
            obtain ⟨A1, n1, c1, rfl⟩ := ho.shape3
            have HO1 := Lib.hid ho
            clear ho
            have hH2 := (hHeld.alloc _).trans hx
            refine hK.out _ _ hH2 (fun _ => ?_)
            clear hK K
            try simp only [Act.put, List.setIfInBounds_toArray, List.set_cons_zero, List.set_cons_succ]
            have HE := Lib.hid (XW.out.trans hH2)
            have HG := Lib.hid (show w.heap.size ≤ _ from (XW.out.trans hHeld).size)
            clear hx hHeld
            refine wpAnyH_take (i := 20) (oi := ?oiz21) (v := ?vz21) ?hiz21 (by kernel_rfl) (by kernel_rfl) (by kernel_rfl) ?hQz21 ?hyz21 (by assumption) ?restz21
            case hiz21 => simp only [List.getElem?_toArray, List.getElem?_cons_zero, List.getElem?_cons_succ]; rfl
            case hQz21 => exact fun _ _ _ h => h
            case hyz21 => exact Or.inl ⟨by rfl, by intro w hSw; (try dsimp only at hSw); go_simp; with_reducible rfl⟩
            try simp only [Act.put, List.setIfInBounds_toArray, List.set_cons_zero, List.set_cons_succ]
            refine wpAnyH_done (by kernel_rfl) ?_ _
            go_wp2_with fail
            go_ret
            exact ⟨_, rfl, HO1.out.le (by have := HG.out; simp; omega), HE.out⟩
    case sy1717 =>
      refine stp_conv (s := x.v) Try.underlying9 Try.underlying66 Try.underlying5 rfl (.tmp 19) rfl rfl (by omega) ?_
      intro A17 c17 p4 hr hx
      have R17 := Lib.hid hr
      clear hr
      replace R9 := Lib.hid (R9.out.ext (by decide) hx)
      have hH2 := hHeld.trans hx
      refine hK.out _ _ hH2 (fun _ => ?_)
      clear hHeld hK K
      have hHeld := hH2
      clear hH2 hx
      try simp only [Act.put, List.setIfInBounds_toArray, List.set_cons_zero, List.set_cons_succ]
      refine wpAnyH_ready (rs := [13]) (by kernel_rfl) (by simp) (AllReadyH.cons (o := ?oy2213) ?hy2213 (fun K hK => ?sy2213) AllReadyH.nil)
      case hy2213 => simp only [List.getElem?_toArray, List.getElem?_cons_zero, List.getElem?_cons_succ]; rfl
      case sy2213 =>
        refine stp_conv (s := x.n) Try.underlying9 Try.underlying66 Try.underlying5 rfl (.tmp 15) rfl rfl (by omega) ?_
        intro A13 c13 p5 hr hx
        have R13 := Lib.hid hr
        clear hr
        replace R9 := Lib.hid (R9.out.ext (by decide) hx)
        replace R17 := Lib.hid (R17.out.ext (by decide) hx)
        have hH2 := hHeld.trans hx
        refine hK.out _ _ hH2 (fun _ => ?_)
        clear hHeld hK K
        have hHeld := hH2
        clear hH2 hx
        try simp only [Act.put, List.setIfInBounds_toArray, List.set_cons_zero, List.set_cons_succ]
        refine wpAnyH_ready (rs := [18]) (by kernel_rfl) (by simp) (AllReadyH.cons (o := ?oy2318) ?hy2318 (fun K hK => ?sy2318) AllReadyH.nil)
        case hy2318 => simp only [List.getElem?_toArray, List.getElem?_cons_zero, List.getElem?_cons_succ]; rfl
        case sy2318 =>
          go_simp
          refine hK.out _ _ (hHeld.alloc _) (fun _ => ?_)
          clear hK K
          try simp only [Act.put, List.setIfInBounds_toArray, List.set_cons_zero, List.set_cons_succ]
          have B1 := Lib.hid (B0.out.ext hHeld)
          refine wpAnyH_ready (rs := [19]) (by kernel_rfl) (by simp) (AllReadyH.cons (o := ?oy2419) ?hy2419 (fun K hK => ?sy2419) AllReadyH.nil)
          case hy2419 => simp only [List.getElem?_toArray, List.getElem?_cons_zero, List.getElem?_cons_succ]; rfl
          case sy2419 =>
            go_simp
            refine (nodeCat_any x HO.out w.heap.size _ _ p5 _ hn2 B1.out R9.out R13.out R17.out (by rw [← HN.out, HNL.out]; omega) (by rw [← HN.out, HNL.out]; omega)).mono ?_
            rintro e q ⟨v1, rfl, ho, hx⟩
            rw [← HN.out] at ho
            obtain ⟨A1, n1, c1, rfl⟩ := ho.shape3
            have HO1 := Lib.hid ho
            clear ho
            have hH2 := (hHeld.alloc _).trans hx
            refine hK.out _ _ hH2 (fun _ => ?_)
            clear hK K
            try simp only [Act.put, List.setIfInBounds_toArray, List.set_cons_zero, List.set_cons_succ]
            have HE := Lib.hid (XW.out.trans hH2)
            have HG := Lib.hid (show w.heap.size ≤ _ from (XW.out.trans hHeld).size)
            clear hx hHeld
            refine wpAnyH_take (i := 20) (oi := ?oiz25) (v := ?vz25) ?hiz25 (by kernel_rfl) (by kernel_rfl) (by kernel_rfl) ?hQz25 ?hyz25 (by assumption) ?restz25
            case hiz25 => simp only [List.getElem?_toArray, List.getElem?_cons_zero, List.getElem?_cons_succ]; rfl
            case hQz25 => exact fun _ _ _ h => h
            case hyz25 => exact Or.inl ⟨by rfl, by intro w hSw; (try dsimp only at hSw); go_simp; with_reducible rfl⟩
            try simp only [Act.put, List.setIfInBounds_toArray, List.set_cons_zero, List.set_cons_succ]
            refine wpAnyH_done (by kernel_rfl) ?_ _
            go_wp2_with fail
            go_ret
            exact ⟨_, rfl, HO1.out.le (by have := HG.out; simp; omega), HE.out⟩
  case sy1613 =>
    refine stp_conv (s := x.n) Try.underlying9 Try.underlying66 Try.underlying5 rfl (.tmp 15) rfl rfl (by omega) ?_
    intro A13 c13 p6 hr hx
    have R13 := Lib.hid hr
    clear hr
    have hH2 := hHeld.trans hx
    refine hK.out _ _ hH2 (fun _ => ?_)
    clear hHeld hK K
    have hHeld := hH2
    clear hH2 hx
    try simp only [Act.put, List.setIfInBounds_toArray, List.set_cons_zero, List.set_cons_succ]
    refine wpAnyH_ready (rs := [9, 17]) (by kernel_rfl) (by simp) (AllReadyH.cons (o := ?oy269) ?hy269 (fun K hK => ?sy269) (AllReadyH.cons (o := ?oy2617) ?hy2617 (fun K hK => ?sy2617) AllReadyH.nil))
    case hy269 => simp only [List.getElem?_toArray, List.getElem?_cons_zero, List.getElem?_cons_succ]; rfl
    case hy2617 => simp only [List.getElem?_toArray, List.getElem?_cons_zero, List.getElem?_cons_succ]; rfl
    case sy269 =>
      go_simp
      obtain ⟨p7, hp7⟩ : ∃ W, W = World.alloc p6 (.cells #[.int .u8 x.n.size] 5) := ⟨_, rfl⟩
      have hx : Ext p6 p7 := by rw [hp7]; exact ext_alloc _ _
      have r9 : p7.cell? ⟨p6.heap.size, 0, none⟩ = some (.int .u8 x.n.size) := by rw [hp7]; exact (Blk.new _ _ _).at_ 0 rfl
      have R9 := Lib.hid (rdl_one hu r9 1 (Nat.le_refl _))
      clear r9
      rw [← hp7]
      clear hp7
      replace R13 := Lib.hid (R13.out.ext (by decide) hx)
      have hH2 := hHeld.trans hx
      refine hK.out _ _ hH2 (fun _ => ?_)
      clear hHeld hK K
      have hHeld := hH2
      clear hH2 hx
      try simp only [Act.put, List.setIfInBounds_toArray, List.set_cons_zero, List.set_cons_succ]
      refine wpAnyH_ready (rs := [17]) (by kernel_rfl) (by simp) (AllReadyH.cons (o := ?oy2717) ?hy2717 (fun K hK => ?sy2717) AllReadyH.nil)
      case hy2717 => simp only [List.getElem?_toArray, List.getElem?_cons_zero, List.getElem?_cons_succ]; rfl
      case sy2717 =>
        refine stp_conv (s := x.v) Try.underlying9 Try.underlying66 Try.underlying5 rfl (.tmp 19) rfl rfl (by omega) ?_
        intro A17 c17 p8 hr hx
        have R17 := Lib.hid hr
        clear hr
        replace R13 := Lib.hid (R13.out.ext (by decide) hx)
        replace R9 := Lib.hid (R9.out.ext (by decide) hx)
        have hH2 := hHeld.trans hx
        refine hK.out _ _ hH2 (fun _ => ?_)
        clear hHeld hK K
        have hHeld := hH2
        clear hH2 hx
        try simp only [Act.put, List.setIfInBounds_toArray, List.set_cons_zero, List.set_cons_succ]
        refine wpAnyH_ready (rs := [18]) (by kernel_rfl) (by simp) (AllReadyH.cons (o := ?oy2818) ?hy2818 (fun K hK => ?sy2818) AllReadyH.nil)
        case hy2818 => simp only [List.getElem?_toArray, List.getElem?_cons_zero, List.getElem?_cons_succ]; rfl
        case sy2818 =>
          go_simp
          refine hK.out _ _ (hHeld.alloc _) (fun _ => ?_)
          clear hK K
          try simp only [Act.put, List.setIfInBounds_toArray, List.set_cons_zero, List.set_cons_succ]
          have B1 := Lib.hid (B0.out.ext hHeld)
          refine wpAnyH_ready (rs := [19]) (by kernel_rfl) (by simp) (AllReadyH.cons (o := ?oy2919) ?hy2919 (fun K hK => ?sy2919) AllReadyH.nil)
          case hy2919 => simp only [List.getElem?_toArray, List.getElem?_cons_zero, List.getElem?_cons_succ]; rfl
          case sy2919 =>
            go_simp
            refine (nodeCat_any x HO.out w.heap.size _ _ p8 _ hn2 B1.out R9.out R13.out R17.out (by rw [← HN.out, HNL.out]; omega) (by rw [← HN.out, HNL.out]; omega)).mono ?_
            rintro e q ⟨v1, rfl, ho, hx⟩
            rw [← HN.out] at ho
            obtain ⟨A1, n1, c1, rfl⟩ := ho.shape3
            have HO1 := Lib.hid ho
            clear ho
            have hH2 := (hHeld.alloc _).trans hx
            refine hK.out _ _ hH2 (fun _ => ?_)
            clear hK K
            try simp only [Act.put, List.setIfInBounds_toArray, List.set_cons_zero, List.set_cons_succ]
            have HE := Lib.hid (XW.out.trans hH2)
            have HG := Lib.hid (show w.heap.size ≤ _ from (XW.out.trans hHeld).size)
            clear hx hHeld
            refine wpAnyH_take (i := 20) (oi := ?oiz30) (v := ?vz30) ?hiz30 (by kernel_rfl) (by kernel_rfl) (by kernel_rfl) ?hQz30 ?hyz30 (by assumption) ?restz30
            case hiz30 => simp only [List.getElem?_toArray, List.getElem?_cons_zero, List.getElem?_cons_succ]; rfl
            case hQz30 => exact fun _ _ _ h => h
            case hyz30 => exact Or.inl ⟨by rfl, by intro w hSw; (try dsimp only at hSw); go_simp; with_reducible rfl⟩
            try simp only [Act.put, List.setIfInBounds_toArray, List.set_cons_zero, List.set_cons_succ]
            refine wpAnyH_done (by kernel_rfl) ?_ _
            go_wp2_with fail
            go_ret
            exact ⟨_, rfl, HO1.out.le (by have := HG.out; simp; omega), HE.out⟩
    case sy2617 =>
      refine stp_conv (s := x.v) Try.underlying9 Try.underlying66 Try.underlying5 rfl (.tmp 19) rfl rfl (by omega) ?_
      intro A17 c17 p9 hr hx
      have R17 := Lib.hid hr
      clear hr
      replace R13 := Lib.hid (R13.out.ext (by decide) hx)
      have hH2 := hHeld.trans hx
      refine hK.out _ _ hH2 (fun _ => ?_)
      clear hHeld hK K
      have hHeld := hH2
      clear hH2 hx
      try simp only [Act.put, List.setIfInBounds_toArray, List.set_cons_zero, List.set_cons_succ]
      refine wpAnyH_ready (rs := [9]) (by kernel_rfl) (by simp) (AllReadyH.cons (o := ?oy319) ?hy319 (fun K hK => ?sy319) AllReadyH.nil)
      case hy319 => simp only [List.getElem?_toArray, List.getElem?_cons_zero, List.getElem?_cons_succ]; rfl
      case sy319 =>
        go_simp
        obtain ⟨p10, hp10⟩ : ∃ W, W = World.alloc p9 (.cells #[.int .u8 x.n.size] 5) := ⟨_, rfl⟩
        have hx : Ext p9 p10 := by rw [hp10]; exact ext_alloc _ _
        have r9 : p10.cell? ⟨p9.heap.size, 0, none⟩ = some (.int .u8 x.n.size) := by rw [hp10]; exact (Blk.new _ _ _).at_ 0 rfl
        have R9 := Lib.hid (rdl_one hu r9 1 (Nat.le_refl _))
        clear r9
        rw [← hp10]
        clear hp10
        replace R13 := Lib.hid (R13.out.ext (by decide) hx)
        replace R17 := Lib.hid (R17.out.ext (by decide) hx)
        have hH2 := hHeld.trans hx
        refine hK.out _ _ hH2 (fun _ => ?_)
        clear hHeld hK K
        have hHeld := hH2
        clear hH2 hx
        try simp only [Act.put, List.setIfInBounds_toArray, List.set_cons_zero, List.set_cons_succ]
        refine wpAnyH_ready (rs := [18]) (by kernel_rfl) (by simp) (AllReadyH.cons (o := ?oy3218) ?hy3218 (fun K hK => ?sy3218) AllReadyH.nil)
        case hy3218 => simp only [List.getElem?_toArray, List.getElem?_cons_zero, List.getElem?_cons_succ]; rfl
        case sy3218 =>
          go_simp
          refine hK.out _ _ (hHeld.alloc _) (fun _ => ?_)
          clear hK K
          try simp only [Act.put, List.setIfInBounds_toArray, List.set_cons_zero, List.set_cons_succ]
          have B1 := Lib.hid (B0.out.ext hHeld)
          refine wpAnyH_ready (rs := [19]) (by kernel_rfl) (by simp) (AllReadyH.cons (o := ?oy3319) ?hy3319 (fun K hK => ?sy3319) AllReadyH.nil)
          case hy3319 => simp only [List.getElem?_toArray, List.getElem?_cons_zero, List.getElem?_cons_succ]; rfl
          case sy3319 =>
            go_simp
            refine (nodeCat_any x HO.out w.heap.size _ _ p10 _ hn2 B1.out R9.out R13.out R17.out (by rw [← HN.out, HNL.out]; omega) (by rw [← HN.out, HNL.out]; omega)).mono ?_
            rintro e q ⟨v1, rfl, ho, hx⟩
            rw [← HN.out] at ho
            obtain ⟨A1, n1, c1, rfl⟩ := ho.shape3
            have HO1 := Lib.hid ho
            clear ho
            have hH2 := (hHeld.alloc _).trans hx
            refine hK.out _ _ hH2 (fun _ => ?_)
            clear hK K
            try simp only [Act.put, List.setIfInBounds_toArray, List.set_cons_zero, List.set_cons_succ]
            have HE := Lib.hid (XW.out.trans hH2)
            have HG := Lib.hid (show w.heap.size ≤ _ from (XW.out.trans hHeld).size)
            clear hx hHeld
            refine wpAnyH_take (i := 20) (oi := ?oiz34) (v := ?vz34) ?hiz34 (by kernel_rfl) (by kernel_rfl) (by kernel_rfl) ?hQz34 ?hyz34 (by assumption) ?restz34
            case hiz34 => simp only [List.getElem?_toArray, List.getElem?_cons_zero, List.getElem?_cons_succ]; rfl
            case hQz34 => exact fun _ _ _ h => h
            case hyz34 => exact Or.inl ⟨by rfl, by intro w hSw; (try dsimp only at hSw); go_simp; with_reducible rfl⟩
            try simp only [Act.put, List.setIfInBounds_toArray, List.set_cons_zero, List.set_cons_succ]
            refine wpAnyH_done (by kernel_rfl) ?_ _
            go_wp2_with fail
            go_ret
            exact ⟨_, rfl, HO1.out.le (by have := HG.out; simp; omega), HE.out⟩
  case sy1617 =>
    refine stp_conv (s := x.v) Try.underlying9 Try.underlying66 Try.underlying5 rfl (.tmp 19) rfl rfl (by omega) ?_
    intro A17 c17 p11 hr hx
    have R17 := Lib.hid hr
    clear hr
    have hH2 := hHeld.trans hx
    refine hK.out _ _ hH2 (fun _ => ?_)
    clear hHeld hK K
    have hHeld := hH2
    clear hH2 hx
    try simp only [Act.put, List.setIfInBounds_toArray, List.set_cons_zero, List.set_cons_succ]
    refine wpAnyH_ready (rs := [9, 13]) (by kernel_rfl) (by simp) (AllReadyH.cons (o := ?oy359) ?hy359 (fun K hK => ?sy359) (AllReadyH.cons (o := ?oy3513) ?hy3513 (fun K hK => ?sy3513) AllReadyH.nil))
    case hy359 => simp only [List.getElem?_toArray, List.getElem?_cons_zero, List.getElem?_cons_succ]; rfl
    case hy3513 => simp only [List.getElem?_toArray, List.getElem?_cons_zero, List.getElem?_cons_succ]; rfl
    case sy359 =>
      go_simp
      obtain ⟨p12, hp12⟩ : ∃ W, W = World.alloc p11 (.cells #[.int .u8 x.n.size] 5) := ⟨_, rfl⟩
      have hx : Ext p11 p12 := by rw [hp12]; exact ext_alloc _ _
      have r9 : p12.cell? ⟨p11.heap.size, 0, none⟩ = some (.int .u8 x.n.size) := by rw [hp12]; exact (Blk.new _ _ _).at_ 0 rfl
      have R9 := Lib.hid (rdl_one hu r9 1 (Nat.le_refl _))
      clear r9
      rw [← hp12]
      clear hp12
      replace R17 := Lib.hid (R17.out.ext (by decide) hx)
      have hH2 := hHeld.trans hx
      refine hK.out _ _ hH2 (fun _ => ?_)
      clear hHeld hK K
      have hHeld := hH2
      clear hH2 hx
      try simp only [Act.put, List.setIfInBounds_toArray, List.set_cons_zero, List.set_cons_succ]
      refine wpAnyH_ready (rs := [13]) (by kernel_rfl) (by simp) (AllReadyH.cons (o := ?oy3613) ?hy3613 (fun K hK => ?sy3613) AllReadyH.nil)
      case hy3613 => simp only [List.getElem?_toArray, List.getElem?_cons_zero, List.getElem?_cons_succ]; rfl
      case sy3613 =>
        refine stp_conv (s := x.n) Try.underlying9 Try.underlying66 Try.underlying5 rfl (.tmp 15) rfl rfl (by omega) ?_
        intro A13 c13 p13 hr hx
        have R13 := Lib.hid hr
        clear hr
        replace R17 := Lib.hid (R17.out.ext (by decide) hx)
        replace R9 := Lib.hid (R9.out.ext (by decide) hx)
        have hH2 := hHeld.trans hx
        refine hK.out _ _ hH2 (fun _ => ?_)
        clear hHeld hK K
        have hHeld := hH2
        clear hH2 hx
        try simp only [Act.put, List.setIfInBounds_toArray, List.set_cons_zero, List.set_cons_succ]
        refine wpAnyH_ready (rs := [18]) (by kernel_rfl) (by simp) (AllReadyH.cons (o := ?oy3718) ?hy3718 (fun K hK => ?sy3718) AllReadyH.nil)
        case hy3718 => simp only [List.getElem?_toArray, List.getElem?_cons_zero, List.getElem?_cons_succ]; rfl
        case sy3718 =>
          go_simp
          refine hK.out _ _ (hHeld.alloc _) (fun _ => ?_)
          clear hK K
          try simp only [Act.put, List.setIfInBounds_toArray, List.set_cons_zero, List.set_cons_succ]
          have B1 := Lib.hid (B0.out.ext hHeld)
          refine wpAnyH_ready (rs := [19]) (by kernel_rfl) (by simp) (AllReadyH.cons (o := ?oy3819) ?hy3819 (fun K hK => ?sy3819) AllReadyH.nil)
          case hy3819 => simp only [List.getElem?_toArray, List.getElem?_cons_zero, List.getElem?_cons_succ]; rfl
          case sy3819 =>
            go_simp
            refine (nodeCat_any x HO.out w.heap.size _ _ p13 _ hn2 B1.out R9.out R13.out R17.out (by rw [← HN.out, HNL.out]; omega) (by rw [← HN.out, HNL.out]; omega)).mono ?_
            rintro e q ⟨v1, rfl, ho, hx⟩
            rw [← HN.out] at ho
            obtain ⟨A1, n1, c1, rfl⟩ := ho.shape3
            have HO1 := Lib.hid ho
            clear ho
            have hH2 := (hHeld.alloc _).trans hx
            refine hK.out _ _ hH2 (fun _ => ?_)
            clear hK K
            try simp only [Act.put, List.setIfInBounds_toArray, List.set_cons_zero, List.set_cons_succ]
            have HE := Lib.hid (XW.out.trans hH2)
            have HG := Lib.hid (show w.heap.size ≤ _ from (XW.out.trans hHeld).size)
            clear hx hHeld
            refine wpAnyH_take (i := 20) (oi := ?oiz39) (v := ?vz39) ?hiz39 (by kernel_rfl) (by kernel_rfl) (by kernel_rfl) ?hQz39 ?hyz39 (by assumption) ?restz39
            case hiz39 => simp only [List.getElem?_toArray, List.getElem?_cons_zero, List.getElem?_cons_succ]; rfl
            case hQz39 => exact fun _ _ _ h => h
            case hyz39 => exact Or.inl ⟨by rfl, by intro w hSw; (try dsimp only at hSw); go_simp; with_reducible rfl⟩
            try simp only [Act.put, List.setIfInBounds_toArray, List.set_cons_zero, List.set_cons_succ]
            refine wpAnyH_done (by kernel_rfl) ?_ _
            go_wp2_with fail
            go_ret
            exact ⟨_, rfl, HO1.out.le (by have := HG.out; simp; omega), HE.out⟩
    case sy3513 =>
      refine stp_conv (s := x.n) Try.underlying9 Try.underlying66 Try.underlying5 rfl (.tmp 15) rfl rfl (by omega) ?_
      intro A13 c13 p14 hr hx
      have R13 := Lib.hid hr
      clear hr
      replace R17 := Lib.hid (R17.out.ext (by decide) hx)
      have hH2 := hHeld.trans hx
      refine hK.out _ _ hH2 (fun _ => ?_)
      clear hHeld hK K
      have hHeld := hH2
      clear hH2 hx
      try simp only [Act.put, List.setIfInBounds_toArray, List.set_cons_zero, List.set_cons_succ]
      refine wpAnyH_ready (rs := [9]) (by kernel_rfl) (by simp) (AllReadyH.cons (o := ?oy409) ?hy409 (fun K hK => ?sy409) AllReadyH.nil)
      case hy409 => simp only [List.getElem?_toArray, List.getElem?_cons_zero, List.getElem?_cons_succ]; rfl
      case sy409 =>
        go_simp
        obtain ⟨p15, hp15⟩ : ∃ W, W = World.alloc p14 (.cells #[.int .u8 x.n.size] 5) := ⟨_, rfl⟩
        have hx : Ext p14 p15 := by rw [hp15]; exact ext_alloc _ _
        have r9 : p15.cell? ⟨p14.heap.size, 0, none⟩ = some (.int .u8 x.n.size) := by rw [hp15]; exact (Blk.new _ _ _).at_ 0 rfl
        have R9 := Lib.hid (rdl_one hu r9 1 (Nat.le_refl _))
        clear r9
        rw [← hp15]
        clear hp15
        replace R17 := Lib.hid (R17.out.ext (by decide) hx)
        replace R13 := Lib.hid (R13.out.ext (by decide) hx)
        have hH2 := hHeld.trans hx
        refine hK.out _ _ hH2 (fun _ => ?_)
        clear hHeld hK K
        have hHeld := hH2
        clear hH2 hx
        try simp only [Act.put, List.setIfInBounds_toArray, List.set_cons_zero, List.set_cons_succ]
        refine wpAnyH_ready (rs := [18]) (by kernel_rfl) (by simp) (AllReadyH.cons (o := ?oy4118) ?hy4118 (fun K hK => ?sy4118) AllReadyH.nil)
        case hy4118 => simp only [List.getElem?_toArray, List.getElem?_cons_zero, List.getElem?_cons_succ]; rfl
        case sy4118 =>
          go_simp
          refine hK.out _ _ (hHeld.alloc _) (fun _ => ?_)
          clear hK K
          try simp only [Act.put, List.setIfInBounds_toArray, List.set_cons_zero, List.set_cons_succ]
          have B1 := Lib.hid (B0.out.ext hHeld)
          refine wpAnyH_ready (rs := [19]) (by kernel_rfl) (by simp) (AllReadyH.cons (o := ?oy4219) ?hy4219 (fun K hK => ?sy4219) AllReadyH.nil)
          case hy4219 => simp only [List.getElem?_toArray, List.getElem?_cons_zero, List.getElem?_cons_succ]; rfl
          case sy4219 =>
            go_simp
            refine (nodeCat_any x HO.out w.heap.size _ _ p15 _ hn2 B1.out R9.out R13.out R17.out (by rw [← HN.out, HNL.out]; omega) (by rw [← HN.out, HNL.out]; omega)).mono ?_
            rintro e q ⟨v1, rfl, ho, hx⟩
            rw [← HN.out] at ho
            obtain ⟨A1, n1, c1, rfl⟩ := ho.shape3
            have HO1 := Lib.hid ho
            clear ho
            have hH2 := (hHeld.alloc _).trans hx
            refine hK.out _ _ hH2 (fun _ => ?_)
            clear hK K
            try simp only [Act.put, List.setIfInBounds_toArray, List.set_cons_zero, List.set_cons_succ]
            have HE := Lib.hid (XW.out.trans hH2)
            have HG := Lib.hid (show w.heap.size ≤ _ from (XW.out.trans hHeld).size)
            clear hx hHeld
            refine wpAnyH_take (i := 20) (oi := ?oiz43) (v := ?vz43) ?hiz43 (by kernel_rfl) (by kernel_rfl) (by kernel_rfl) ?hQz43 ?hyz43 (by assumption) ?restz43
            case hiz43 => simp only [List.getElem?_toArray, List.getElem?_cons_zero, List.getElem?_cons_succ]; rfl
            case hQz43 => exact fun _ _ _ h => h
            case hyz43 => exact Or.inl ⟨by rfl, by intro w hSw; (try dsimp only at hSw); go_simp; with_reducible rfl⟩
            try simp only [Act.put, List.setIfInBounds_toArray, List.set_cons_zero, List.set_cons_succ]
            refine wpAnyH_done (by kernel_rfl) ?_ _
            go_wp2_with fail
            go_ret
            exact ⟨_, rfl, HO1.out.le (by have := HG.out; simp; omega), HE.out⟩

end Go.Proofs.Ytnklgkmpcochfaa
/- Keys compared. No condition. -/
namespace Go.Proofs.Ytnklgkmpcochfaa
open Go.RowKit
set_option linter.unusedVariables false
set_option linter.unusedSimpArgs false

/-- which of two lists comes first -/
@[irreducible] def cmpL : List Int → List Int → Int
  | x :: a, y :: b => if x = y then cmpL a b else if x < y then -1 else 1
  | _, _ => 0
theorem cmpL_self (a : List Int) : cmpL a a = 0 := by
  induction a with
  | nil => rw [cmpL]; intro x a y b h; cases h
  | cons x r ih => rw [cmpL, if_pos rfl, ih]
theorem cmpL_at (a b : List Int) (k : Nat) (ha : k < a.length) (hb : k < b.length) (h : a.take k = b.take k) (hne : gI a k ≠ gI b k) : cmpL a b = if gI a k < gI b k then -1 else 1 := by
  induction k generalizing a b with
  | zero =>
    match a, b, ha, hb with
    | x :: a, y :: b, _, _ => 
      have hne' : x ≠ y := by simpa [gI] using hne
      rw [cmpL, if_neg hne']; simp [gI]
  | succ k ih =>
    match a, b, ha, hb with
    | x :: a, y :: b, ha, hb =>
      simp only [List.take_succ_cons, List.cons.injEq] at h
      rw [cmpL, if_pos h.1]
      have := ih a b (by simpa using ha) (by simpa using hb) h.2 (by simpa [gI] using hne)
      rw [this]; simp [gI]
set_option maxHeartbeats 1000000 in
set_option maxRecDepth 100000 in
theorem l01Compare_any (a b : List Int) (ha : K32 a) (hb : K32 b) (w : World) :
    Calls Try.prog 58 #[.agg (numsA .u8 a), .agg (numsA .u8 b)] w fun e w' => e = .returned (.int .i64 (cmpL a b)) ∧ Ext w w' := by
  have HA := Lib.hid ha.1
  have HB := Lib.hid hb.1
  go_enter Try.func58, Try.ntmps58
  go_wp2
  go_loopw [5] (fun i wr => ∃ k : Nat, k ≤ 32 ∧ i = .int .i64 k ∧ a.take k = b.take k ∧ Blk wr w.heap.size 53 (numsA .u8 a) ∧ Blk wr (w.heap.size + 1) 53 (numsA .u8 b) ∧ Ext w wr)
    (fun i _ => 32 - (intOf i).toNat)
  case atStart => exact ⟨0, by omega, rfl, by simp, (Blk.new w _ _).alloc _, Blk.new' (by simp) _ _, (ext_alloc _ _).alloc _⟩
  case round =>
    obtain ⟨k, hk, rfl, ht, h1, h2, hx⟩ := hrel
    have Ht := Lib.hid ht
    have HX := Lib.hid hx
    have H1 := Lib.hid h1
    have H2 := Lib.hid h2
    clear ht h1 h2 hx
    by_cases hlt : k < 32
    · have hd := H1.out.num k (by rw [HA.out]; exact hlt)
      have hd' := H2.out.num k (by rw [HB.out]; exact hlt)
      by_cases he : gI a k = gI b k
      · have He := Lib.hid he
        have hne : (gI a k != gI b k) = false := by simpa using he
        clear he
        go_wp2
        go_quiet (fail)
        go_wp2
        go_roundw
        case rel => exact ⟨k + 1, by omega, by go_num, take_eq_step (by rw [HA.out]; exact hlt) (by rw [HB.out]; exact hlt) Ht.out He.out, H1.out, H2.out, HX.out.drewN _⟩
        case measure => simp [intOf]; omega
      · have hc := cmpL_at a b k (by rw [HA.out]; exact hlt) (by rw [HB.out]; exact hlt) Ht.out he
        have Hc := Lib.hid hc
        clear hc
        have hne : (gI a k != gI b k) = true := by simpa using he
        clear he
        by_cases hlx : gI a k < gI b k
        · have hl2 : decide (gI a k < gI b k) = true := by simpa using hlx
          have Hl := Lib.hid hlx
          clear hlx
          go_wp2
          go_quiet (fail)
          go_wp2
          go_quiet (fail)
          go_wp2
          go_ret
          exact ⟨by rw [Hc.out, if_pos Hl.out]; rfl, (HX.out.drewN _).drewN _⟩
        · have hl2 : decide (gI a k < gI b k) = false := by simpa using hlx
          have Hl := Lib.hid hlx
          clear hlx
          go_wp2
          go_quiet (fail)
          go_wp2
          go_quiet (fail)
          go_wp2
          go_ret
          exact ⟨by rw [Hc.out, if_neg (Int.not_lt.2 Hl.out)]; rfl, (HX.out.drewN _).drewN _⟩
    · go_wp2
      go_ret
      obtain rfl : k = 32 := by omega
      refine ⟨?_, HX.out⟩
      have e := Ht.out
      rw [List.take_of_length_le (by rw [HA.out]; omega), List.take_of_length_le (by rw [HB.out]; omega)] at e
      subst e; rw [cmpL_self]; rfl
set_option maxHeartbeats 1000000 in
set_option maxRecDepth 100000 in
theorem isNaNB_any (x : Int) (w : World) : Calls Try.prog 132 #[.int .u8 x] w fun e w' => e = .returned (.bool false) ∧ w = w' := by
  have h : (x != x) = false := by simp
  go_enter Try.func132, Try.ntmps132
  go_wp2
  go_ret
  exact ⟨rfl, rfl⟩
set_option maxHeartbeats 1000000 in
set_option maxRecDepth 100000 in
theorem cmpB_any (x y : Int) (w : World) : Calls Try.prog 95 #[.int .u8 x, .int .u8 y] w fun e w' => e = .returned (.int .i64 (if x = y then 0 else if x < y then -1 else 1)) ∧ w = w' := by
  rcases Int.lt_trichotomy x y with h | h | h
  · rw [if_neg (by omega), if_pos h]
    go_enter Try.func95, Try.ntmps95
    go_wp2_with (go_at_call 132; refine (isNaNB_any _ _).mono ?_; rintro e w' ⟨rfl, rfl⟩)
    go_ret
    exact ⟨rfl, rfl⟩
  · subst h
    rw [if_pos rfl]
    go_enter Try.func95, Try.ntmps95
    go_wp2_with (go_at_call 132; refine (isNaNB_any _ _).mono ?_; rintro e w' ⟨rfl, rfl⟩)
    go_ret
    exact ⟨rfl, rfl⟩
  · have h2 : ¬ x < y := by omega
    rw [if_neg (by omega), if_neg h2]
    go_enter Try.func95, Try.ntmps95
    go_wp2_with (go_at_call 132; refine (isNaNB_any _ _).mono ?_; rintro e w' ⟨rfl, rfl⟩)
    go_ret
    exact ⟨rfl, rfl⟩
set_option maxHeartbeats 1000000 in
set_option maxRecDepth 100000 in
theorem slCompare_any (v u : Value) (a b : List Int) (w : World) (S S' : Nat → Prop) (h : RdL tByte w S v a) (h' : RdL tByte w S' u b) (hl : a.length = b.length) :
    Calls Try.prog 65 #[v, u] w fun e w' => e = .returned (.int .i64 (cmpL a b)) ∧ Ext w w' := by
  obtain ⟨A, cap, rfl, hcap, hlen, hrd, hok⟩ := h
  obtain ⟨A', cap', rfl, hcap', hlen', hrd', hok'⟩ := h'
  have Hrd := Lib.hid (show Rd w S 1 A a.length (nums .u8 a) by rw [← flat_bytes]; exact hrd)
  have Hrd' := Lib.hid (show Rd w S' 1 A' b.length (nums .u8 b) by rw [← flat_bytes]; exact hrd')
  have Hl := Lib.hid hl
  clear hrd hrd' hl
  go_enter Try.func65, Try.ntmps65
  go_wp2
  go_loopw [11] (fun i wr => ∃ k : Nat, k ≤ a.length ∧ i = .int .i64 k ∧ a.take k = b.take k ∧ Ext w wr) (fun i _ => a.length - (intOf i).toNat)
  case atStart => exact ⟨0, by omega, rfl, by simp, Ext.refl _⟩
  case round =>
    obtain ⟨k, hk, rfl, ht, hx⟩ := hrel
    have Ht := Lib.hid ht
    have HX := Lib.hid hx
    clear ht hx
    have hbl : (b.length : Int) = a.length := by rw [Hl.out]
    by_cases hlt : k < a.length
    · have hlt' : k < b.length := by rw [← Hl.out]; exact hlt
      obtain ⟨g, o, rfl, hs, hc⟩ := (Hrd.out).byte k hlt
      obtain ⟨g', o', rfl, hs', hc'⟩ := (Hrd'.out).byte k hlt'
      have hd := HX.out.cell hc
      have hd' := HX.out.cell hc'
      have hi : (0 : Int) ≤ (k : Int) := by omega
      have hi2 : (k : Int) < (a.length : Int) := by omega
      have hi3 : (k : Int) < (b.length : Int) := by omega
      clear hc hc' hbl
      have hcm := fun W => cmpB_any (gI a k) (gI b k) W
      by_cases he : gI a k = gI b k
      · have He := Lib.hid he
        simp only [if_pos he] at hcm
        clear he
        go_wp2_with fail
        refine (hcm _).mono ?_
        rintro e w' ⟨rfl, rfl⟩
        go_wp2
        go_roundw
        case rel => exact ⟨k + 1, by omega, by go_num, take_eq_step hlt hlt' Ht.out He.out, HX.out⟩
        case measure => simp [intOf]; omega
      · have HC := Lib.hid (cmpL_at a b k hlt hlt' Ht.out he)
        simp only [if_neg he] at hcm
        clear he
        by_cases hlx : gI a k < gI b k
        · have Hlx := Lib.hid hlx
          simp only [if_pos hlx] at hcm
          clear hlx
          go_wp2_with fail
          refine (hcm _).mono ?_
          rintro e w' ⟨rfl, rfl⟩
          go_wp2
          go_ret
          exact ⟨by rw [HC.out, if_pos Hlx.out]; rfl, HX.out⟩
        · have Hlx := Lib.hid (Int.not_lt.1 hlx)
          simp only [if_neg hlx] at hcm
          clear hlx
          go_wp2_with fail
          refine (hcm _).mono ?_
          rintro e w' ⟨rfl, rfl⟩
          go_wp2
          go_ret
          exact ⟨by rw [HC.out, if_neg (Int.not_lt.2 Hlx.out)]; rfl, HX.out⟩
    · have hq : ¬ (a.length : Int) < (b.length : Int) := by omega
      clear hbl
      go_wp2
      go_ret
      obtain rfl : k = a.length := by omega
      refine ⟨?_, HX.out⟩
      have e := Ht.out
      rw [List.take_of_length_le (by omega), List.take_of_length_le (by rw [← Hl.out]; omega)] at e
      subst e; rw [cmpL_self]; rfl
theorem numsA_full {xs : List Int} (j : Nat) (u : Value) (hu : (numsA .u8 xs)[j]? = some u) : (numsA .u8 xs)[0 + j]? = some u := by rw [Nat.zero_add]; exact hu
set_option maxHeartbeats 1000000 in
set_option maxRecDepth 100000 in
theorem compareKeys_any (a b : List Int) (ha : K32 a) (hb : K32 b) (w : World) :
    Calls Try.prog 38 #[.agg (numsA .u8 a), .agg (numsA .u8 b)] w fun e w' => e = .returned (.int .i64 (cmpL a b)) ∧ Ext w w' := by
  have HA := Lib.hid ha
  have HB := Lib.hid hb
  clear ha hb
  go_enter Try.func38, Try.ntmps38
  go_wp2_with fail
  go_region_held3 (fun W => Ext ((w.alloc (.cells (numsA .u8 a) 53)).alloc (.cells (numsA .u8 b) 53)) W) (first | exact Ext.refl _ | exact (Ext.refl _).drew | exact Ext.trans (by assumption) (by assumption))
    (first
    | (go_at_call 65; refine (slCompare_any _ _ a b _ _ _ (rdl_blk (((Blk.new w 53 (numsA .u8 a)).alloc _).ext ((Ext.refl _).drew)) numsA_full HA.out.1 HA.out.2 (by decide) 32 (Nat.le_refl _)) (rdl_blk ((Blk.new' (g := w.heap.size + 1) (w := w.alloc (.cells (numsA .u8 a) 53)) (by simp) 53 (numsA .u8 b)).ext ((Ext.refl _).drew)) numsA_full HB.out.1 HB.out.2 (by decide) 32 (Nat.le_refl _)) (by rw [HA.out.1, HB.out.1])).mono ?_; rintro e p1 ⟨rfl, hx⟩))
  go_wp2
  go_ret
  exact ⟨rfl, ((ext_alloc w _).alloc _).trans (by assumption)⟩

end Go.Proofs.Ytnklgkmpcochfaa
/- Which commits are valid: the reference and the program. No condition. -/
namespace Go.Proofs.Ytnklgkmpcochfaa
open Go.RowKit
set_option linter.unusedVariables false
set_option linter.unusedSimpArgs false

def gL (L : List (List Int)) (i : Nat) : List Int := L.getD i []
theorem gL_lt {L : List (List Int)} {i : Nat} (h : i < L.length) : gL L i = L[i] := by simp [gL, List.getD_eq_getElem?_getD, h]
/-- the first n are in order -/
@[irreducible] def srtB (L : List (List Int)) (n : Nat) : Bool := (List.range (n - 1)).all fun i => decide (cmpL (gL L i) (gL L (i + 1)) < 0)
theorem srtB_one (L : List (List Int)) (n : Nat) (h : n ≤ 1) : srtB L n = true := by rw [srtB, show n - 1 = 0 by omega]; rfl
theorem srtB_succ (L : List (List Int)) (k : Nat) : srtB L (k + 2) = (srtB L (k + 1) && decide (cmpL (gL L k) (gL L (k + 1)) < 0)) := by
  rw [srtB, srtB, show k + 2 - 1 = k + 1 by omega, show k + 1 - 1 = k by omega, List.range_succ, List.all_append]; simp
theorem srtB_bad (L : List (List Int)) (k n : Nat) (h : k + 1 < n) (hb : ¬ cmpL (gL L k) (gL L (k + 1)) < 0) : srtB L n = false := by
  rw [srtB, List.all_eq_false]
  exact ⟨k, List.mem_range.2 (by omega), by simpa using hb⟩
/-- a valid commit -/
@[irreducible] def okCm (x : Cm) : Bool := decide (x.par.length ≤ 3) && (decide (0 ≤ x.num) && decide (x.num ≤ 40)) && decide (x.note.size ≤ 64) && srtB x.par x.par.length
theorem okCm_eq (x : Cm) : okCm x = (decide (x.par.length ≤ 3) && (decide (0 ≤ x.num) && decide (x.num ≤ 40)) && decide (x.note.size ≤ 64) && srtB x.par x.par.length) := by rw [okCm]
set_option maxHeartbeats 1000000 in
set_option maxRecDepth 100000 in
theorem l07Ok_any (cs : Array Value) (x : Cm) (w : World) (S : Nat → Prop) (h : RCommit w S cs x) (b : Nat) (hb : Blk w b 124 cs) :
    Calls Try.prog 78 #[.pointer (some ⟨b, 0, none⟩)] w fun e w' => e = .returned (.bool (okCm x)) ∧ Ext w w' := by
  obtain ⟨v, rfl, hr, hroot, hnum, hnote⟩ := h
  obtain ⟨A, cap, rfl, hcap, hlen, hrd, hok⟩ := id hr
  have HAT := Lib.hid (Cm.at_ hroot (.slice A x.par.length cap))
  have HB := Lib.hid hb
  have Hrd := Lib.hid hrd
  have Hok := Lib.hid hok
  have Hcm := Lib.hid (okCm_eq x)
  have c0 := hb.at_ 32 HAT.out.1
  have c1 := hb.at_ 33 HAT.out.2.1
  have c2 := hb.at_ 34 HAT.out.2.2
  have hin := l00In_any x.num 0 40
  clear hb hrd hok hr
  by_cases h1 : x.par.length ≤ 3
  rotate_left
  · have e : okCm x = false := by rw [Hcm.out]; simp [h1]
    rw [e]
    clear e Hcm
    go_enter Try.func78, Try.ntmps78
    go_wp2
    go_ret
    exact ⟨rfl, Ext.refl _⟩
  cases h2 : (decide (0 ≤ x.num) && decide (x.num ≤ 40)) with
  | false =>
    have e : okCm x = false := by rw [Hcm.out, h2]; simp
    rw [e]
    simp only [h2] at hin
    clear e Hcm h2
    go_enter Try.func78, Try.ntmps78
    go_wp2_with fail
    refine (hin _).mono ?_
    rintro e w' ⟨rfl, rfl⟩
    go_wp2
    go_ret
    exact ⟨rfl, Ext.refl _⟩
  | true =>
    simp only [h2] at hin
    by_cases h3 : x.note.size ≤ 64
    rotate_left
    · have e : okCm x = false := by rw [Hcm.out]; simp [h3]
      rw [e]
      clear e Hcm h2
      go_enter Try.func78, Try.ntmps78
      go_wp2_with fail
      refine (hin _).mono ?_
      rintro e w' ⟨rfl, rfl⟩
      go_wp2
      go_ret
      exact ⟨rfl, Ext.refl _⟩
    have e : okCm x = srtB x.par x.par.length := by rw [Hcm.out, h2]; simp [h1, h3]
    have HE := Lib.hid e
    clear e Hcm h2
    have Hz := Lib.hid (srtB_one x.par 1 (Nat.le_refl _))
    go_enter Try.func78, Try.ntmps78
    go_wp2_with fail
    refine (hin _).mono ?_
    rintro e w' ⟨rfl, rfl⟩
    go_wp2
    go_loopw [3] (fun i wr => ∃ k : Nat, (k + 1 ≤ x.par.length ∨ k = 0) ∧ i = .int .i64 ((k : Int) + 1) ∧ srtB x.par (k + 1) = true ∧ Ext w wr) (fun i _ => x.par.length - (intOf i).toNat)
    case atStart => exact ⟨0, by omega, rfl, Hz.out, Ext.refl _⟩
    case round =>
    obtain ⟨k, hk, rfl, hs, hx⟩ := hrel
    have HS := Lib.hid hs
    have HX := Lib.hid hx
    clear hs hx hin c0 c1 c2 Hz
    have d0 : ∀ W, Ext wr W → W.cell? ⟨b, 32, none⟩ = some (.slice A x.par.length cap) := fun W hW => (HB.out.ext (HX.out.trans hW)).at_ 32 HAT.out.1
    have R := Ext.refl wr
    by_cases hlt : k + 1 < x.par.length
    · obtain ⟨g, o, rfl, hs0, hc0⟩ := Hrd.out.elem Hok.out k (by omega)
      obtain ⟨g2, o2, e, hs1, hc1⟩ := Hrd.out.elem Hok.out (k + 1) hlt
      injection e with e
      injection e with e1 e2
      subst e1
      subst e2
      have HX0 := Lib.hid (show K32 x.par[k] from Hok.out _ (List.getElem_mem _))
      have HX1 := Lib.hid (show K32 x.par[k + 1] from Hok.out _ (List.getElem_mem hlt))
      have HD0 := Lib.hid (show ∀ j u, (tKey.enc x.par[k])[j]? = some u → wr.cell? ⟨g, o + k * 32 + j, none⟩ = some u from fun j u hu => HX.out.cell (hc0 j u hu))
      have HD1 := Lib.hid (show ∀ j u, (tKey.enc x.par[k + 1])[j]? = some u → wr.cell? ⟨g, o + (k + 1) * 32 + j, none⟩ = some u from fun j u hu => HX.out.cell (hc1 j u hu))
      clear hc0 hc1
      have hi : (0 : Int) ≤ (k : Int) := by omega
      have hi3 : (0 : Int) ≤ (k : Int) + 1 := by omega
      have hi1 : (k : Int) < (x.par.length : Int) := by omega
      have hi2 : (k : Int) + 1 < (x.par.length : Int) := by omega
      have HSN := Lib.hid (srtB_succ x.par k)
      have HG0 := Lib.hid (gL_lt (L := x.par) (i := k) (by omega))
      have HG1 := Lib.hid (gL_lt hlt)
      have W1 : IntKind.i64.wrap (k : Int) = k := IntWalk.i64_in _ (by omega)
      go_wp2_with fail
      refine wp_region_held_drew (S := fun W => Ext wr W) (by kernel_rfl) (Ext.refl _).drew (fun hHeld => ?_)
      refine wpAnyH_take (i := 0) (oi := ?oiz1) (v := ?vz1) ?hiz1 (by kernel_rfl) (by kernel_rfl) (by kernel_rfl) ?hQz1 ?hyz1 (by assumption) ?restz1
      case hiz1 => simp only [List.getElem?_toArray, List.getElem?_cons_zero, List.getElem?_cons_succ]; rfl
      case hQz1 => exact fun _ _ _ h => h
      case hyz1 => exact Or.inl ⟨by rfl, by intro w hSw; (try dsimp only at hSw); go_simp; with_reducible rfl⟩
      try simp only [Act.put, List.setIfInBounds_toArray, List.set_cons_zero, List.set_cons_succ]
      refine wpAnyH_take (i := 1) (oi := ?oiz2) (v := ?vz2) ?hiz2 (by kernel_rfl) (by kernel_rfl) (by kernel_rfl) ?hQz2 ?hyz2 (by assumption) ?restz2
      case hiz2 => simp only [List.getElem?_toArray, List.getElem?_cons_zero, List.getElem?_cons_succ]; rfl
      case hQz2 => exact fun _ _ _ h => h
      case hyz2 => exact Or.inl ⟨by rfl, by intro w hSw; (try dsimp only at hSw); go_simp; with_reducible rfl⟩
      try simp only [Act.put, List.setIfInBounds_toArray, List.set_cons_zero, List.set_cons_succ]
      refine wpAnyH_take (i := 2) (oi := ?oiz3) (v := ?vz3) ?hiz3 (by kernel_rfl) (by kernel_rfl) (by kernel_rfl) ?hQz3 ?hyz3 (by assumption) ?restz3
      case hiz3 => simp only [List.getElem?_toArray, List.getElem?_cons_zero, List.getElem?_cons_succ]; rfl
      case hQz3 => exact fun _ _ _ h => h
      case hyz3 => exact Or.inl ⟨by rfl, by intro w hSw; (try dsimp only at hSw); go_simp; with_reducible rfl⟩
      try simp only [Act.put, List.setIfInBounds_toArray, List.set_cons_zero, List.set_cons_succ]
      refine wpAnyH_take (i := 3) (oi := ?oiz4) (v := ?vz4) ?hiz4 (by kernel_rfl) (by kernel_rfl) (by kernel_rfl) ?hQz4 ?hyz4 (by assumption) ?restz4
      case hiz4 => simp only [List.getElem?_toArray, List.getElem?_cons_zero, List.getElem?_cons_succ]; rfl
      case hQz4 => exact fun _ _ _ h => h
      case hyz4 => exact Or.inl ⟨by rfl, by intro w hSw; (try dsimp only at hSw); go_simp; with_reducible rfl⟩
      try simp only [Act.put, List.setIfInBounds_toArray, List.set_cons_zero, List.set_cons_succ]
      refine wpAnyH_take (i := 4) (oi := ?oiz5) (v := ?vz5) ?hiz5 (by kernel_rfl) (by kernel_rfl) (by kernel_rfl) ?hQz5 ?hyz5 (by assumption) ?restz5
      case hiz5 => simp only [List.getElem?_toArray, List.getElem?_cons_zero, List.getElem?_cons_succ]; rfl
      case hQz5 => exact fun _ _ _ h => h
      case hyz5 => exact Or.inl ⟨by rfl, by intro w hSw; (try dsimp only at hSw); go_simp; with_reducible rfl⟩
      try simp only [Act.put, List.setIfInBounds_toArray, List.set_cons_zero, List.set_cons_succ]
      refine wpAnyH_take (i := 5) (oi := ?oiz6) (v := ?vz6) ?hiz6 (by kernel_rfl) (by kernel_rfl) (by kernel_rfl) ?hQz6 ?hyz6 (by assumption) ?restz6
      case hiz6 => simp only [List.getElem?_toArray, List.getElem?_cons_zero, List.getElem?_cons_succ]; rfl
      case hQz6 => exact fun _ _ _ h => h
      case hyz6 => exact Or.inl ⟨by rfl, by intro w hSw; (try dsimp only at hSw); go_simp; with_reducible rfl⟩
      try simp only [Act.put, List.setIfInBounds_toArray, List.set_cons_zero, List.set_cons_succ]
      refine wpAnyH_take (i := 6) (oi := ?oiz7) (v := ?vz7) ?hiz7 (by kernel_rfl) (by kernel_rfl) (by kernel_rfl) ?hQz7 ?hyz7 (by assumption) ?restz7
      case hiz7 => simp only [List.getElem?_toArray, List.getElem?_cons_zero, List.getElem?_cons_succ]; rfl
      case hQz7 => exact fun _ _ _ h => h
      case hyz7 => exact Or.inl ⟨by rfl, by intro w hSw; (try dsimp only at hSw); go_simp; with_reducible rfl⟩
      try simp only [Act.put, List.setIfInBounds_toArray, List.set_cons_zero, List.set_cons_succ]
      refine wpAnyH_take (i := 7) (oi := ?oiz8) (v := (.agg (tKey.enc x.par[k]).toArray)) ?hiz8 (by kernel_rfl) (by kernel_rfl) (by kernel_rfl) ?hQz8 ?hyz8 (by assumption) ?restz8
      case hiz8 => simp only [List.getElem?_toArray, List.getElem?_cons_zero, List.getElem?_cons_succ]; rfl
      case hQz8 => exact fun _ _ _ h => h
      case hyz8 => refine yields_loadR g (o + k * 32) (tKey.enc x.par[k]) (by rw [tKey.len _ HX0.out]; exact aggKey) HD0.out ?_ _ rfl rfl; rfl
      try simp only [Act.put, List.setIfInBounds_toArray, List.set_cons_zero, List.set_cons_succ]
      refine wpAnyH_take (i := 8) (oi := ?oiz9) (v := ?vz9) ?hiz9 (by kernel_rfl) (by kernel_rfl) (by kernel_rfl) ?hQz9 ?hyz9 (by assumption) ?restz9
      case hiz9 => simp only [List.getElem?_toArray, List.getElem?_cons_zero, List.getElem?_cons_succ]; rfl
      case hQz9 => exact fun _ _ _ h => h
      case hyz9 => exact Or.inl ⟨by rfl, by intro w hSw; (try dsimp only at hSw); go_simp; with_reducible rfl⟩
      try simp only [Act.put, List.setIfInBounds_toArray, List.set_cons_zero, List.set_cons_succ]
      refine wpAnyH_take (i := 9) (oi := ?oiz10) (v := ?vz10) ?hiz10 (by kernel_rfl) (by kernel_rfl) (by kernel_rfl) ?hQz10 ?hyz10 (by assumption) ?restz10
      case hiz10 => simp only [List.getElem?_toArray, List.getElem?_cons_zero, List.getElem?_cons_succ]; rfl
      case hQz10 => exact fun _ _ _ h => h
      case hyz10 => exact Or.inl ⟨by rfl, by intro w hSw; (try dsimp only at hSw); go_simp; with_reducible rfl⟩
      try simp only [Act.put, List.setIfInBounds_toArray, List.set_cons_zero, List.set_cons_succ]
      refine wpAnyH_take (i := 10) (oi := ?oiz11) (v := ?vz11) ?hiz11 (by kernel_rfl) (by kernel_rfl) (by kernel_rfl) ?hQz11 ?hyz11 (by assumption) ?restz11
      case hiz11 => simp only [List.getElem?_toArray, List.getElem?_cons_zero, List.getElem?_cons_succ]; rfl
      case hQz11 => exact fun _ _ _ h => h
      case hyz11 => exact Or.inl ⟨by rfl, by intro w hSw; (try dsimp only at hSw); go_simp; with_reducible rfl⟩
      try simp only [Act.put, List.setIfInBounds_toArray, List.set_cons_zero, List.set_cons_succ]
      refine wpAnyH_take (i := 11) (oi := ?oiz12) (v := ?vz12) ?hiz12 (by kernel_rfl) (by kernel_rfl) (by kernel_rfl) ?hQz12 ?hyz12 (by assumption) ?restz12
      case hiz12 => simp only [List.getElem?_toArray, List.getElem?_cons_zero, List.getElem?_cons_succ]; rfl
      case hQz12 => exact fun _ _ _ h => h
      case hyz12 => exact Or.inl ⟨by rfl, by intro w hSw; (try dsimp only at hSw); go_simp; with_reducible rfl⟩
      try simp only [Act.put, List.setIfInBounds_toArray, List.set_cons_zero, List.set_cons_succ]
      refine wpAnyH_take (i := 12) (oi := ?oiz13) (v := ?vz13) ?hiz13 (by kernel_rfl) (by kernel_rfl) (by kernel_rfl) ?hQz13 ?hyz13 (by assumption) ?restz13
      case hiz13 => simp only [List.getElem?_toArray, List.getElem?_cons_zero, List.getElem?_cons_succ]; rfl
      case hQz13 => exact fun _ _ _ h => h
      case hyz13 => exact Or.inl ⟨by rfl, by intro w hSw; (try dsimp only at hSw); go_simp; with_reducible rfl⟩
      try simp only [Act.put, List.setIfInBounds_toArray, List.set_cons_zero, List.set_cons_succ]
      refine wpAnyH_take (i := 13) (oi := ?oiz14) (v := ?vz14) ?hiz14 (by kernel_rfl) (by kernel_rfl) (by kernel_rfl) ?hQz14 ?hyz14 (by assumption) ?restz14
      case hiz14 => simp only [List.getElem?_toArray, List.getElem?_cons_zero, List.getElem?_cons_succ]; rfl
      case hQz14 => exact fun _ _ _ h => h
      case hyz14 => exact Or.inl ⟨by rfl, by intro w hSw; (try dsimp only at hSw); go_simp; with_reducible rfl⟩
      try simp only [Act.put, List.setIfInBounds_toArray, List.set_cons_zero, List.set_cons_succ]
      refine wpAnyH_take (i := 14) (oi := ?oiz15) (v := (.agg (tKey.enc x.par[k + 1]).toArray)) ?hiz15 (by kernel_rfl) (by kernel_rfl) (by kernel_rfl) ?hQz15 ?hyz15 (by assumption) ?restz15
      case hiz15 => simp only [List.getElem?_toArray, List.getElem?_cons_zero, List.getElem?_cons_succ]; rfl
      case hQz15 => exact fun _ _ _ h => h
      case hyz15 => refine yields_loadR g (o + (k + 1) * 32) (tKey.enc x.par[k + 1]) (by rw [tKey.len _ HX1.out]; exact aggKey) HD1.out ?_ _ rfl rfl; rfl
      try simp only [Act.put, List.setIfInBounds_toArray, List.set_cons_zero, List.set_cons_succ]
      refine wpAnyH_ready (rs := [15]) (by kernel_rfl) (by simp) (AllReadyH.cons (o := ?oy1615) ?hy1615 (fun K hK => ?sy1615) AllReadyH.nil)
      case hy1615 => simp only [List.getElem?_toArray, List.getElem?_cons_zero, List.getElem?_cons_succ]; rfl
      go_simp
      refine (l01Compare_any x.par[k] x.par[k + 1] HX0.out HX1.out _).mono ?_
      rintro e w1 ⟨rfl, hx⟩
      have hH2 := hHeld.trans hx
      refine hK.out _ _ hH2 (fun _ => ?_)
      clear hHeld hK K
      have hHeld := hH2
      clear hH2
      try simp only [Act.put, List.setIfInBounds_toArray, List.set_cons_zero, List.set_cons_succ]
      refine wpAnyH_take (i := 16) (oi := ?oiz17) (v := ?vz17) ?hiz17 (by kernel_rfl) (by kernel_rfl) (by kernel_rfl) ?hQz17 ?hyz17 (by assumption) ?restz17
      case hiz17 => simp only [List.getElem?_toArray, List.getElem?_cons_zero, List.getElem?_cons_succ]; rfl
      case hQz17 => exact fun _ _ _ h => h
      case hyz17 => exact Or.inl ⟨by rfl, by intro w hSw; (try dsimp only at hSw); go_simp; with_reducible rfl⟩
      try simp only [Act.put, List.setIfInBounds_toArray, List.set_cons_zero, List.set_cons_succ]
      refine wpAnyH_done (by kernel_rfl) ?_ _
      have HX2 := Lib.hid (HX.out.trans hHeld)
      clear hHeld d0 R
      by_cases hc : cmpL x.par[k] x.par[k + 1] < 0
      · have hge : ¬ (0 : Int) ≤ cmpL x.par[k] x.par[k + 1] := by omega
        have Hc := Lib.hid hc
        clear hc
        go_wp2
        go_roundw
        case rel => exact ⟨k + 1, by omega, by go_num, by rw [HSN.out, HS.out, HG0.out, HG1.out]; simpa using Hc.out, HX2.out⟩
        case measure => simp [intOf]; omega
      · have hge : (0 : Int) ≤ cmpL x.par[k] x.par[k + 1] := by omega
        have Hbad := Lib.hid (srtB_bad x.par k x.par.length hlt (by rw [HG0.out, HG1.out]; exact hc))
        clear hc
        go_wp2
        go_ret
        exact ⟨by rw [HE.out, Hbad.out]; rfl, HX2.out⟩
    · go_wp2
      go_ret
      refine ⟨?_, HX.out⟩
      rw [HE.out]
      rcases hk with hk | rfl
      · rw [show x.par.length = k + 1 by omega, HS.out]; rfl
      · rw [srtB_one _ _ (by omega)]; rfl

set_option maxHeartbeats 1000000 in
set_option maxRecDepth 100000 in
theorem validCommit_any (cs : Array Value) (x : Cm) (w : World) (S : Nat → Prop) (h : RCommit w S cs x) :
    Calls Try.prog 83 #[.agg cs] w fun e w' => e = .returned (.bool (okCm x)) ∧ Ext w w' := by
  obtain ⟨v, rfl, hr, hroot, hnum, hnote⟩ := h
  obtain ⟨A, cap, rfl, hcap, hlen, hrd, hok⟩ := id hr
  have HAT := Lib.hid (Cm.at_ hroot (.slice A x.par.length cap))
  have Hrd := Lib.hid hrd
  have Hok := Lib.hid hok
  have Hcm := Lib.hid (okCm_eq x)
  have HB := Lib.hid (Blk.new w 124 (x.cells (.slice A x.par.length cap)))
  have hin := within_any x.num 0 40
  have Hin := Lib.hid hin
  have Hz := Lib.hid (srtB_one x.par 1 (Nat.le_refl _))
  clear hrd hok hr hin
  go_enter Try.func83, Try.ntmps83
  go_wp2
  go_loopw [3] (fun i wr => ∃ k : Nat, (k + 1 ≤ x.par.length ∨ k = 0) ∧ i = .int .i64 ((k : Int) + 1) ∧ srtB x.par (k + 1) = true ∧ Ext (w.alloc (.cells (x.cells (.slice A x.par.length cap)) 124)) wr) (fun i _ => x.par.length - (intOf i).toNat)
  case atStart => exact ⟨0, by omega, rfl, Hz.out, Ext.refl _⟩
  case round =>
    obtain ⟨k, hk, rfl, hs, hx⟩ := hrel
    have HS := Lib.hid hs
    have HX := Lib.hid hx
    clear hs hx Hz
    have d0 : ∀ W, Ext wr W → W.cell? ⟨w.heap.size, 32, none⟩ = some (.slice A x.par.length cap) := fun W hW => (HB.out.ext (HX.out.trans hW)).at_ 32 HAT.out.1
    have R := Ext.refl wr
    by_cases hlt : k + 1 < x.par.length
    · obtain ⟨g, o, rfl, hs0, hc0⟩ := Hrd.out.elem Hok.out k (by omega)
      obtain ⟨g2, o2, e, hs1, hc1⟩ := Hrd.out.elem Hok.out (k + 1) hlt
      injection e with e
      injection e with e1 e2
      subst e1
      subst e2
      have HX0 := Lib.hid (show K32 x.par[k] from Hok.out _ (List.getElem_mem _))
      have HX1 := Lib.hid (show K32 x.par[k + 1] from Hok.out _ (List.getElem_mem hlt))
      have HXW := Lib.hid ((ext_alloc w _).trans HX.out)
      have HD0 := Lib.hid (show ∀ j u, (tKey.enc x.par[k])[j]? = some u → wr.cell? ⟨g, o + k * 32 + j, none⟩ = some u from fun j u hu => HXW.out.cell (hc0 j u hu))
      have HD1 := Lib.hid (show ∀ j u, (tKey.enc x.par[k + 1])[j]? = some u → wr.cell? ⟨g, o + (k + 1) * 32 + j, none⟩ = some u from fun j u hu => HXW.out.cell (hc1 j u hu))
      clear hc0 hc1
      have hi : (0 : Int) ≤ (k : Int) := by omega
      have hi3 : (0 : Int) ≤ (k : Int) + 1 := by omega
      have hi1 : (k : Int) < (x.par.length : Int) := by omega
      have hi2 : (k : Int) + 1 < (x.par.length : Int) := by omega
      have HSN := Lib.hid (srtB_succ x.par k)
      have HG0 := Lib.hid (gL_lt (L := x.par) (i := k) (by omega))
      have HG1 := Lib.hid (gL_lt hlt)
      have W1 : IntKind.i64.wrap (k : Int) = k := IntWalk.i64_in _ (by omega)
      go_wp2_with fail
      refine wp_region_held_drew (S := fun W => Ext wr W) (by kernel_rfl) (Ext.refl _).drew (fun hHeld => ?_)
      refine wpAnyH_take (i := 0) (oi := ?oiz18) (v := ?vz18) ?hiz18 (by kernel_rfl) (by kernel_rfl) (by kernel_rfl) ?hQz18 ?hyz18 (by assumption) ?restz18
      case hiz18 => simp only [List.getElem?_toArray, List.getElem?_cons_zero, List.getElem?_cons_succ]; rfl
      case hQz18 => exact fun _ _ _ h => h
      case hyz18 => exact Or.inl ⟨by rfl, by intro w hSw; (try dsimp only at hSw); go_simp; with_reducible rfl⟩
      try simp only [Act.put, List.setIfInBounds_toArray, List.set_cons_zero, List.set_cons_succ]
      refine wpAnyH_take (i := 1) (oi := ?oiz19) (v := ?vz19) ?hiz19 (by kernel_rfl) (by kernel_rfl) (by kernel_rfl) ?hQz19 ?hyz19 (by assumption) ?restz19
      case hiz19 => simp only [List.getElem?_toArray, List.getElem?_cons_zero, List.getElem?_cons_succ]; rfl
      case hQz19 => exact fun _ _ _ h => h
      case hyz19 => exact Or.inl ⟨by rfl, by intro w hSw; (try dsimp only at hSw); go_simp; with_reducible rfl⟩
      try simp only [Act.put, List.setIfInBounds_toArray, List.set_cons_zero, List.set_cons_succ]
      refine wpAnyH_take (i := 2) (oi := ?oiz20) (v := ?vz20) ?hiz20 (by kernel_rfl) (by kernel_rfl) (by kernel_rfl) ?hQz20 ?hyz20 (by assumption) ?restz20
      case hiz20 => simp only [List.getElem?_toArray, List.getElem?_cons_zero, List.getElem?_cons_succ]; rfl
      case hQz20 => exact fun _ _ _ h => h
      case hyz20 => exact Or.inl ⟨by rfl, by intro w hSw; (try dsimp only at hSw); go_simp; with_reducible rfl⟩
      try simp only [Act.put, List.setIfInBounds_toArray, List.set_cons_zero, List.set_cons_succ]
      refine wpAnyH_take (i := 3) (oi := ?oiz21) (v := ?vz21) ?hiz21 (by kernel_rfl) (by kernel_rfl) (by kernel_rfl) ?hQz21 ?hyz21 (by assumption) ?restz21
      case hiz21 => simp only [List.getElem?_toArray, List.getElem?_cons_zero, List.getElem?_cons_succ]; rfl
      case hQz21 => exact fun _ _ _ h => h
      case hyz21 => exact Or.inl ⟨by rfl, by intro w hSw; (try dsimp only at hSw); go_simp; with_reducible rfl⟩
      try simp only [Act.put, List.setIfInBounds_toArray, List.set_cons_zero, List.set_cons_succ]
      refine wpAnyH_take (i := 4) (oi := ?oiz22) (v := ?vz22) ?hiz22 (by kernel_rfl) (by kernel_rfl) (by kernel_rfl) ?hQz22 ?hyz22 (by assumption) ?restz22
      case hiz22 => simp only [List.getElem?_toArray, List.getElem?_cons_zero, List.getElem?_cons_succ]; rfl
      case hQz22 => exact fun _ _ _ h => h
      case hyz22 => exact Or.inl ⟨by rfl, by intro w hSw; (try dsimp only at hSw); go_simp; with_reducible rfl⟩
      try simp only [Act.put, List.setIfInBounds_toArray, List.set_cons_zero, List.set_cons_succ]
      refine wpAnyH_take (i := 5) (oi := ?oiz23) (v := (.agg (tKey.enc x.par[k]).toArray)) ?hiz23 (by kernel_rfl) (by kernel_rfl) (by kernel_rfl) ?hQz23 ?hyz23 (by assumption) ?restz23
      case hiz23 => simp only [List.getElem?_toArray, List.getElem?_cons_zero, List.getElem?_cons_succ]; rfl
      case hQz23 => exact fun _ _ _ h => h
      case hyz23 => refine yields_loadR g (o + k * 32) (tKey.enc x.par[k]) (by rw [tKey.len _ HX0.out]; exact aggKey) HD0.out ?_ _ rfl rfl; rfl
      try simp only [Act.put, List.setIfInBounds_toArray, List.set_cons_zero, List.set_cons_succ]
      refine wpAnyH_take (i := 6) (oi := ?oiz24) (v := ?vz24) ?hiz24 (by kernel_rfl) (by kernel_rfl) (by kernel_rfl) ?hQz24 ?hyz24 (by assumption) ?restz24
      case hiz24 => simp only [List.getElem?_toArray, List.getElem?_cons_zero, List.getElem?_cons_succ]; rfl
      case hQz24 => exact fun _ _ _ h => h
      case hyz24 => exact Or.inl ⟨by rfl, by intro w hSw; (try dsimp only at hSw); go_simp; with_reducible rfl⟩
      try simp only [Act.put, List.setIfInBounds_toArray, List.set_cons_zero, List.set_cons_succ]
      refine wpAnyH_take (i := 7) (oi := ?oiz25) (v := ?vz25) ?hiz25 (by kernel_rfl) (by kernel_rfl) (by kernel_rfl) ?hQz25 ?hyz25 (by assumption) ?restz25
      case hiz25 => simp only [List.getElem?_toArray, List.getElem?_cons_zero, List.getElem?_cons_succ]; rfl
      case hQz25 => exact fun _ _ _ h => h
      case hyz25 => exact Or.inl ⟨by rfl, by intro w hSw; (try dsimp only at hSw); go_simp; with_reducible rfl⟩
      try simp only [Act.put, List.setIfInBounds_toArray, List.set_cons_zero, List.set_cons_succ]
      refine wpAnyH_take (i := 8) (oi := ?oiz26) (v := ?vz26) ?hiz26 (by kernel_rfl) (by kernel_rfl) (by kernel_rfl) ?hQz26 ?hyz26 (by assumption) ?restz26
      case hiz26 => simp only [List.getElem?_toArray, List.getElem?_cons_zero, List.getElem?_cons_succ]; rfl
      case hQz26 => exact fun _ _ _ h => h
      case hyz26 => exact Or.inl ⟨by rfl, by intro w hSw; (try dsimp only at hSw); go_simp; with_reducible rfl⟩
      try simp only [Act.put, List.setIfInBounds_toArray, List.set_cons_zero, List.set_cons_succ]
      refine wpAnyH_take (i := 9) (oi := ?oiz27) (v := ?vz27) ?hiz27 (by kernel_rfl) (by kernel_rfl) (by kernel_rfl) ?hQz27 ?hyz27 (by assumption) ?restz27
      case hiz27 => simp only [List.getElem?_toArray, List.getElem?_cons_zero, List.getElem?_cons_succ]; rfl
      case hQz27 => exact fun _ _ _ h => h
      case hyz27 => exact Or.inl ⟨by rfl, by intro w hSw; (try dsimp only at hSw); go_simp; with_reducible rfl⟩
      try simp only [Act.put, List.setIfInBounds_toArray, List.set_cons_zero, List.set_cons_succ]
      refine wpAnyH_take (i := 10) (oi := ?oiz28) (v := (.agg (tKey.enc x.par[k + 1]).toArray)) ?hiz28 (by kernel_rfl) (by kernel_rfl) (by kernel_rfl) ?hQz28 ?hyz28 (by assumption) ?restz28
      case hiz28 => simp only [List.getElem?_toArray, List.getElem?_cons_zero, List.getElem?_cons_succ]; rfl
      case hQz28 => exact fun _ _ _ h => h
      case hyz28 => refine yields_loadR g (o + (k + 1) * 32) (tKey.enc x.par[k + 1]) (by rw [tKey.len _ HX1.out]; exact aggKey) HD1.out ?_ _ rfl rfl; rfl
      try simp only [Act.put, List.setIfInBounds_toArray, List.set_cons_zero, List.set_cons_succ]
      refine wpAnyH_ready (rs := [11]) (by kernel_rfl) (by simp) (AllReadyH.cons (o := ?oy2911) ?hy2911 (fun K hK => ?sy2911) AllReadyH.nil)
      case hy2911 => simp only [List.getElem?_toArray, List.getElem?_cons_zero, List.getElem?_cons_succ]; rfl
      go_simp
      refine (compareKeys_any x.par[k] x.par[k + 1] HX0.out HX1.out _).mono ?_
      rintro e w1 ⟨rfl, hx⟩
      have hH2 := hHeld.trans hx
      refine hK.out _ _ hH2 (fun _ => ?_)
      clear hHeld hK K
      have hHeld := hH2
      clear hH2
      try simp only [Act.put, List.setIfInBounds_toArray, List.set_cons_zero, List.set_cons_succ]
      refine wpAnyH_take (i := 12) (oi := ?oiz30) (v := ?vz30) ?hiz30 (by kernel_rfl) (by kernel_rfl) (by kernel_rfl) ?hQz30 ?hyz30 (by assumption) ?restz30
      case hiz30 => simp only [List.getElem?_toArray, List.getElem?_cons_zero, List.getElem?_cons_succ]; rfl
      case hQz30 => exact fun _ _ _ h => h
      case hyz30 => exact Or.inl ⟨by rfl, by intro w hSw; (try dsimp only at hSw); go_simp; with_reducible rfl⟩
      try simp only [Act.put, List.setIfInBounds_toArray, List.set_cons_zero, List.set_cons_succ]
      refine wpAnyH_done (by kernel_rfl) ?_ _
      have HX2 := Lib.hid (HX.out.trans hHeld)
      clear hHeld d0 R
      by_cases hc : cmpL x.par[k] x.par[k + 1] < 0
      · have hge : ¬ (0 : Int) ≤ cmpL x.par[k] x.par[k + 1] := by omega
        have Hc := Lib.hid hc
        clear hc
        go_wp2
        go_roundw
        case rel => exact ⟨k + 1, by omega, by go_num, by rw [HSN.out, HS.out, HG0.out, HG1.out]; simpa using Hc.out, HX2.out⟩
        case measure => simp [intOf]; omega
      · have hge : (0 : Int) ≤ cmpL x.par[k] x.par[k + 1] := by omega
        have Hbad := Lib.hid (srtB_bad x.par k x.par.length hlt (by rw [HG0.out, HG1.out]; exact hc))
        clear hc
        go_wp2
        go_ret
        exact ⟨by rw [Hcm.out, Hbad.out, Bool.and_false]; rfl, (ext_alloc w _).trans HX2.out⟩
    · have Hs : Hid (srtB x.par x.par.length = true) := Lib.hid (by
        rcases hk with hk | rfl
        · rw [show x.par.length = k + 1 by omega, HS.out]
        · rw [srtB_one _ _ (by omega)])
      have d1 := (HB.out.ext HX.out).at_ 33 HAT.out.2.1
      have d2 := (HB.out.ext HX.out).at_ 34 HAT.out.2.2
      have XW := Lib.hid ((ext_alloc w _).trans HX.out)
      have hin := Hin.out
      clear HX HS
      by_cases h1 : x.par.length ≤ 3
      rotate_left
      · have e : okCm x = false := by rw [Hcm.out]; simp [h1]
        have He := Lib.hid e
        clear e Hcm
        go_wp2
        go_ret
        exact ⟨by rw [He.out]; rfl, XW.out⟩
      cases h2 : (decide (0 ≤ x.num) && decide (x.num ≤ 40)) with
      | false =>
        have e : okCm x = false := by rw [Hcm.out, h2]; simp
        have He := Lib.hid e
        simp only [h2] at hin
        clear e Hcm h2
        go_wp2_with fail
        refine (hin _).mono ?_
        rintro e w' ⟨rfl, rfl⟩
        go_wp2
        go_ret
        exact ⟨by rw [He.out]; rfl, XW.out⟩
      | true =>
        simp only [h2] at hin
        have e : okCm x = decide (x.note.size ≤ 64) := by rw [Hcm.out, h2, Hs.out]; simp [h1]
        have He := Lib.hid e
        clear e Hcm h2
        go_wp2_with fail
        refine (hin _).mono ?_
        rintro e w' ⟨rfl, rfl⟩
        go_wp2
        go_ret
        exact ⟨by rw [He.out]; exact ret_bool (by simp; omega), XW.out⟩

end Go.Proofs.Ytnklgkmpcochfaa
/- What is asked of a store's keys: told by order one after the other, and by a sorted copy. Plain. No condition. -/
namespace Go.Proofs.Ytnklgkmpcochfaa
open Go.RowKit
set_option linter.unusedVariables false
set_option linter.unusedSimpArgs false

theorem cmpL7_nil (b : List Int) : cmpL [] b = 0 := by rw [cmpL]; intro x a y b' h; cases h
theorem cmpL7_nil' (a : List Int) : cmpL a [] = 0 := by rw [cmpL]; intro x a' y b' _ h; cases h
theorem cmpL7_cons (x y : Int) (a b : List Int) : cmpL (x :: a) (y :: b) = if x = y then cmpL a b else if x < y then -1 else 1 := by rw [cmpL]
theorem cmpL7_zero : ∀ {a b : List Int}, a.length = b.length → cmpL a b = 0 → a = b
  | [], [], _, _ => rfl
  | x :: a, y :: b, hl, h => by
    rw [cmpL7_cons] at h
    by_cases hxy : x = y
    · rw [if_pos hxy] at h
      rw [hxy, cmpL7_zero (by simpa using hl) h]
    · rw [if_neg hxy] at h
      split at h <;> simp at h
theorem cmpL7_neg : ∀ (a b : List Int), cmpL b a = - cmpL a b
  | [], b => by rw [cmpL7_nil, cmpL7_nil']; rfl
  | x :: a, [] => by rw [cmpL7_nil, cmpL7_nil']; rfl
  | x :: a, y :: b => by
    rw [cmpL7_cons, cmpL7_cons]
    by_cases hxy : x = y
    · subst hxy; rw [if_pos rfl, if_pos rfl, cmpL7_neg a b]
    · rw [if_neg hxy, if_neg (fun e => hxy e.symm)]
      by_cases h1 : x < y
      · rw [if_pos h1, if_neg (by omega)]; rfl
      · rw [if_neg h1, if_pos (by omega)]
theorem cmpL7_trans : ∀ (a b c : List Int), a.length = b.length → b.length = c.length → cmpL a b ≤ 0 → cmpL b c ≤ 0 → cmpL a c ≤ 0
  | [], b, c, _, _, _, _ => by rw [cmpL7_nil]; exact Int.le_refl _
  | x :: a, [], c, h, _, _, _ => by simp at h
  | x :: a, y :: b, [], _, h, _, _ => by simp at h
  | x :: a, y :: b, z :: c, h1, h2, h3, h4 => by
    rw [cmpL7_cons] at h3 h4 ⊢
    by_cases hxy : x = y
    · subst hxy
      rw [if_pos rfl] at h3
      by_cases hxz : x = z
      · subst hxz
        rw [if_pos rfl] at h4 ⊢
        exact cmpL7_trans a b c (by simpa using h1) (by simpa using h2) h3 h4
      · rw [if_neg hxz] at h4 ⊢
        exact h4
    · rw [if_neg hxy] at h3
      by_cases h5 : x < y
      · by_cases hyz : y = z
        · subst hyz; rw [if_neg hxy, if_pos h5]; decide
        · rw [if_neg hyz] at h4
          by_cases h6 : y < z
          · rw [if_neg (by omega), if_pos (by omega)]; decide
          · rw [if_neg h6] at h4; omega
      · rw [if_neg h5] at h3; omega
/-- what stands one behind the other, stands in order -/
theorem chain_pw {R : List Int → List Int → Prop} (ht : ∀ a b c : List Int, a.length = 32 → b.length = 32 → c.length = 32 → R a b → R b c → R a c) : ∀ (L : List (List Int)), (∀ x ∈ L, x.length = 32) → (∀ k (h : k + 1 < L.length), R L[k] L[k + 1]) → L.Pairwise R
  | [], _, _ => List.Pairwise.nil
  | [x], _, _ => List.pairwise_singleton _ _
  | x :: y :: r, hl, h => by
    have ih := chain_pw ht (y :: r) (fun z hz => hl z (by simp [hz])) (fun k hk => by have := h (k + 1) (by simpa using hk); simpa using this)
    refine List.Pairwise.cons (fun z hz => ?_) ih
    have h0 : R x y := by have := h 0 (by simp); simpa using this
    rcases List.mem_cons.1 hz with rfl | hz
    · exact h0
    · exact ht x y z (hl x (by simp)) (hl y (by simp)) (hl z (by simp [hz])) h0 ((List.pairwise_cons.1 ih).1 z hz)
theorem srtB_iff (L : List (List Int)) : srtB L L.length = true ↔ ∀ k (h : k + 1 < L.length), cmpL L[k] L[k + 1] < 0 := by
  have key : ∀ n, n ≤ L.length → (srtB L n = true ↔ ∀ k (h : k + 1 < n), cmpL (gL L k) (gL L (k + 1)) < 0) := by
    intro n
    induction n with
    | zero => intro _; rw [srtB_one _ _ (by omega)]; simp
    | succ n ih =>
      intro hn
      match n, ih with
      | 0, _ => rw [srtB_one _ _ (by omega)]; simp
      | n + 1, ih =>
        rw [srtB_succ, Bool.and_eq_true, ih (by omega), decide_eq_true_iff]
        constructor
        · rintro ⟨h1, h2⟩ k hk
          by_cases e : k = n
          · subst e; exact h2
          · exact h1 k (by omega)
        · intro h
          exact ⟨fun k hk => h k (by omega), h n (by omega)⟩
  rw [key _ (Nat.le_refl _)]
  constructor
  · intro h k hk
    have := h k hk
    rwa [gL_lt (by omega), gL_lt hk] at this
  · intro h k hk
    rw [gL_lt (by omega), gL_lt hk]
    exact h k hk
/-- equal neighbours, each once -/
def compactL : List (List Int) → List (List Int)
  | [] => []
  | [x] => [x]
  | x :: y :: r => if x = y then compactL (y :: r) else x :: compactL (y :: r)
theorem compactL_len : ∀ L : List (List Int), (compactL L).length ≤ L.length
  | [] => Nat.le_refl _
  | [x] => Nat.le_refl _
  | x :: y :: r => by
    have ih := compactL_len (y :: r)
    rw [compactL]
    simp only [List.length_cons] at ih
    split <;> simp only [List.length_cons] <;> omega
theorem compactL_all : ∀ L : List (List Int), (compactL L).length = L.length ↔ ∀ k (h : k + 1 < L.length), L[k] ≠ L[k + 1]
  | [] => by simp [compactL]
  | [x] => by simp [compactL]
  | x :: y :: r => by
    have ih := compactL_all (y :: r)
    have hle := compactL_len (y :: r)
    rw [compactL]
    by_cases e : x = y
    · rw [if_pos e]
      constructor
      · intro h; simp only [List.length_cons] at h hle; omega
      · intro h; exact absurd e (by have := h 0 (by simp); simpa using this)
    · rw [if_neg e]
      constructor
      · intro h k hk
        match k with
        | 0 => simpa using e
        | k + 1 => have := ih.1 (by simp only [List.length_cons] at h ⊢; omega) k (by simpa using hk); simpa using this
      · intro h
        have := ih.2 (fun k hk => by have := h (k + 1) (by simpa using hk); simpa using this)
        simp only [List.length_cons] at this ⊢
        omega
/-- the keys are in order, as the program looks -/
def sortedB (L : List (List Int)) : Prop := ∀ k (h : k + 1 < L.length), ¬ cmpL L[k + 1] L[k] < 0
/-- the two looks tell the same -/
theorem store_ok {L D : List (List Int)} (hl : ∀ x ∈ L, x.length = 32) (hp : D.Perm L) (hs : D.Pairwise fun a b => cmpL a b ≤ 0) :
    ((compactL D).length = L.length ∧ sortedB L) ↔ srtB L L.length = true := by
  have pw : sortedB L → L.Pairwise fun a b => cmpL a b ≤ 0 := fun h => chain_pw (R := fun a b => cmpL a b ≤ 0) (fun a b c ha hb hc h1 h2 => cmpL7_trans a b c (by rw [ha, hb]) (by rw [hb, hc]) h1 h2) L hl (fun k hk => by
    have h1 := h k hk
    have h2 := cmpL7_neg L[k] L[k + 1]
    omega)
  have same : sortedB L → D = L := fun h => by
    refine List.Perm.eq_of_pairwise (le := fun a b => cmpL a b ≤ 0) (fun a b ha hb h1 h2 => ?_) hs (pw h) hp
    have h3 := cmpL7_neg a b
    exact cmpL7_zero (by rw [hl a (hp.subset ha), hl b hb]) (by omega)
  rw [srtB_iff]
  constructor
  · rintro ⟨h1, h2⟩ k hk
    rw [same h2] at h1
    have h3 := (compactL_all L).1 h1 k hk
    have h4 := h2 k hk
    have h5 := cmpL7_neg L[k] L[k + 1]
    have h6 : cmpL L[k] L[k + 1] ≠ 0 := fun e => h3 (cmpL7_zero (by rw [hl _ (List.getElem_mem _), hl _ (List.getElem_mem _)]) e)
    omega
  · intro h
    have h2 : sortedB L := fun k hk => by
      have h1 := h k hk
      have h3 := cmpL7_neg L[k] L[k + 1]
      omega
    refine ⟨?_, h2⟩
    rw [same h2]
    refine (compactL_all L).2 fun k hk e => ?_
    have h1 := h k hk
    rw [e, cmpL_self] at h1
    omega
end Go.Proofs.Ytnklgkmpcochfaa
/- Slices whose elements hold slices themselves: how they read. No condition. -/
namespace Go.Proofs.Ytnklgkmpcochfaa
open Go.RowKit
set_option linter.unusedVariables false
set_option linter.unusedSimpArgs false

/-- how the cells of an element read -/
structure NR (α : Type) where
  sz : Nat
  R : World → (Nat → Prop) → Array Value → α → Prop
  pos : 0 < sz
  keep : ∀ {w w' : World} {S : Nat → Prop} {cs : Array Value} {x : α}, R w S cs x → (∀ g, S g → w'.heap[g]? = w.heap[g]?) → R w' S cs x
  ext : ∀ {w w' : World} {S : Nat → Prop} {cs : Array Value} {x : α}, R w S cs x → Ext w w' → R w' S cs x
  mono : ∀ {w : World} {S S' : Nat → Prop} {cs : Array Value} {x : α}, R w S cs x → (∀ g, S g → S' g) → R w S' cs x
  st : ∀ {w : World} {S : Nat → Prop} {cs : Array Value} {x : α}, R w S cs x → St sz cs
/-- the value v is a slice whose elements read as xs -/
def RdN {α : Type} (N : NR α) (w : World) (S : Nat → Prop) (v : Value) (xs : List α) : Prop :=
  ∃ A cap, v = .slice A xs.length cap ∧ xs.length ≤ cap ∧ xs.length ≤ 140737488355328 ∧
    (0 < xs.length → ∃ g o, A = some ⟨g, o, none⟩ ∧ S g ∧ ∀ i (h : i < xs.length), ∃ es : List Value, es.length = N.sz ∧ (∀ j u, es[j]? = some u → w.cell? ⟨g, o + i * N.sz + j, none⟩ = some u) ∧ N.R w S es.toArray xs[i])
section
variable {α : Type} {N : NR α} {w w' : World} {S S' : Nat → Prop} {v : Value} {xs : List α}
theorem RdN.ext (h : RdN N w S v xs) (e : Ext w w') : RdN N w' S v xs := by
  obtain ⟨A, cap, h1, h2, h3, h4⟩ := h
  refine ⟨A, cap, h1, h2, h3, fun hn => ?_⟩
  obtain ⟨g, o, h5, h6, h7⟩ := h4 hn
  refine ⟨g, o, h5, h6, fun i hi => ?_⟩
  obtain ⟨es, h8, h9, h10⟩ := h7 i hi
  exact ⟨es, h8, fun j u hu => e.cell (h9 j u hu), N.ext h10 e⟩
theorem RdN.keep (h : RdN N w S v xs) (e : ∀ g, S g → w'.heap[g]? = w.heap[g]?) : RdN N w' S v xs := by
  obtain ⟨A, cap, h1, h2, h3, h4⟩ := h
  refine ⟨A, cap, h1, h2, h3, fun hn => ?_⟩
  obtain ⟨g, o, h5, h6, h7⟩ := h4 hn
  refine ⟨g, o, h5, h6, fun i hi => ?_⟩
  obtain ⟨es, h8, h9, h10⟩ := h7 i hi
  exact ⟨es, h8, fun j u hu => (World.cell?_of_block (w := w) (e g h6)).trans (h9 j u hu), N.keep h10 e⟩
theorem RdN.far (h : RdN N w S v xs) {p : Addr} (hp : ∀ g, S g → g ≠ p.block) (u : Value) : RdN N (w.setCell p u) S v xs := h.keep fun g hg => Below.heap_setCell w p u g (hp g hg)
theorem RdN.mono (h : RdN N w S v xs) (e : ∀ g, S g → S' g) : RdN N w S' v xs := by
  obtain ⟨A, cap, h1, h2, h3, h4⟩ := h
  refine ⟨A, cap, h1, h2, h3, fun hn => ?_⟩
  obtain ⟨g, o, h5, h6, h7⟩ := h4 hn
  refine ⟨g, o, h5, e g h6, fun i hi => ?_⟩
  obtain ⟨es, h8, h9, h10⟩ := h7 i hi
  exact ⟨es, h8, h9, N.mono h10 e⟩
theorem RdN.shape (h : RdN N w S v xs) : ∃ A cap, v = .slice A xs.length cap ∧ xs.length ≤ cap ∧ xs.length ≤ 140737488355328 := by
  obtain ⟨A, cap, h1, h2, h3, _⟩ := h
  exact ⟨A, cap, h1, h2, h3⟩
/-- element i -/
theorem RdN.elem {A : Option Addr} {cap : Nat} (h : RdN N w S (.slice A xs.length cap) xs) (i : Nat) (hi : i < xs.length) :
    ∃ g o, A = some ⟨g, o, none⟩ ∧ S g ∧ ∃ es : List Value, es.length = N.sz ∧ (∀ j u, es[j]? = some u → w.cell? ⟨g, o + i * N.sz + j, none⟩ = some u) ∧ N.R w S es.toArray xs[i] := by
  obtain ⟨A', cap', h1, h2, h3, h4⟩ := h
  injection h1 with h1 _ _
  subst h1
  obtain ⟨g, o, h5, h6, h7⟩ := h4 (by omega)
  exact ⟨g, o, h5, h6, h7 i hi⟩
theorem RdN.nil (N : NR α) (w : World) (S : Nat → Prop) : RdN N w S (.slice none 0 0) [] := ⟨none, 0, rfl, Nat.le_refl _, by simp, fun h => absurd h (by simp)⟩
end
theorem flatN_at {sz : Nat} (CS : List (List Value)) (h : ∀ es ∈ CS, es.length = sz) (i : Nat) (es : List Value) (hi : CS[i]? = some es) (j : Nat) (hj : j < sz) : CS.flatten[i * sz + j]? = es[j]? := by
  induction CS generalizing i with
  | nil => simp at hi
  | cons x r ih =>
    have hl := h x (by simp)
    cases i with
    | zero =>
      simp at hi
      subst hi
      simp only [Nat.zero_mul, Nat.zero_add, List.flatten_cons]
      rw [List.getElem?_append_left (by omega)]
    | succ i =>
      simp only [List.flatten_cons]
      rw [List.getElem?_append_right (by rw [hl, Nat.add_mul]; omega), hl, ← ih (fun y hy => h y (by simp [hy])) i (by simpa using hi)]
      congr 1
      rw [Nat.add_mul]
      omega
theorem flatN_length {sz : Nat} (CS : List (List Value)) (h : ∀ es ∈ CS, es.length = sz) : CS.flatten.length = CS.length * sz := by
  induction CS with
  | nil => simp
  | cons x r ih =>
    simp only [List.flatten_cons, List.length_append, List.length_cons, h x (by simp), ih (fun y hy => h y (by simp [hy])), Nat.add_mul]
    omega
/-- the first of the elements of a row have been filled in -/
structure FillN {α : Type} (N : NR α) (w : World) (g e : Nat) (S : Nat → Prop) (xs : List α) (CS : List (List Value)) (m : Nat) : Prop where
  fill : Fill w g e CS.flatten m
  rel : ∀ (i : Nat) (es : List Value) (x : α), CS[i]? = some es → xs[i]? = some x → es.length = N.sz ∧ N.R w S es.toArray x
  lens : ∀ es ∈ CS, es.length = N.sz
section
variable {α : Type} {N : NR α} {w w' : World} {g e m : Nat} {S : Nat → Prop} {xs : List α} {CS : List (List Value)}
theorem FillN.ext (h : FillN N w g e S xs CS m) (x : Ext w w') : FillN N w' g e S xs CS m := ⟨h.fill.ext x, fun i es y h1 h2 => ⟨(h.rel i es y h1 h2).1, N.ext (h.rel i es y h1 h2).2 x⟩, h.lens⟩
theorem FillN.next (h : FillN N w g e S xs CS m) {cs : Array Value} {x : α} {m' : Nat} (hx : xs[CS.length]? = some x) (hR : N.R w S cs x) (hS : ∀ q, S q → q ≠ g) (row : Array Value) (hf : Fill (w.setRow g row) g e (CS.flatten ++ cs.toList) m') : FillN N (w.setRow g row) g e S xs (CS ++ [cs.toList]) m' := by
  have keep : ∀ q, S q → (w.setRow g row).heap[q]? = w.heap[q]? := fun q hq => setRow_other w g q row (hS q hq)
  have hsz := (N.st hR).size
  refine ⟨by simpa using hf, fun i es y h1 h2 => ?_, fun es hes => ?_⟩
  · rcases Nat.lt_trichotomy i CS.length with hlt | rfl | hgt
    · rw [List.getElem?_append_left hlt] at h1
      obtain ⟨h3, h4⟩ := h.rel i es y h1 h2
      exact ⟨h3, N.keep h4 keep⟩
    · rw [hx] at h2
      injection h2 with h2
      subst h2
      rw [List.getElem?_append_right (Nat.le_refl _), Nat.sub_self] at h1
      simp at h1
      subst h1
      exact ⟨by rw [Array.length_toList, hsz], by simpa using N.keep hR keep⟩
    · rw [List.getElem?_eq_none (by simp; omega)] at h1
      cases h1
  · rcases List.mem_append.1 hes with hes | hes
    · exact h.lens es hes
    · simp at hes; subst hes; rw [Array.length_toList, hsz]
theorem FillN.done (h : FillN N w g e S xs CS 0) (hl : CS.length = xs.length) (h47 : xs.length ≤ 140737488355328) (S' : Nat → Prop) (hS : ∀ q, S q → S' q) (hg : S' g) : RdN N w S' (.slice (some ⟨g, 0, none⟩) xs.length xs.length) xs := by
  refine ⟨_, _, rfl, Nat.le_refl _, h47, fun hn => ⟨g, 0, rfl, hg, fun i hi => ?_⟩⟩
  have hi' : i < CS.length := by omega
  obtain ⟨h1, h2⟩ := h.rel i CS[i] xs[i] (List.getElem?_eq_getElem hi') (List.getElem?_eq_getElem hi)
  refine ⟨CS[i], h1, fun j u hu => ?_, N.mono h2 hS⟩
  have hj : j < N.sz := by rw [← h1]; exact (List.getElem?_eq_some_iff.1 hu).1
  rw [Nat.zero_add, h.fill.done.cell, List.getElem?_toArray, flatN_at CS h.lens i _ (List.getElem?_eq_getElem hi') j hj, hu]
end
/-- a whole struct or array is stored into the variable that has just been made, its place as the walk shows it -/
theorem wpl_storeNewG {P : Program} {ops : Array Oper} {rest : List Oper} {o : Oper} {a : Act} {w : World} {Q : Exit → Act → World → Prop} {t e n g : Nat} {cs cur : Array Value} (hg : w.heap.size = g) (ht : Agg P t n) (hs : St n cs) (hl : cur.size = n) (hgd : o.guard = none) (x y : Operand) (ho : o.op = .store t x y) (hx : a.eval x = .pointer (some ⟨g, 0, none⟩))
    (hy : a.eval y = .agg cs) (hd : o.dst = none) (h : wpList P ops Q rest a (w.alloc (.cells cs e))) : wpList P ops Q (o :: rest) a (w.alloc (.cells cur e)) := by
  subst hg
  exact wpl_storeNewB ht hs hl hgd x y ho hx hy hd h
/-- all elements of two lists are the same -/
def allSame {α : Type} (f : α → α → Bool) : List α → List α → Bool
  | [], [] => true
  | x :: xs, y :: ys => f x y && allSame f xs ys
  | _, _ => false
theorem allSame_len {α : Type} {f : α → α → Bool} : ∀ {xs ys : List α}, xs.length ≠ ys.length → allSame f xs ys = false
  | [], [], h => absurd rfl h
  | [], y :: ys, _ => rfl
  | x :: xs, [], _ => rfl
  | x :: xs, y :: ys, h => by
    rw [allSame, allSame_len (fun e => h (by simp [e]))]
    simp
theorem allSame_yes {α : Type} {f : α → α → Bool} : ∀ {xs ys : List α}, xs.length = ys.length → (∀ i (h : i < xs.length) (h' : i < ys.length), f xs[i] ys[i] = true) → allSame f xs ys = true
  | [], [], _, _ => rfl
  | x :: xs, y :: ys, h, k => by
    rw [allSame, allSame_yes (by simpa using h) (fun i h1 h2 => by have := k (i + 1) (by simpa using h1) (by simpa using h2); simpa using this)]
    have := k 0 (by simp) (by simp)
    simpa using this
theorem allSame_no {α : Type} {f : α → α → Bool} : ∀ {xs ys : List α} (i : Nat) (h : i < xs.length) (h' : i < ys.length), f xs[i] ys[i] = false → allSame f xs ys = false
  | x :: xs, y :: ys, 0, _, _, k => by
    rw [allSame]
    have : f x y = false := by simpa using k
    rw [this]
    rfl
  | x :: xs, y :: ys, i + 1, h, h', k => by
    rw [allSame, allSame_no i (by simpa using h) (by simpa using h') (by simpa using k)]
    simp
/-- what the elements weigh, the first k of them -/
def sumW {α : Type} (f : α → Nat) (l : List α) (k : Nat) : Nat := ((l.take k).map f).sum
theorem sumW_zero {α : Type} (f : α → Nat) (l : List α) : sumW f l 0 = 0 := by simp [sumW]
theorem sumW_succ {α : Type} (f : α → Nat) (l : List α) (k : Nat) (h : k < l.length) : sumW f l (k + 1) = sumW f l k + f l[k] := by
  unfold sumW
  rw [List.take_succ_eq_append_getElem h, List.map_append, List.sum_append]; simp
theorem sumW_le {α : Type} (f : α → Nat) (l : List α) (k : Nat) : sumW f l k ≤ (l.map f).sum := by
  unfold sumW
  conv => rhs; rw [← List.take_append_drop k l, List.map_append, List.sum_append]
  omega
theorem sumW_mem {α : Type} (f : α → Nat) (l : List α) (x : α) (h : x ∈ l) : f x ≤ (l.map f).sum := by
  induction l with
  | nil => cases h
  | cons y r ih =>
    simp only [List.map_cons, List.sum_cons]
    rcases List.mem_cons.1 h with rfl | h
    · omega
    · have := ih h; omega
/-- how much a list takes -/
@[irreducible] def szW {α : Type} (f : α → Nat) (l : List α) : Nat := l.length + (l.map f).sum
theorem szW_eq {α : Type} (f : α → Nat) (l : List α) : szW f l = l.length + (l.map f).sum := by rw [szW]
theorem szW_mem {α : Type} (f : α → Nat) (l : List α) (x : α) (h : x ∈ l) : f x ≤ szW f l := by rw [szW_eq]; have := sumW_mem f l x h; omega
end Go.Proofs.Ytnklgkmpcochfaa
/- The key of a pack. No condition. -/
namespace Go.Proofs.Ytnklgkmpcochfaa
open Go.RowKit
set_option linter.unusedVariables false
set_option linter.unusedSimpArgs false

def packR (xs : List Int) : List Int × Int := if xs.length ≤ 140000 then (hashL 8 xs, 0) else (List.replicate 32 0, 3)
theorem packR_ok (xs : List Int) : K32 (packR xs).1 := by unfold packR; split; exact hashL_ok _ _; exact zero_ok
end Go.Proofs.Ytnklgkmpcochfaa
/- Blobs: what the laws, the reference and the program say of one. No condition. -/
namespace Go.Proofs.Ytnklgkmpcochfaa
open Go.RowKit
set_option linter.unusedVariables false
set_option linter.unusedSimpArgs false


set_option maxHeartbeats 400000 in
theorem szBlob_any (t : Int) (A : Option Addr) (n c : Nat) (l : Int) (hn : (n : Int) ≤ 140737488355328) (h0 : -1 ≤ l) (h1 : l ≤ 1048576) (w : World) :
    Calls Try.prog 55 #[.agg #[.int .u8 t, .slice A n c], .int .i64 l] w fun e w' => e = .returned (.int .i64 (if l - n < 0 then -1 else l - n)) ∧ Ext w w' := by
  have hc := fun W => szByteS_any A n c l hn h0 h1 W
  by_cases h : l - (n : Int) < 0
  · simp only [if_pos h] at hc ⊢
    go_enter Try.func55, Try.ntmps55
    go_wp2_with (go_at_call 89; refine (hc _).mono ?_; rintro e w' ⟨rfl, rfl⟩)
    go_ret
    exact ⟨rfl, ext_alloc _ _⟩
  · simp only [if_neg h] at hc ⊢
    go_enter Try.func55, Try.ntmps55
    go_wp2_with (go_at_call 89; refine (hc _).mono ?_; rintro e w' ⟨rfl, rfl⟩)
    go_ret
    exact ⟨rfl, ext_alloc _ _⟩

set_option maxHeartbeats 400000 in
theorem toBlob_any (t : Int) (v : Value) (xs : List Int) (w : World) (S : Nat → Prop) (h : RdL tByte w S v xs) :
    Calls Try.prog 59 #[.agg #[.int .u8 t, v]] w fun e w' => ∃ v', e = .returned (.agg #[.int .u8 t, v']) ∧ Own tByte 5 w' w.heap.size v' xs ∧ Ext w w' := by
  go_enter Try.func59, Try.ntmps59
  go_wp2_with fail
  refine (toByteS_any v xs _ S (h.ext (by decide) (((ext_alloc w _).alloc _).alloc _))).mono ?_
  rintro e w1 ⟨v', rfl, ho, hx⟩
  obtain ⟨A', c', rfl⟩ := ho.shape
  have c0 : w1.cell? ⟨w.heap.size + 1 + 1, 0, none⟩ = some (.int .u8 t) := hx.cell (by go_simp)
  have c1 : w1.cell? ⟨w.heap.size + 1 + 1, 1, none⟩ = some (.slice none 0 0) := hx.cell (by go_simp)
  have f1 : w1.frozen? ⟨w.heap.size + 1 + 1, 1, none⟩ = false := hx.free (by simp) (by go_simp)
  have d0 : w1.cell? ⟨w.heap.size + 1, 0, none⟩ = some (.int .u8 0) := hx.cell (by go_simp)
  have d1 : w1.cell? ⟨w.heap.size + 1, 1, none⟩ = some (.slice none 0 0) := hx.cell (by go_simp)
  have e0 : w1.frozen? ⟨w.heap.size + 1, 0, none⟩ = false := hx.free (by simp) (by go_simp)
  have e1 : w1.frozen? ⟨w.heap.size + 1, 1, none⟩ = false := hx.free (by simp) (by go_simp)
  have Ho := Lib.hid ho
  have Hx := Lib.hid hx
  clear ho hx
  go_wp2_with fail
  refine bodyPost_ret (v := .agg #[.int .u8 t, .slice A' xs.length c']) (by simp [results, Try.results59, go_sem, c0, c1, d0, d1, f1, e0, e1]) rfl ?_
  exact ⟨_, rfl, (((Ho.out.set_below (by simp) _).set_below (by simp) _).set_below (by simp) _).le (by simp; omega),
    (((((ext_alloc w _).alloc _).alloc _).trans Hx.out).set (by simp; omega) _ |>.set (by simp) _).set (by simp) _⟩

set_option maxHeartbeats 400000 in
theorem eqBlob_any (t u : Int) (v v' : Value) (xs ys : List Int) (w : World) (S S' : Nat → Prop) (h : RdL tByte w S v xs) (h' : RdL tByte w S' v' ys) :
    Calls Try.prog 66 #[.agg #[.int .u8 t, v], .agg #[.int .u8 u, v']] w fun e w' => e = .returned (.bool (t == u && xs == ys)) ∧ Ext w w' := by
  obtain ⟨A, cap, rfl, _, _⟩ := id h
  obtain ⟨A', cap', rfl, _, _⟩ := id h'
  have H := Lib.hid h
  have H' := Lib.hid h'
  clear h h'
  have hc := fun a b => eqByteS_any _ _ xs ys ((w.alloc a).alloc b) S S' (H.out.ext (by decide) ((ext_alloc w a).alloc b)) (H'.out.ext (by decide) ((ext_alloc w a).alloc b))
  generalize (xs == ys) = q at hc ⊢
  have HC := Lib.hid hc
  clear hc
  by_cases ht : t = u
  · subst ht
    have hne : (t != t) = false := by simp
    have hp : (t == t && q) = q := by simp
    rw [hp]
    clear hp
    go_enter Try.func66, Try.ntmps66
    go_wp2_with fail
    refine (HC.out _ _).mono ?_
    rintro e w1 ⟨rfl, hD⟩
    have HD := Lib.hid hD
    clear hD
    cases q
    all_goals
      go_wp2_with fail
      go_ret
      exact ⟨rfl, ((ext_alloc w _).alloc _).trans HD.out.ext⟩
  · have hne : (t != u) = true := by simpa using ht
    have hp : (t == u && q) = false := by simp [ht]
    rw [hp]
    clear hp ht
    go_enter Try.func66, Try.ntmps66
    go_wp2_with fail
    go_ret
    exact ⟨rfl, (ext_alloc w _).alloc _⟩

/-! ### a valid blob -/
set_option maxHeartbeats 400000 in
theorem implValidBlob_any (t : Int) (A : Option Addr) (n c : Nat) (w : World) :
    Calls Try.prog 34 #[.agg #[.int .u8 t, .slice A n c]] w fun e w' => e = .returned (.bool (decide (n ≤ 1024))) ∧ Ext w w' := by
  go_enter Try.func34, Try.ntmps34
  go_wp2
  go_ret
  exact ⟨ret_bool (by simp; omega), ext_alloc _ _⟩

end Go.Proofs.Ytnklgkmpcochfaa
/- The key of a blob. No condition. -/
namespace Go.Proofs.Ytnklgkmpcochfaa
open Go.RowKit
set_option linter.unusedVariables false
set_option linter.unusedSimpArgs false

def blobKR (t : Int) (xs : List Int) : List Int × Int := if xs.length ≤ 1024 then (hashL t xs, 0) else (List.replicate 32 0, 1)
theorem blobKR_ok (t : Int) (xs : List Int) : K32 (blobKR t xs).1 := by unfold blobKR; split; exact hashL_ok _ _; exact zero_ok
set_option maxHeartbeats 1000000 in
set_option maxRecDepth 100000 in
theorem l05Key_any (t : Int) (ht : 0 ≤ t ∧ t ≤ 255) (v : Value) (xs : List Int) (w : World) (S : Nat → Prop) (h : RdL tByte w S v xs) (hl : xs.length ≤ 1024) (b : Nat) (c0 : w.cell? ⟨b, 0, none⟩ = some (.int .u8 t)) (c1 : w.cell? ⟨b, 1, none⟩ = some v) :
    Calls Try.prog 57 #[.pointer (some ⟨b, 0, none⟩)] w fun e w' => e = .returned (.agg (numsA .u8 (hashL t xs))) ∧ Ext w w' := by
  have hk := (hashL_ok t xs).1
  have H := Lib.hid h
  obtain ⟨A, cap, rfl, hcap, hlen, _, _⟩ := h
  have hlt : b < w.heap.size := World.block_lt_of_cell? w _ c0
  go_enter Try.func57, Try.ntmps57
  go_wp2_with fail
  have hsz := sizeN (k := .u8) hk
  go_region_law (go_simp; go_at_call 90; refine (l01Hash_any t ht _ xs _ S (H.out.ext (by decide) ((ext_alloc _ _).drewN 1)) (by omega)).mono ?_; rintro e p1 ⟨rfl, hx⟩; have HB := Lib.hid (((Blk.new w 53 _).drewN 1).ext hx); have HX := Lib.hid (((ext_alloc w _).drewN 1).trans hx); clear hx; have hst := run_storeN (k := .u8) Try.prog HB.out hk rfl)
  all_goals
    go_wp2_with fail
    refine bodyPost_ret (results_blk rfl _ rfl aggKey hk (HB.out.setRow _)) rfl ?_
    exact ⟨rfl, HX.out.setRow (Nat.le_refl _) _⟩
set_option maxHeartbeats 1000000 in
set_option maxRecDepth 100000 in
theorem l05Blob_any (A : Option Addr) (n cap : Nat) (w : World) (b : Nat) (c1 : w.cell? ⟨b, 1, none⟩ = some (.slice A n cap)) :
    Calls Try.prog 56 #[.pointer (some ⟨b, 0, none⟩)] w fun e w' => e = .returned (.bool (decide (n ≤ 1024))) ∧ w = w' := by
  go_enter Try.func56, Try.ntmps56
  go_wp2
  go_ret
  exact ⟨ret_bool (by simp; omega), rfl⟩
set_option maxHeartbeats 1000000 in
set_option maxRecDepth 100000 in
theorem blobKey_any (t : Int) (ht : 0 ≤ t ∧ t ≤ 255) (v : Value) (xs : List Int) (w : World) (S : Nat → Prop) (h : RdL tByte w S v xs) (hl : xs.length ≤ 1024) :
    Calls Try.prog 61 #[.agg #[.int .u8 t, v]] w fun e w' => e = .returned (.agg (numsA .u8 (hashL t xs))) ∧ Ext w w' := by
  have hk := (hashL_ok t xs).1
  have H := Lib.hid h
  obtain ⟨A, cap, rfl, hcap, hlen, _, _⟩ := h
  go_enter Try.func61, Try.ntmps61
  go_wp2_with fail
  refine (hash_any t ht _ xs _ S (H.out.ext (by decide) ((ext_alloc _ _).alloc _)) (by omega)).mono ?_
  rintro e w1 ⟨rfl, hx⟩
  have HB := Lib.hid ((Blk.new' (g := w.heap.size + 1) (w := w.alloc _) (by simp) 53 _).ext hx)
  have HX := Lib.hid (((ext_alloc w _).alloc _).trans hx)
  clear hx
  go_wp2_with (refine wpl_storeN HB.out aggKey hk rfl rfl _ _ rfl rfl rfl rfl ?_)
  refine bodyPost_ret (results_blk rfl _ rfl aggKey hk (HB.out.setRow _)) rfl ?_
  exact ⟨rfl, HX.out.setRow (by omega) _⟩
end Go.Proofs.Ytnklgkmpcochfaa
/- Blobs, in the words of the laws' walks. No condition. -/
namespace Go.Proofs.Ytnklgkmpcochfaa
open Go.RowKit
set_option linter.unusedVariables false
set_option linter.unusedSimpArgs false

theorem aggBlobL : Agg Try.prog 102 2 := Agg.mkS (fs := _) Try.underlying102 (by kernel_rfl)
theorem aggBlobI : Agg Try.prog 68 2 := Agg.mkS (fs := _) Try.underlying68 (by kernel_rfl)
/-- the cells of a blob -/
def RBlob (w : World) (S : Nat → Prop) (cs : Array Value) (x : Int × List Int) : Prop := ∃ v, cs = #[.int .u8 x.1, v] ∧ RdL tByte w S v x.2 ∧ 0 ≤ x.1 ∧ x.1 ≤ 255
section
variable {w w' : World} {S : Nat → Prop} {cs : Array Value} {x : Int × List Int}
theorem RBlob.ext (h : RBlob w S cs x) (e : Ext w w') : RBlob w' S cs x := by
  obtain ⟨v, h1, h2, h3⟩ := h
  exact ⟨v, h1, h2.ext (by decide) e, h3⟩
theorem RBlob.st (h : RBlob w S cs x) : St 2 cs := by
  obtain ⟨v, rfl, ⟨A, cap, rfl, _⟩, _⟩ := h
  exact ⟨rfl, fun u hu => by simp at hu; rcases hu with rfl | rfl <;> rfl⟩
end
set_option maxHeartbeats 1000000 in
set_option maxRecDepth 100000 in
theorem szBlob_u (cs : Array Value) (x : Int × List Int) (l : Int) (w : World) (S : Nat → Prop) (h : RBlob w S cs x) (h0 : -1 ≤ l) (h1 : l ≤ 1048576) :
    Calls Try.prog 55 #[.agg cs, .int .i64 l] w fun e w' => e = .returned (.int .i64 (if l - x.2.length < 0 then -1 else l - x.2.length)) ∧ Ext w w' := by
  obtain ⟨v, rfl, ⟨A, cap, rfl, hc, hl, _⟩, _⟩ := h
  exact szBlob_any x.1 A x.2.length cap l (by omega) h0 h1 w
set_option maxHeartbeats 1000000 in
set_option maxRecDepth 100000 in
theorem toBlob_u (cs : Array Value) (x : Int × List Int) (w : World) (S : Nat → Prop) (h : RBlob w S cs x) :
    Calls Try.prog 59 #[.agg cs] w fun e w' => ∃ cs', e = .returned (.agg cs') ∧ RBlob w' (fun g => w.heap.size ≤ g ∧ g < w'.heap.size) cs' x ∧ Ext w w' := by
  obtain ⟨v, rfl, hr, h3⟩ := h
  refine (toBlob_any x.1 v x.2 w S hr).mono ?_
  rintro e w' ⟨v', rfl, ho, hx⟩
  exact ⟨_, rfl, ⟨v', rfl, ho.rd, h3⟩, hx⟩
set_option maxHeartbeats 1000000 in
set_option maxRecDepth 100000 in
theorem eqBlob_u (cs cs' : Array Value) (x : Int × List Int) (w : World) (S S' : Nat → Prop) (h : RBlob w S cs x) (h' : RBlob w S' cs' x) :
    Calls Try.prog 66 #[.agg cs, .agg cs'] w fun e w' => e = .returned (.bool true) ∧ Ext w w' := by
  obtain ⟨v, rfl, hr, h3⟩ := h
  obtain ⟨v', rfl, hr', h3'⟩ := h'
  refine (eqBlob_any x.1 x.1 v v' x.2 x.2 w S S' hr hr').mono ?_
  rintro e w' ⟨rfl, hx⟩
  exact ⟨by simp, hx⟩
end Go.Proofs.Ytnklgkmpcochfaa
