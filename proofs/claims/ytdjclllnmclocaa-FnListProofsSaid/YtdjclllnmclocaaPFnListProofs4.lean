/- What the walk of the law FnListProofs needs, part 4 of 5. No condition. -/
import Derived.BigFrame
import Derived.Test.YtdjclllnmclocaaPFnListProofs3
/- Two pairs of keys with one key: the reference and the program. No condition. -/
namespace Go.Proofs.Ytdjclllnmclocaa
open Go.RowKit Go.BigFrame
set_option linter.unusedVariables false
set_option linter.unusedSimpArgs false

theorem aggClash : Agg Try.prog 62 128 := Agg.mkS (fs := _) Try.underlying62 (by kernel_rfl)
theorem quad_cell (P M R : List Int) {W : World} {g e : Nat} {xs : List Int} (hx : xs = P ++ M ++ R) (h : Blk W g e (numsA .u8 xs)) {o : Nat} (ho : P.length = o) : ∀ j u, (tKey.enc M)[j]? = some u → W.cell? ⟨g, o + j, none⟩ = some u := by
  intro j u hu
  subst hx ho
  have hu' : (nums .u8 M)[j]? = some u := hu
  rw [h.cell]
  have hj : j < M.length := by have := (List.getElem?_eq_some_iff.1 hu').1; rwa [nums_length] at this
  simp only [numsA, nums, List.getElem?_toArray, List.map_append, List.append_assoc]
  rw [List.getElem?_append_right (by simp), List.length_map, Nat.add_sub_cancel_left, List.getElem?_append_left (by simpa using hj)]
  exact hu'
theorem wpl_loadW {P : Program} {ops : Array Oper} {rest : List Oper} {o : Oper} {a : Act} {w : World} {Q : Exit → Act → World → Prop} {t : Nat} (g off : Nat) (cs : List Value) (ht : Agg P t cs.length) (hc : ∀ j u, cs[j]? = some u → w.cell? ⟨g, off + j, none⟩ = some u) (hw : Region.wanted o (yielded ops a.tmps) = true) (x : Operand) (ho : o.op = .load t x) (hx : a.eval x = .pointer (some ⟨g, off, none⟩))
    (h : wpList P ops Q rest (a.put o.dst (.agg cs.toArray)) w) : wpList P ops Q (o :: rest) a w := by
  have hl := run_loadVar_at (P := P) (w := w) (t := t) ⟨g, off, none⟩ cs ht (fun j u hu => by rw [Addr.add_lit]; exact hc j u hu)
  refine wpList_want hw fun K hK => ?_
  unfold Oper.wp execOp
  simp only [ho, hx, Instr.loadAt, Instr.sureAddr, Sem.run_bind, Sem.run_pure, Result.andThen_ok, hl]
  exact hK _ _ h
theorem wpl_loadKW {ops : Array Oper} {rest : List Oper} {o : Oper} {a : Act} {w : World} {Q : Exit → Act → World → Prop} (g off : Nat) (M : List Int) (hM : K32 M) (hc : ∀ j u, (tKey.enc M)[j]? = some u → w.cell? ⟨g, off + j, none⟩ = some u) (hw : Region.wanted o (yielded ops a.tmps) = true) (x : Operand) (ho : o.op = .load 28 x) (hx : a.eval x = .pointer (some ⟨g, off, none⟩))
    (h : wpList Try.prog ops Q rest (a.put o.dst (.agg (numsA .u8 M))) w) : wpList Try.prog ops Q (o :: rest) a w :=
  wpl_loadW g off (nums .u8 M) (by rw [nums_length, hM.1]; exact aggKey) hc hw x ho hx h
set_option maxHeartbeats 1000000 in
set_option maxRecDepth 100000 in
theorem l01Pair_any (t : Int) (ht : 0 ≤ t ∧ t ≤ 255) (a b : List Int) (ha : K32 a) (hb : K32 b) (w : World) :
    Calls Try.prog 96 #[.int .u8 t, .agg (numsA .u8 a), .agg (numsA .u8 b)] w fun q w' => q = .returned (.agg (numsA .u8 (hashL t (a ++ b)))) ∧ Ext w w' := by
  have HA := Lib.hid ha
  have HB := Lib.hid hb
  have HK := Lib.hid (hashL_ok t (a ++ b))
  have hsa := sizeN (k := .u8) ha.1
  have hsb := sizeN (k := .u8) hb.1
  have hzA : (Try.prog.info? 28).map (·.zero) = some (some (.agg (numsA .u8 (List.replicate 32 0)))) := by kernel_rfl
  have hzs : (numsA .u8 (List.replicate 32 0)).size = 32 := by simp [numsA, nums]
  generalize numsA .u8 (List.replicate 32 0) = Z at hzA hzs
  have HZS := Lib.hid hzs
  have BA := Lib.hid (((Blk.new w 28 (numsA .u8 a)).alloc (.cells (numsA .u8 b) 28)).alloc (.cells Z 28))
  have BB := Lib.hid ((Blk.new' (g := w.heap.size + 1) (w := w.alloc (.cells (numsA .u8 a) 28)) (by simp) 28 (numsA .u8 b)).alloc (.cells Z 28))
  have BR := Lib.hid (Blk.new' (g := w.heap.size + 2) (w := (w.alloc (.cells (numsA .u8 a) 28)).alloc (.cells (numsA .u8 b) 28)) (by simp) 28 Z)
  have HX := Lib.hid (((ext_alloc w (.cells (numsA .u8 a) 28)).alloc (.cells (numsA .u8 b) 28)).alloc (.cells Z 28))
  have HS3 := Lib.hid (show (((w.alloc (.cells (numsA .u8 a) 28)).alloc (.cells (numsA .u8 b) 28)).alloc (.cells Z 28)).heap.size = w.heap.size + 3 by simp)
  clear ha hb hzs
  go_enter Try.func96, Try.ntmps96
  go_wp2_with (refine wpl_alloc Z hzA rfl rfl ?_)
  generalize ((w.alloc (.cells (numsA .u8 a) 28)).alloc (.cells (numsA .u8 b) 28)).alloc (.cells Z 28) = w3 at BA BB BR HX HS3 ⊢
  clear hzA
  go_loopw [7, 8] (fun o i wr => ∃ k : Nat, k ≤ 32 ∧ i = .int .i64 k ∧ Own tByte 5 wr w3.heap.size o (a.take k) ∧ Ext w3 wr) (fun _ i _ => 32 - (intOf i).toNat)
  case atStart => exact ⟨0, by omega, rfl, by rw [List.take_zero]; exact Own.empty' tByte (by rw [HS3.out]) _ _ (Nat.le_refl _), ext_alloc _ _⟩
  case round =>
    obtain ⟨k, hk, rfl, ho, hx⟩ := hrel
    have HO1 := Lib.hid ho
    have HXW := Lib.hid hx
    obtain ⟨C, cn, cc, rfl⟩ := ho.shape3
    clear ho hx
    by_cases hlt : k < 32
    · have hd : wr.cell? ⟨w.heap.size, k, none⟩ = some (.int .u8 (gI a k)) := (BA.out.ext HXW.out).num k (by rw [HA.out.1]; exact hlt)
      have hu := HA.out.2.get k
      have HS2 := Lib.hid (take_snoc a k (by rw [HA.out.1]; exact hlt))
      go_wp2_with (at_builtin; refine wpl_append rowByte rfl _ _ rfl (v := .slice C cn cc) rfl (HO1.out.alloc _) _ _ rfl (A := some ⟨wr.heap.size, 0, none⟩) (ys := [gI a k]) rfl (rd_byte wr (gI a k) hu _) (okOne hu) (by simp; omega) (HXW.out.alloc _).size ?_; intro v9 w9 ho1 hg1 hat1; have HX9 := Lib.hid ((HO1.out.alloc _).ext_app (HXW.out.alloc _) hg1); have HO9 := Lib.hid ho1; clear ho1 hg1 hat1)
      go_roundw
      case rel => exact ⟨k + 1, by omega, by go_num, by rw [HS2.out]; exact HO9.out, HX9.out⟩
      case measure => simp [intOf]; omega
    · obtain rfl : k = 32 := by omega
      have e : a.take 32 = a := List.take_of_length_le (by rw [HA.out.1]; exact Nat.le_refl _)
      rw [e] at HO1
      clear e
      simp only [Int.cast_ofNat_Int]
      go_wp2_with fail
      go_loopw [7, 9] (fun o i wr => ∃ k : Nat, k ≤ 32 ∧ i = .int .i64 k ∧ Own tByte 5 wr w3.heap.size o (a ++ b.take k) ∧ Ext w3 wr) (fun _ i _ => 32 - (intOf i).toNat)
      case atStart => exact ⟨0, by omega, rfl, by rw [List.take_zero, List.append_nil]; exact HO1.out, HXW.out⟩
      case round =>
        clear HO1 HXW hlt hk
        obtain ⟨k, hk, rfl, ho, hx⟩ := hrel
        have HO1 := Lib.hid ho
        have HXW := Lib.hid hx
        obtain ⟨D, dn, dc, rfl⟩ := ho.shape3
        clear ho hx
        by_cases hlt : k < 32
        · have hd : wr.cell? ⟨w.heap.size + 1, k, none⟩ = some (.int .u8 (gI b k)) := (BB.out.ext HXW.out).num k (by rw [HB.out.1]; exact hlt)
          have hu := HB.out.2.get k
          have HS2 := Lib.hid (take_snoc b k (by rw [HB.out.1]; exact hlt))
          go_wp2_with (at_builtin; refine wpl_append rowByte rfl _ _ rfl (v := .slice D dn dc) rfl (HO1.out.alloc _) _ _ rfl (A := some ⟨wr.heap.size, 0, none⟩) (ys := [gI b k]) rfl (rd_byte wr (gI b k) hu _) (okOne hu) (by simp [HA.out.1]; omega) (HXW.out.alloc _).size ?_; intro v9 w9 ho1 hg1 hat1; have HX9 := Lib.hid ((HO1.out.alloc _).ext_app (HXW.out.alloc _) hg1); have HO9 := Lib.hid ho1; clear ho1 hg1 hat1)
          go_roundw
          case rel => exact ⟨k + 1, by omega, by go_num, by rw [HS2.out, ← List.append_assoc]; exact HO9.out, HX9.out⟩
          case measure => simp [intOf]; omega
        · obtain rfl : k = 32 := by omega
          have e : b.take 32 = b := List.take_of_length_le (by rw [HB.out.1]; exact Nat.le_refl _)
          rw [e] at HO1
          clear e
          simp only [Int.cast_ofNat_Int]
          go_wp2_with fail
          refine (l01Hash_any t ht _ (a ++ b) wr _ HO1.out.rd (by rw [List.length_append, HA.out.1, HB.out.1]; omega)).mono ?_
          rintro e w5 ⟨rfl, hx⟩
          have BR5 := Lib.hid ((BR.out.ext HXW.out).ext hx)
          have HX5 := Lib.hid ((HX.out.trans HXW.out).trans hx)
          clear hx
          go_wp2_with (refine wpl_storeN BR5.out aggKey HK.out.1 HZS.out rfl _ _ rfl rfl rfl rfl ?_)
          refine bodyPost_ret (results_blk rfl _ rfl aggKey HK.out.1 (BR5.out.setRow _)) rfl ?_
          exact ⟨rfl, HX5.out.setRow (by omega) _⟩
set_option maxHeartbeats 1000000 in
set_option maxRecDepth 100000 in
theorem l03Node_any (a b : List Int) (ha : K32 a) (hb : K32 b) (w : World) :
    Calls Try.prog 74 #[.agg (numsA .u8 a), .agg (numsA .u8 b)] w fun e w' => e = .returned (.agg (numsA .u8 (ndK a b))) ∧ Ext w w' := by
  have HP := Lib.hid (fun W => l01Pair_any 2 (by omega) a b ha hb W)
  have h1 := sizeN (k := .u8) ha.1
  have h2 := sizeN (k := .u8) hb.1
  have HKS := Lib.hid (ndK_ok a b).1
  have e := ndK_eq a b
  rw [← e] at HP
  generalize ndK a b = k at HP HKS ⊢
  clear e ha hb
  have hzA : (Try.prog.info? 28).map (·.zero) = some (some (.agg (numsA .u8 (List.replicate 32 0)))) := by kernel_rfl
  have hzs : (numsA .u8 (List.replicate 32 0)).size = 32 := by simp [numsA, nums]
  generalize numsA .u8 (List.replicate 32 0) = Z at hzA hzs
  have HZS := Lib.hid hzs
  clear hzs
  have BA := Lib.hid (((Blk.new w 28 (numsA .u8 a)).alloc (.cells (numsA .u8 b) 28)).alloc (.cells Z 28))
  have BB := Lib.hid ((Blk.new' (g := w.heap.size + 1) (w := w.alloc (.cells (numsA .u8 a) 28)) (by simp) 28 (numsA .u8 b)).alloc (.cells Z 28))
  go_enter Try.func74, Try.ntmps74
  go_wp2_with (first
    | (refine wpl_alloc Z hzA rfl rfl ?_)
    | (refine wpl_loadB BA.out aggKey h1 rfl _ rfl rfl ?_)
    | (refine wpl_loadB BB.out aggKey h2 rfl _ rfl rfl ?_))
  refine (HP.out _).mono ?_
  rintro e w1 ⟨rfl, hx⟩
  have HX := Lib.hid ((((ext_alloc w (.cells (numsA .u8 a) 28)).alloc (.cells (numsA .u8 b) 28)).alloc (.cells Z 28)).trans hx)
  have BR := Lib.hid ((Blk.new' (g := w.heap.size + 2) (w := (w.alloc (.cells (numsA .u8 a) 28)).alloc (.cells (numsA .u8 b) 28)) (by simp) 28 Z).ext hx)
  clear hx hzA BA BB
  go_wp2_with (refine wpl_storeN BR.out aggKey HKS.out HZS.out rfl _ _ rfl rfl rfl rfl ?_)
  refine bodyPost_ret (results_blk rfl _ rfl aggKey HKS.out (BR.out.setRow _)) rfl ?_
  exact ⟨rfl, HX.out.setRow (by omega) _⟩
set_option maxHeartbeats 4000000 in
set_option maxRecDepth 100000 in
theorem vcI0 (a b c d : List Int) (ha : K32 a) (hb : K32 b) (hc : K32 c) (hd : K32 d) (hu : a ≠ c) (w : World) :
    Calls Try.prog 34 #[.agg (numsA .u8 (a ++ b ++ c ++ d))] w fun q w' => q = .returned (.bool (decide (ndK a b = ndK c d))) ∧ Ext w w' := by
  have HA := Lib.hid ha
  have HB := Lib.hid hb
  have HC := Lib.hid hc
  have HD := Lib.hid hd
  have hn1 := run_neqKey a c ha hc
  have hn2 := run_neqKey b d hb hd
  have heq := run_eqKey (ndK a b) (ndK c d) (ndK_ok a b) (ndK_ok c d)
  rw [decide_eq_false hu] at hn1
  simp only [Bool.not_false] at hn1
  obtain ⟨xs, hxs⟩ : ∃ xs, a ++ b ++ c ++ d = xs := ⟨_, rfl⟩
  have hq : ∀ W g e, Blk W g e (numsA .u8 xs) → (∀ j u, (tKey.enc a)[j]? = some u → W.cell? ⟨g, 0 + j, none⟩ = some u) ∧ (∀ j u, (tKey.enc b)[j]? = some u → W.cell? ⟨g, 32 + j, none⟩ = some u) ∧ (∀ j u, (tKey.enc c)[j]? = some u → W.cell? ⟨g, 64 + j, none⟩ = some u) ∧ (∀ j u, (tKey.enc d)[j]? = some u → W.cell? ⟨g, 96 + j, none⟩ = some u) := by
    intro W g e hW
    refine ⟨quad_cell [] a (b ++ c ++ d) (by rw [← hxs]; simp) hW rfl, quad_cell a b (c ++ d) (by rw [← hxs]; simp) hW ha.1, quad_cell (a ++ b) c d (by rw [← hxs]) hW (by rw [List.length_append, ha.1, hb.1]), quad_cell (a ++ b ++ c) d [] (by rw [← hxs]; simp) hW (by rw [List.length_append, List.length_append, ha.1, hb.1, hc.1])⟩
  have BX := Blk.new w 62 (numsA .u8 xs)
  have HX0 := Lib.hid (ext_alloc w (.cells (numsA .u8 xs) 62))
  generalize hw1 : w.alloc (.cells (numsA .u8 xs) 62) = w1 at BX HX0
  have HQ := Lib.hid (fun W (hW : Ext w1 W) => hq W w.heap.size 62 (BX.ext hW))
  have HW1 := Lib.hid hw1
  have NP := Lib.hid (fun W => nodeKey_any a b ha hb W)
  have NQ := Lib.hid (fun W => nodeKey_any c d hc hd W)
  obtain ⟨R, hR⟩ : ∃ R, decide (ndK a b = ndK c d) = R := ⟨_, rfl⟩
  obtain ⟨x, hx⟩ : ∃ x, ndK a b = x := ⟨_, rfl⟩
  obtain ⟨y, hy⟩ : ∃ y, ndK c d = y := ⟨_, rfl⟩
  rw [hx, hy] at heq hR
  rw [hx] at NP
  rw [hy] at NQ
  rw [hR] at heq
  rw [hxs, hx, hy, hR]
  clear ha hb hc hd hq BX hw1 hxs hx hy hR hu
  go_enter Try.func34, Try.ntmps34
  go_wp2_with fail
  rw [HW1.out]
  clear HW1
  refine wp_region_held_drew (S := fun W => Ext w1 W) (by kernel_rfl) ((Ext.refl w1).drew) (fun hHeld => ?_)
  refine wpAnyH_take (i := 0) (oi := ?oiz1) (v := ?vz1) ?hiz1 (by kernel_rfl) (by kernel_rfl) (by kernel_rfl) ?hQz1 ?hyz1 (by assumption) ?restz1
  case hiz1 => simp only [List.getElem?_toArray, List.getElem?_cons_zero, List.getElem?_cons_succ]; rfl
  case hQz1 => exact fun _ _ _ h => h
  case hyz1 => exact Or.inl ⟨by rfl, by intro w hSw; (try dsimp only at hSw); go_simp; with_reducible rfl⟩
  try simp only [Act.put, List.setIfInBounds_toArray, List.set_cons_zero, List.set_cons_succ]
  refine wpAnyH_take (i := 1) (oi := ?oiz2) (v := (.agg (numsA .u8 a))) ?hiz2 (by kernel_rfl) (by kernel_rfl) (by kernel_rfl) ?hQz2 ?hyz2 (by assumption) ?restz2
  case hiz2 => simp only [List.getElem?_toArray, List.getElem?_cons_zero, List.getElem?_cons_succ]; rfl
  case hQz2 => exact fun _ _ _ h => h
  case hyz2 => refine yields_loadSP w.heap.size 0 (tKey.enc a) (by rw [tKey.len _ HA.out]; exact aggKey) (fun W hW => (HQ.out W hW).1) ?_ _ rfl rfl; rfl
  try simp only [Act.put, List.setIfInBounds_toArray, List.set_cons_zero, List.set_cons_succ]
  refine wpAnyH_take (i := 2) (oi := ?oiz3) (v := ?vz3) ?hiz3 (by kernel_rfl) (by kernel_rfl) (by kernel_rfl) ?hQz3 ?hyz3 (by assumption) ?restz3
  case hiz3 => simp only [List.getElem?_toArray, List.getElem?_cons_zero, List.getElem?_cons_succ]; rfl
  case hQz3 => exact fun _ _ _ h => h
  case hyz3 => exact Or.inl ⟨by rfl, by intro w hSw; (try dsimp only at hSw); go_simp; with_reducible rfl⟩
  try simp only [Act.put, List.setIfInBounds_toArray, List.set_cons_zero, List.set_cons_succ]
  refine wpAnyH_take (i := 3) (oi := ?oiz4) (v := (.agg (numsA .u8 c))) ?hiz4 (by kernel_rfl) (by kernel_rfl) (by kernel_rfl) ?hQz4 ?hyz4 (by assumption) ?restz4
  case hiz4 => simp only [List.getElem?_toArray, List.getElem?_cons_zero, List.getElem?_cons_succ]; rfl
  case hQz4 => exact fun _ _ _ h => h
  case hyz4 => refine yields_loadSP w.heap.size 64 (tKey.enc c) (by rw [tKey.len _ HC.out]; exact aggKey) (fun W hW => (HQ.out W hW).2.2.1) ?_ _ rfl rfl; rfl
  try simp only [Act.put, List.setIfInBounds_toArray, List.set_cons_zero, List.set_cons_succ]
  refine wpAnyH_take (i := 4) (oi := ?oiz5) (v := (.bool true)) ?hiz5 (by kernel_rfl) (by kernel_rfl) (by kernel_rfl) ?hQz5 ?hyz5 (by assumption) ?restz5
  case hiz5 => simp only [List.getElem?_toArray, List.getElem?_cons_zero, List.getElem?_cons_succ]; rfl
  case hQz5 => exact fun _ _ _ h => h
  case hyz5 => exact Or.inl ⟨by rfl, by intro w hSw; (try dsimp only at hSw); go_simp; (try with_reducible rfl)⟩
  try simp only [Act.put, List.setIfInBounds_toArray, List.set_cons_zero, List.set_cons_succ]
  refine wpAnyH_take (i := 5) (oi := ?oiz6) (v := ?vz6) ?hiz6 (by kernel_rfl) (by kernel_rfl) (by kernel_rfl) ?hQz6 ?hyz6 (by assumption) ?restz6
  case hiz6 => simp only [List.getElem?_toArray, List.getElem?_cons_zero, List.getElem?_cons_succ]; rfl
  case hQz6 => exact fun _ _ _ h => h
  case hyz6 => exact Or.inl ⟨by rfl, by intro w hSw; (try dsimp only at hSw); go_simp; with_reducible rfl⟩
  try simp only [Act.put, List.setIfInBounds_toArray, List.set_cons_zero, List.set_cons_succ]
  refine wpAnyH_take (i := 6) (oi := ?oiz7) (v := undef) ?hiz7 (by kernel_rfl) (by kernel_rfl) (by kernel_rfl) ?hQz7 ?hyz7 (by assumption) ?restz7
  case hiz7 => simp only [List.getElem?_toArray, List.getElem?_cons_zero, List.getElem?_cons_succ]; rfl
  case hQz7 => exact fun _ _ _ h => h
  case hyz7 => exact Or.inr ⟨by rfl, by rfl⟩
  try simp only [Act.put, List.setIfInBounds_toArray, List.set_cons_zero, List.set_cons_succ]
  refine wpAnyH_take (i := 7) (oi := ?oiz8) (v := undef) ?hiz8 (by kernel_rfl) (by kernel_rfl) (by kernel_rfl) ?hQz8 ?hyz8 (by assumption) ?restz8
  case hiz8 => simp only [List.getElem?_toArray, List.getElem?_cons_zero, List.getElem?_cons_succ]; rfl
  case hQz8 => exact fun _ _ _ h => h
  case hyz8 => exact Or.inr ⟨by rfl, by rfl⟩
  try simp only [Act.put, List.setIfInBounds_toArray, List.set_cons_zero, List.set_cons_succ]
  refine wpAnyH_take (i := 8) (oi := ?oiz9) (v := undef) ?hiz9 (by kernel_rfl) (by kernel_rfl) (by kernel_rfl) ?hQz9 ?hyz9 (by assumption) ?restz9
  case hiz9 => simp only [List.getElem?_toArray, List.getElem?_cons_zero, List.getElem?_cons_succ]; rfl
  case hQz9 => exact fun _ _ _ h => h
  case hyz9 => exact Or.inr ⟨by rfl, by rfl⟩
  try simp only [Act.put, List.setIfInBounds_toArray, List.set_cons_zero, List.set_cons_succ]
  refine wpAnyH_take (i := 9) (oi := ?oiz10) (v := undef) ?hiz10 (by kernel_rfl) (by kernel_rfl) (by kernel_rfl) ?hQz10 ?hyz10 (by assumption) ?restz10
  case hiz10 => simp only [List.getElem?_toArray, List.getElem?_cons_zero, List.getElem?_cons_succ]; rfl
  case hQz10 => exact fun _ _ _ h => h
  case hyz10 => exact Or.inr ⟨by rfl, by rfl⟩
  try simp only [Act.put, List.setIfInBounds_toArray, List.set_cons_zero, List.set_cons_succ]
  refine wpAnyH_take (i := 10) (oi := ?oiz11) (v := undef) ?hiz11 (by kernel_rfl) (by kernel_rfl) (by kernel_rfl) ?hQz11 ?hyz11 (by assumption) ?restz11
  case hiz11 => simp only [List.getElem?_toArray, List.getElem?_cons_zero, List.getElem?_cons_succ]; rfl
  case hQz11 => exact fun _ _ _ h => h
  case hyz11 => exact Or.inr ⟨by rfl, by rfl⟩
  try simp only [Act.put, List.setIfInBounds_toArray, List.set_cons_zero, List.set_cons_succ]
  refine wpAnyH_take (i := 11) (oi := ?oiz12) (v := ?vz12) ?hiz12 (by kernel_rfl) (by kernel_rfl) (by kernel_rfl) ?hQz12 ?hyz12 (by assumption) ?restz12
  case hiz12 => simp only [List.getElem?_toArray, List.getElem?_cons_zero, List.getElem?_cons_succ]; rfl
  case hQz12 => exact fun _ _ _ h => h
  case hyz12 => exact Or.inl ⟨by rfl, by intro w hSw; (try dsimp only at hSw); go_simp; with_reducible rfl⟩
  try simp only [Act.put, List.setIfInBounds_toArray, List.set_cons_zero, List.set_cons_succ]
  refine wpAnyH_take (i := 12) (oi := ?oiz13) (v := ?vz13) ?hiz13 (by kernel_rfl) (by kernel_rfl) (by kernel_rfl) ?hQz13 ?hyz13 (by assumption) ?restz13
  case hiz13 => simp only [List.getElem?_toArray, List.getElem?_cons_zero, List.getElem?_cons_succ]; rfl
  case hQz13 => exact fun _ _ _ h => h
  case hyz13 => exact Or.inl ⟨by rfl, by intro w hSw; (try dsimp only at hSw); go_simp; with_reducible rfl⟩
  try simp only [Act.put, List.setIfInBounds_toArray, List.set_cons_zero, List.set_cons_succ]
  refine wpAnyH_take (i := 13) (oi := ?oiz14) (v := ?vz14) ?hiz14 (by kernel_rfl) (by kernel_rfl) (by kernel_rfl) ?hQz14 ?hyz14 (by assumption) ?restz14
  case hiz14 => simp only [List.getElem?_toArray, List.getElem?_cons_zero, List.getElem?_cons_succ]; rfl
  case hQz14 => exact fun _ _ _ h => h
  case hyz14 => exact Or.inl ⟨by rfl, by intro w hSw; (try dsimp only at hSw); go_simp; with_reducible rfl⟩
  try simp only [Act.put, List.setIfInBounds_toArray, List.set_cons_zero, List.set_cons_succ]
  refine wpAnyH_take (i := 14) (oi := ?oiz15) (v := (.agg (numsA .u8 a))) ?hiz15 (by kernel_rfl) (by kernel_rfl) (by kernel_rfl) ?hQz15 ?hyz15 (by assumption) ?restz15
  case hiz15 => simp only [List.getElem?_toArray, List.getElem?_cons_zero, List.getElem?_cons_succ]; rfl
  case hQz15 => exact fun _ _ _ h => h
  case hyz15 => refine yields_loadSP w.heap.size 0 (tKey.enc a) (by rw [tKey.len _ HA.out]; exact aggKey) (fun W hW => (HQ.out W hW).1) ?_ _ rfl rfl; rfl
  try simp only [Act.put, List.setIfInBounds_toArray, List.set_cons_zero, List.set_cons_succ]
  refine wpAnyH_take (i := 15) (oi := ?oiz16) (v := ?vz16) ?hiz16 (by kernel_rfl) (by kernel_rfl) (by kernel_rfl) ?hQz16 ?hyz16 (by assumption) ?restz16
  case hiz16 => simp only [List.getElem?_toArray, List.getElem?_cons_zero, List.getElem?_cons_succ]; rfl
  case hQz16 => exact fun _ _ _ h => h
  case hyz16 => exact Or.inl ⟨by rfl, by intro w hSw; (try dsimp only at hSw); go_simp; with_reducible rfl⟩
  try simp only [Act.put, List.setIfInBounds_toArray, List.set_cons_zero, List.set_cons_succ]
  refine wpAnyH_take (i := 16) (oi := ?oiz17) (v := (.agg (numsA .u8 b))) ?hiz17 (by kernel_rfl) (by kernel_rfl) (by kernel_rfl) ?hQz17 ?hyz17 (by assumption) ?restz17
  case hiz17 => simp only [List.getElem?_toArray, List.getElem?_cons_zero, List.getElem?_cons_succ]; rfl
  case hQz17 => exact fun _ _ _ h => h
  case hyz17 => refine yields_loadSP w.heap.size 32 (tKey.enc b) (by rw [tKey.len _ HB.out]; exact aggKey) (fun W hW => (HQ.out W hW).2.1) ?_ _ rfl rfl; rfl
  try simp only [Act.put, List.setIfInBounds_toArray, List.set_cons_zero, List.set_cons_succ]
  refine wpAnyH_take (i := 18) (oi := ?oiz18) (v := ?vz18) ?hiz18 (by kernel_rfl) (by kernel_rfl) (by kernel_rfl) ?hQz18 ?hyz18 (by assumption) ?restz18
  case hiz18 => simp only [List.getElem?_toArray, List.getElem?_cons_zero, List.getElem?_cons_succ]; rfl
  case hQz18 => exact fun _ _ _ h => h
  case hyz18 => exact Or.inl ⟨by rfl, by intro w hSw; (try dsimp only at hSw); go_simp; with_reducible rfl⟩
  try simp only [Act.put, List.setIfInBounds_toArray, List.set_cons_zero, List.set_cons_succ]
  refine wpAnyH_take (i := 19) (oi := ?oiz19) (v := (.agg (numsA .u8 c))) ?hiz19 (by kernel_rfl) (by kernel_rfl) (by kernel_rfl) ?hQz19 ?hyz19 (by assumption) ?restz19
  case hiz19 => simp only [List.getElem?_toArray, List.getElem?_cons_zero, List.getElem?_cons_succ]; rfl
  case hQz19 => exact fun _ _ _ h => h
  case hyz19 => refine yields_loadSP w.heap.size 64 (tKey.enc c) (by rw [tKey.len _ HC.out]; exact aggKey) (fun W hW => (HQ.out W hW).2.2.1) ?_ _ rfl rfl; rfl
  try simp only [Act.put, List.setIfInBounds_toArray, List.set_cons_zero, List.set_cons_succ]
  refine wpAnyH_take (i := 20) (oi := ?oiz20) (v := ?vz20) ?hiz20 (by kernel_rfl) (by kernel_rfl) (by kernel_rfl) ?hQz20 ?hyz20 (by assumption) ?restz20
  case hiz20 => simp only [List.getElem?_toArray, List.getElem?_cons_zero, List.getElem?_cons_succ]; rfl
  case hQz20 => exact fun _ _ _ h => h
  case hyz20 => exact Or.inl ⟨by rfl, by intro w hSw; (try dsimp only at hSw); go_simp; with_reducible rfl⟩
  try simp only [Act.put, List.setIfInBounds_toArray, List.set_cons_zero, List.set_cons_succ]
  refine wpAnyH_take (i := 21) (oi := ?oiz21) (v := (.agg (numsA .u8 d))) ?hiz21 (by kernel_rfl) (by kernel_rfl) (by kernel_rfl) ?hQz21 ?hyz21 (by assumption) ?restz21
  case hiz21 => simp only [List.getElem?_toArray, List.getElem?_cons_zero, List.getElem?_cons_succ]; rfl
  case hQz21 => exact fun _ _ _ h => h
  case hyz21 => refine yields_loadSP w.heap.size 96 (tKey.enc d) (by rw [tKey.len _ HD.out]; exact aggKey) (fun W hW => (HQ.out W hW).2.2.2) ?_ _ rfl rfl; rfl
  try simp only [Act.put, List.setIfInBounds_toArray, List.set_cons_zero, List.set_cons_succ]
  refine wpAnyH_ready (rs := [17]) (by kernel_rfl) (by simp) (AllReadyH.cons (o := ?oy2217) ?hy2217 (fun K hK => ?sy2217) AllReadyH.nil)
  case hy2217 => simp only [List.getElem?_toArray, List.getElem?_cons_zero, List.getElem?_cons_succ]; rfl
  go_simp
  refine (NP.out _).mono ?_
  rintro e w5 ⟨rfl, hx⟩
  have hH2 := hHeld.trans hx
  refine hK.out _ _ hH2 (fun _ => ?_)
  clear hHeld hK K
  have hHeld := hH2
  clear hH2
  try simp only [Act.put, List.setIfInBounds_toArray, List.set_cons_zero, List.set_cons_succ]
  refine wpAnyH_ready (rs := [22]) (by kernel_rfl) (by simp) (AllReadyH.cons (o := ?oy2322) ?hy2322 (fun K hK => ?sy2322) AllReadyH.nil)
  case hy2322 => simp only [List.getElem?_toArray, List.getElem?_cons_zero, List.getElem?_cons_succ]; rfl
  go_simp
  refine (NQ.out _).mono ?_
  rintro e w6 ⟨rfl, hx⟩
  have hH2 := hHeld.trans hx
  refine hK.out _ _ hH2 (fun _ => ?_)
  clear hHeld hK K
  have hHeld := hH2
  clear hH2
  try simp only [Act.put, List.setIfInBounds_toArray, List.set_cons_zero, List.set_cons_succ]
  refine wpAnyH_take (i := 23) (oi := ?oiz24) (v := (.bool R)) ?hiz24 (by kernel_rfl) (by kernel_rfl) (by kernel_rfl) ?hQz24 ?hyz24 (by assumption) ?restz24
  case hiz24 => simp only [List.getElem?_toArray, List.getElem?_cons_zero, List.getElem?_cons_succ]; rfl
  case hQz24 => exact fun _ _ _ h => h
  case hyz24 => exact Or.inl ⟨by rfl, by intro w hSw; (try dsimp only at hSw); go_simp; (try with_reducible rfl)⟩
  try simp only [Act.put, List.setIfInBounds_toArray, List.set_cons_zero, List.set_cons_succ]
  refine wpAnyH_take (i := 24) (oi := ?oiz25) (v := ?vz25) ?hiz25 (by kernel_rfl) (by kernel_rfl) (by kernel_rfl) ?hQz25 ?hyz25 (by assumption) ?restz25
  case hiz25 => simp only [List.getElem?_toArray, List.getElem?_cons_zero, List.getElem?_cons_succ]; rfl
  case hQz25 => exact fun _ _ _ h => h
  case hyz25 => exact Or.inl ⟨by rfl, by intro w hSw; (try dsimp only at hSw); go_simp; with_reducible rfl⟩
  try simp only [Act.put, List.setIfInBounds_toArray, List.set_cons_zero, List.set_cons_succ]
  refine wpAnyH_take (i := 25) (oi := ?oiz26) (v := ?vz26) ?hiz26 (by kernel_rfl) (by kernel_rfl) (by kernel_rfl) ?hQz26 ?hyz26 (by assumption) ?restz26
  case hiz26 => simp only [List.getElem?_toArray, List.getElem?_cons_zero, List.getElem?_cons_succ]; rfl
  case hQz26 => exact fun _ _ _ h => h
  case hyz26 => exact Or.inl ⟨by rfl, by intro w hSw; (try dsimp only at hSw); go_simp; with_reducible rfl⟩
  try simp only [Act.put, List.setIfInBounds_toArray, List.set_cons_zero, List.set_cons_succ]
  have HX9 := Lib.hid (HX0.out.trans hHeld)
  refine wpAnyH_done (by kernel_rfl) ?_ _
  go_wp2
  go_ret
  exact ⟨rfl, HX9.out⟩
set_option maxHeartbeats 4000000 in
set_option maxRecDepth 100000 in
theorem vcS0 (a b c d : List Int) (ha : K32 a) (hb : K32 b) (hc : K32 c) (hd : K32 d) (hu : a ≠ c) (w : World) :
    Calls Try.prog 33 #[.agg (numsA .u8 (a ++ b ++ c ++ d))] w fun q w' => q = .returned (.bool (decide (ndK a b = ndK c d))) ∧ Ext w w' := by
  have HA := Lib.hid ha
  have HB := Lib.hid hb
  have HC := Lib.hid hc
  have HD := Lib.hid hd
  have hn1 := run_neqKey a c ha hc
  have hn2 := run_neqKey b d hb hd
  have heq := run_eqKey (ndK a b) (ndK c d) (ndK_ok a b) (ndK_ok c d)
  rw [decide_eq_false hu] at hn1
  simp only [Bool.not_false] at hn1
  obtain ⟨xs, hxs⟩ : ∃ xs, a ++ b ++ c ++ d = xs := ⟨_, rfl⟩
  have hq : ∀ W g e, Blk W g e (numsA .u8 xs) → (∀ j u, (tKey.enc a)[j]? = some u → W.cell? ⟨g, 0 + j, none⟩ = some u) ∧ (∀ j u, (tKey.enc b)[j]? = some u → W.cell? ⟨g, 32 + j, none⟩ = some u) ∧ (∀ j u, (tKey.enc c)[j]? = some u → W.cell? ⟨g, 64 + j, none⟩ = some u) ∧ (∀ j u, (tKey.enc d)[j]? = some u → W.cell? ⟨g, 96 + j, none⟩ = some u) := by
    intro W g e hW
    refine ⟨quad_cell [] a (b ++ c ++ d) (by rw [← hxs]; simp) hW rfl, quad_cell a b (c ++ d) (by rw [← hxs]; simp) hW ha.1, quad_cell (a ++ b) c d (by rw [← hxs]) hW (by rw [List.length_append, ha.1, hb.1]), quad_cell (a ++ b ++ c) d [] (by rw [← hxs]; simp) hW (by rw [List.length_append, List.length_append, ha.1, hb.1, hc.1])⟩
  have BX := Blk.new w 62 (numsA .u8 xs)
  have HX0 := Lib.hid (ext_alloc w (.cells (numsA .u8 xs) 62))
  generalize hw1 : w.alloc (.cells (numsA .u8 xs) 62) = w1 at BX HX0
  have HQ := Lib.hid (fun W (hW : Ext w1 W) => hq W w.heap.size 62 (BX.ext hW))
  have HW1 := Lib.hid hw1
  have NP := Lib.hid (fun W => l03Node_any a b ha hb W)
  have NQ := Lib.hid (fun W => l03Node_any c d hc hd W)
  obtain ⟨R, hR⟩ : ∃ R, decide (ndK a b = ndK c d) = R := ⟨_, rfl⟩
  obtain ⟨x, hx⟩ : ∃ x, ndK a b = x := ⟨_, rfl⟩
  obtain ⟨y, hy⟩ : ∃ y, ndK c d = y := ⟨_, rfl⟩
  rw [hx, hy] at heq hR
  rw [hx] at NP
  rw [hy] at NQ
  rw [hR] at heq
  rw [hxs, hx, hy, hR]
  clear ha hb hc hd hq BX hw1 hxs hx hy hR hu
  go_enter Try.func33, Try.ntmps33
  go_wp2_with (first
    | (refine wpl_loadKW w.heap.size 0 a HA.out (by have h9 := (HQ.out w1 (Ext.refl w1)).1; rw [← HW1.out] at h9; exact h9) rfl _ rfl rfl ?_)
    | (refine wpl_loadKW w.heap.size 32 b HB.out (by have h9 := (HQ.out w1 (Ext.refl w1)).2.1; rw [← HW1.out] at h9; exact h9) rfl _ rfl rfl ?_)
    | (refine wpl_loadKW w.heap.size 64 c HC.out (by have h9 := (HQ.out w1 (Ext.refl w1)).2.2.1; rw [← HW1.out] at h9; exact h9) rfl _ rfl rfl ?_)
    | (refine wpl_loadKW w.heap.size 96 d HD.out (by have h9 := (HQ.out w1 (Ext.refl w1)).2.2.2; rw [← HW1.out] at h9; exact h9) rfl _ rfl rfl ?_))
  rw [HW1.out]
  clear HW1
  refine wp_region_held_drew (S := fun W => Ext w1 W) (by kernel_rfl) ((Ext.refl w1).drew) (fun hHeld => ?_)
  refine wpAnyH_take (i := 0) (oi := ?oiz27) (v := ?vz27) ?hiz27 (by kernel_rfl) (by kernel_rfl) (by kernel_rfl) ?hQz27 ?hyz27 (by assumption) ?restz27
  case hiz27 => simp only [List.getElem?_toArray, List.getElem?_cons_zero, List.getElem?_cons_succ]; rfl
  case hQz27 => exact fun _ _ _ h => h
  case hyz27 => exact Or.inl ⟨by rfl, by intro w hSw; (try dsimp only at hSw); go_simp; with_reducible rfl⟩
  try simp only [Act.put, List.setIfInBounds_toArray, List.set_cons_zero, List.set_cons_succ]
  refine wpAnyH_take (i := 1) (oi := ?oiz28) (v := ?vz28) ?hiz28 (by kernel_rfl) (by kernel_rfl) (by kernel_rfl) ?hQz28 ?hyz28 (by assumption) ?restz28
  case hiz28 => simp only [List.getElem?_toArray, List.getElem?_cons_zero, List.getElem?_cons_succ]; rfl
  case hQz28 => exact fun _ _ _ h => h
  case hyz28 => exact Or.inl ⟨by rfl, by intro w hSw; (try dsimp only at hSw); go_simp; with_reducible rfl⟩
  try simp only [Act.put, List.setIfInBounds_toArray, List.set_cons_zero, List.set_cons_succ]
  refine wpAnyH_take (i := 2) (oi := ?oiz29) (v := ?vz29) ?hiz29 (by kernel_rfl) (by kernel_rfl) (by kernel_rfl) ?hQz29 ?hyz29 (by assumption) ?restz29
  case hiz29 => simp only [List.getElem?_toArray, List.getElem?_cons_zero, List.getElem?_cons_succ]; rfl
  case hQz29 => exact fun _ _ _ h => h
  case hyz29 => exact Or.inl ⟨by rfl, by intro w hSw; (try dsimp only at hSw); go_simp; with_reducible rfl⟩
  try simp only [Act.put, List.setIfInBounds_toArray, List.set_cons_zero, List.set_cons_succ]
  refine wpAnyH_take (i := 3) (oi := ?oiz30) (v := (.agg (numsA .u8 a))) ?hiz30 (by kernel_rfl) (by kernel_rfl) (by kernel_rfl) ?hQz30 ?hyz30 (by assumption) ?restz30
  case hiz30 => simp only [List.getElem?_toArray, List.getElem?_cons_zero, List.getElem?_cons_succ]; rfl
  case hQz30 => exact fun _ _ _ h => h
  case hyz30 => refine yields_loadSP w.heap.size 0 (tKey.enc a) (by rw [tKey.len _ HA.out]; exact aggKey) (fun W hW => (HQ.out W hW).1) ?_ _ rfl rfl; rfl
  try simp only [Act.put, List.setIfInBounds_toArray, List.set_cons_zero, List.set_cons_succ]
  refine wpAnyH_take (i := 4) (oi := ?oiz31) (v := ?vz31) ?hiz31 (by kernel_rfl) (by kernel_rfl) (by kernel_rfl) ?hQz31 ?hyz31 (by assumption) ?restz31
  case hiz31 => simp only [List.getElem?_toArray, List.getElem?_cons_zero, List.getElem?_cons_succ]; rfl
  case hQz31 => exact fun _ _ _ h => h
  case hyz31 => exact Or.inl ⟨by rfl, by intro w hSw; (try dsimp only at hSw); go_simp; with_reducible rfl⟩
  try simp only [Act.put, List.setIfInBounds_toArray, List.set_cons_zero, List.set_cons_succ]
  refine wpAnyH_take (i := 5) (oi := ?oiz32) (v := (.agg (numsA .u8 b))) ?hiz32 (by kernel_rfl) (by kernel_rfl) (by kernel_rfl) ?hQz32 ?hyz32 (by assumption) ?restz32
  case hiz32 => simp only [List.getElem?_toArray, List.getElem?_cons_zero, List.getElem?_cons_succ]; rfl
  case hQz32 => exact fun _ _ _ h => h
  case hyz32 => refine yields_loadSP w.heap.size 32 (tKey.enc b) (by rw [tKey.len _ HB.out]; exact aggKey) (fun W hW => (HQ.out W hW).2.1) ?_ _ rfl rfl; rfl
  try simp only [Act.put, List.setIfInBounds_toArray, List.set_cons_zero, List.set_cons_succ]
  refine wpAnyH_take (i := 7) (oi := ?oiz33) (v := ?vz33) ?hiz33 (by kernel_rfl) (by kernel_rfl) (by kernel_rfl) ?hQz33 ?hyz33 (by assumption) ?restz33
  case hiz33 => simp only [List.getElem?_toArray, List.getElem?_cons_zero, List.getElem?_cons_succ]; rfl
  case hQz33 => exact fun _ _ _ h => h
  case hyz33 => exact Or.inl ⟨by rfl, by intro w hSw; (try dsimp only at hSw); go_simp; with_reducible rfl⟩
  try simp only [Act.put, List.setIfInBounds_toArray, List.set_cons_zero, List.set_cons_succ]
  refine wpAnyH_take (i := 8) (oi := ?oiz34) (v := (.agg (numsA .u8 c))) ?hiz34 (by kernel_rfl) (by kernel_rfl) (by kernel_rfl) ?hQz34 ?hyz34 (by assumption) ?restz34
  case hiz34 => simp only [List.getElem?_toArray, List.getElem?_cons_zero, List.getElem?_cons_succ]; rfl
  case hQz34 => exact fun _ _ _ h => h
  case hyz34 => refine yields_loadSP w.heap.size 64 (tKey.enc c) (by rw [tKey.len _ HC.out]; exact aggKey) (fun W hW => (HQ.out W hW).2.2.1) ?_ _ rfl rfl; rfl
  try simp only [Act.put, List.setIfInBounds_toArray, List.set_cons_zero, List.set_cons_succ]
  refine wpAnyH_take (i := 9) (oi := ?oiz35) (v := ?vz35) ?hiz35 (by kernel_rfl) (by kernel_rfl) (by kernel_rfl) ?hQz35 ?hyz35 (by assumption) ?restz35
  case hiz35 => simp only [List.getElem?_toArray, List.getElem?_cons_zero, List.getElem?_cons_succ]; rfl
  case hQz35 => exact fun _ _ _ h => h
  case hyz35 => exact Or.inl ⟨by rfl, by intro w hSw; (try dsimp only at hSw); go_simp; with_reducible rfl⟩
  try simp only [Act.put, List.setIfInBounds_toArray, List.set_cons_zero, List.set_cons_succ]
  refine wpAnyH_take (i := 10) (oi := ?oiz36) (v := (.agg (numsA .u8 d))) ?hiz36 (by kernel_rfl) (by kernel_rfl) (by kernel_rfl) ?hQz36 ?hyz36 (by assumption) ?restz36
  case hiz36 => simp only [List.getElem?_toArray, List.getElem?_cons_zero, List.getElem?_cons_succ]; rfl
  case hQz36 => exact fun _ _ _ h => h
  case hyz36 => refine yields_loadSP w.heap.size 96 (tKey.enc d) (by rw [tKey.len _ HD.out]; exact aggKey) (fun W hW => (HQ.out W hW).2.2.2) ?_ _ rfl rfl; rfl
  try simp only [Act.put, List.setIfInBounds_toArray, List.set_cons_zero, List.set_cons_succ]
  refine wpAnyH_ready (rs := [6]) (by kernel_rfl) (by simp) (AllReadyH.cons (o := ?oy376) ?hy376 (fun K hK => ?sy376) AllReadyH.nil)
  case hy376 => simp only [List.getElem?_toArray, List.getElem?_cons_zero, List.getElem?_cons_succ]; rfl
  go_simp
  refine (NP.out _).mono ?_
  rintro e w5 ⟨rfl, hx⟩
  have hH2 := hHeld.trans hx
  refine hK.out _ _ hH2 (fun _ => ?_)
  clear hHeld hK K
  have hHeld := hH2
  clear hH2
  try simp only [Act.put, List.setIfInBounds_toArray, List.set_cons_zero, List.set_cons_succ]
  refine wpAnyH_ready (rs := [11]) (by kernel_rfl) (by simp) (AllReadyH.cons (o := ?oy3811) ?hy3811 (fun K hK => ?sy3811) AllReadyH.nil)
  case hy3811 => simp only [List.getElem?_toArray, List.getElem?_cons_zero, List.getElem?_cons_succ]; rfl
  go_simp
  refine (NQ.out _).mono ?_
  rintro e w6 ⟨rfl, hx⟩
  have hH2 := hHeld.trans hx
  refine hK.out _ _ hH2 (fun _ => ?_)
  clear hHeld hK K
  have hHeld := hH2
  clear hH2
  try simp only [Act.put, List.setIfInBounds_toArray, List.set_cons_zero, List.set_cons_succ]
  refine wpAnyH_take (i := 12) (oi := ?oiz39) (v := (.bool R)) ?hiz39 (by kernel_rfl) (by kernel_rfl) (by kernel_rfl) ?hQz39 ?hyz39 (by assumption) ?restz39
  case hiz39 => simp only [List.getElem?_toArray, List.getElem?_cons_zero, List.getElem?_cons_succ]; rfl
  case hQz39 => exact fun _ _ _ h => h
  case hyz39 => exact Or.inl ⟨by rfl, by intro w hSw; (try dsimp only at hSw); go_simp; (try with_reducible rfl)⟩
  try simp only [Act.put, List.setIfInBounds_toArray, List.set_cons_zero, List.set_cons_succ]
  refine wpAnyH_take (i := 13) (oi := ?oiz40) (v := ?vz40) ?hiz40 (by kernel_rfl) (by kernel_rfl) (by kernel_rfl) ?hQz40 ?hyz40 (by assumption) ?restz40
  case hiz40 => simp only [List.getElem?_toArray, List.getElem?_cons_zero, List.getElem?_cons_succ]; rfl
  case hQz40 => exact fun _ _ _ h => h
  case hyz40 => exact Or.inl ⟨by rfl, by intro w hSw; (try dsimp only at hSw); go_simp; with_reducible rfl⟩
  try simp only [Act.put, List.setIfInBounds_toArray, List.set_cons_zero, List.set_cons_succ]
  refine wpAnyH_take (i := 14) (oi := ?oiz41) (v := ?vz41) ?hiz41 (by kernel_rfl) (by kernel_rfl) (by kernel_rfl) ?hQz41 ?hyz41 (by assumption) ?restz41
  case hiz41 => simp only [List.getElem?_toArray, List.getElem?_cons_zero, List.getElem?_cons_succ]; rfl
  case hQz41 => exact fun _ _ _ h => h
  case hyz41 => exact Or.inl ⟨by rfl, by intro w hSw; (try dsimp only at hSw); go_simp; with_reducible rfl⟩
  try simp only [Act.put, List.setIfInBounds_toArray, List.set_cons_zero, List.set_cons_succ]
  have HX9 := Lib.hid (HX0.out.trans hHeld)
  refine wpAnyH_done (by kernel_rfl) ?_ _
  go_wp2
  go_ret
  exact ⟨rfl, HX9.out⟩
set_option maxHeartbeats 4000000 in
set_option maxRecDepth 100000 in
theorem vcI1 (a b c d : List Int) (ha : K32 a) (hb : K32 b) (hc : K32 c) (hd : K32 d) (hu : a = c ∧ b ≠ d) (w : World) :
    Calls Try.prog 34 #[.agg (numsA .u8 (a ++ b ++ c ++ d))] w fun q w' => q = .returned (.bool (decide (ndK a b = ndK c d))) ∧ Ext w w' := by
  have HA := Lib.hid ha
  have HB := Lib.hid hb
  have HC := Lib.hid hc
  have HD := Lib.hid hd
  have hn1 := run_neqKey a c ha hc
  have hn2 := run_neqKey b d hb hd
  have heq := run_eqKey (ndK a b) (ndK c d) (ndK_ok a b) (ndK_ok c d)
  rw [decide_eq_true hu.1] at hn1
  rw [decide_eq_false hu.2] at hn2
  simp only [Bool.not_false, Bool.not_true] at hn1 hn2
  obtain ⟨xs, hxs⟩ : ∃ xs, a ++ b ++ c ++ d = xs := ⟨_, rfl⟩
  have hq : ∀ W g e, Blk W g e (numsA .u8 xs) → (∀ j u, (tKey.enc a)[j]? = some u → W.cell? ⟨g, 0 + j, none⟩ = some u) ∧ (∀ j u, (tKey.enc b)[j]? = some u → W.cell? ⟨g, 32 + j, none⟩ = some u) ∧ (∀ j u, (tKey.enc c)[j]? = some u → W.cell? ⟨g, 64 + j, none⟩ = some u) ∧ (∀ j u, (tKey.enc d)[j]? = some u → W.cell? ⟨g, 96 + j, none⟩ = some u) := by
    intro W g e hW
    refine ⟨quad_cell [] a (b ++ c ++ d) (by rw [← hxs]; simp) hW rfl, quad_cell a b (c ++ d) (by rw [← hxs]; simp) hW ha.1, quad_cell (a ++ b) c d (by rw [← hxs]) hW (by rw [List.length_append, ha.1, hb.1]), quad_cell (a ++ b ++ c) d [] (by rw [← hxs]; simp) hW (by rw [List.length_append, List.length_append, ha.1, hb.1, hc.1])⟩
  have BX := Blk.new w 62 (numsA .u8 xs)
  have HX0 := Lib.hid (ext_alloc w (.cells (numsA .u8 xs) 62))
  generalize hw1 : w.alloc (.cells (numsA .u8 xs) 62) = w1 at BX HX0
  have HQ := Lib.hid (fun W (hW : Ext w1 W) => hq W w.heap.size 62 (BX.ext hW))
  have HW1 := Lib.hid hw1
  have NP := Lib.hid (fun W => nodeKey_any a b ha hb W)
  have NQ := Lib.hid (fun W => nodeKey_any c d hc hd W)
  obtain ⟨R, hR⟩ : ∃ R, decide (ndK a b = ndK c d) = R := ⟨_, rfl⟩
  obtain ⟨x, hx⟩ : ∃ x, ndK a b = x := ⟨_, rfl⟩
  obtain ⟨y, hy⟩ : ∃ y, ndK c d = y := ⟨_, rfl⟩
  rw [hx, hy] at heq hR
  rw [hx] at NP
  rw [hy] at NQ
  rw [hR] at heq
  rw [hxs, hx, hy, hR]
  clear ha hb hc hd hq BX hw1 hxs hx hy hR hu
  go_enter Try.func34, Try.ntmps34
  go_wp2_with fail
  rw [HW1.out]
  clear HW1
  refine wp_region_held_drew (S := fun W => Ext w1 W) (by kernel_rfl) ((Ext.refl w1).drew) (fun hHeld => ?_)
  refine wpAnyH_take (i := 0) (oi := ?oiz42) (v := ?vz42) ?hiz42 (by kernel_rfl) (by kernel_rfl) (by kernel_rfl) ?hQz42 ?hyz42 (by assumption) ?restz42
  case hiz42 => simp only [List.getElem?_toArray, List.getElem?_cons_zero, List.getElem?_cons_succ]; rfl
  case hQz42 => exact fun _ _ _ h => h
  case hyz42 => exact Or.inl ⟨by rfl, by intro w hSw; (try dsimp only at hSw); go_simp; with_reducible rfl⟩
  try simp only [Act.put, List.setIfInBounds_toArray, List.set_cons_zero, List.set_cons_succ]
  refine wpAnyH_take (i := 1) (oi := ?oiz43) (v := (.agg (numsA .u8 a))) ?hiz43 (by kernel_rfl) (by kernel_rfl) (by kernel_rfl) ?hQz43 ?hyz43 (by assumption) ?restz43
  case hiz43 => simp only [List.getElem?_toArray, List.getElem?_cons_zero, List.getElem?_cons_succ]; rfl
  case hQz43 => exact fun _ _ _ h => h
  case hyz43 => refine yields_loadSP w.heap.size 0 (tKey.enc a) (by rw [tKey.len _ HA.out]; exact aggKey) (fun W hW => (HQ.out W hW).1) ?_ _ rfl rfl; rfl
  try simp only [Act.put, List.setIfInBounds_toArray, List.set_cons_zero, List.set_cons_succ]
  refine wpAnyH_take (i := 2) (oi := ?oiz44) (v := ?vz44) ?hiz44 (by kernel_rfl) (by kernel_rfl) (by kernel_rfl) ?hQz44 ?hyz44 (by assumption) ?restz44
  case hiz44 => simp only [List.getElem?_toArray, List.getElem?_cons_zero, List.getElem?_cons_succ]; rfl
  case hQz44 => exact fun _ _ _ h => h
  case hyz44 => exact Or.inl ⟨by rfl, by intro w hSw; (try dsimp only at hSw); go_simp; with_reducible rfl⟩
  try simp only [Act.put, List.setIfInBounds_toArray, List.set_cons_zero, List.set_cons_succ]
  refine wpAnyH_take (i := 3) (oi := ?oiz45) (v := (.agg (numsA .u8 c))) ?hiz45 (by kernel_rfl) (by kernel_rfl) (by kernel_rfl) ?hQz45 ?hyz45 (by assumption) ?restz45
  case hiz45 => simp only [List.getElem?_toArray, List.getElem?_cons_zero, List.getElem?_cons_succ]; rfl
  case hQz45 => exact fun _ _ _ h => h
  case hyz45 => refine yields_loadSP w.heap.size 64 (tKey.enc c) (by rw [tKey.len _ HC.out]; exact aggKey) (fun W hW => (HQ.out W hW).2.2.1) ?_ _ rfl rfl; rfl
  try simp only [Act.put, List.setIfInBounds_toArray, List.set_cons_zero, List.set_cons_succ]
  refine wpAnyH_take (i := 4) (oi := ?oiz46) (v := (.bool false)) ?hiz46 (by kernel_rfl) (by kernel_rfl) (by kernel_rfl) ?hQz46 ?hyz46 (by assumption) ?restz46
  case hiz46 => simp only [List.getElem?_toArray, List.getElem?_cons_zero, List.getElem?_cons_succ]; rfl
  case hQz46 => exact fun _ _ _ h => h
  case hyz46 => exact Or.inl ⟨by rfl, by intro w hSw; (try dsimp only at hSw); go_simp; (try with_reducible rfl)⟩
  try simp only [Act.put, List.setIfInBounds_toArray, List.set_cons_zero, List.set_cons_succ]
  refine wpAnyH_take (i := 5) (oi := ?oiz47) (v := ?vz47) ?hiz47 (by kernel_rfl) (by kernel_rfl) (by kernel_rfl) ?hQz47 ?hyz47 (by assumption) ?restz47
  case hiz47 => simp only [List.getElem?_toArray, List.getElem?_cons_zero, List.getElem?_cons_succ]; rfl
  case hQz47 => exact fun _ _ _ h => h
  case hyz47 => exact Or.inl ⟨by rfl, by intro w hSw; (try dsimp only at hSw); go_simp; with_reducible rfl⟩
  try simp only [Act.put, List.setIfInBounds_toArray, List.set_cons_zero, List.set_cons_succ]
  refine wpAnyH_take (i := 6) (oi := ?oiz48) (v := ?vz48) ?hiz48 (by kernel_rfl) (by kernel_rfl) (by kernel_rfl) ?hQz48 ?hyz48 (by assumption) ?restz48
  case hiz48 => simp only [List.getElem?_toArray, List.getElem?_cons_zero, List.getElem?_cons_succ]; rfl
  case hQz48 => exact fun _ _ _ h => h
  case hyz48 => exact Or.inl ⟨by rfl, by intro w hSw; (try dsimp only at hSw); go_simp; with_reducible rfl⟩
  try simp only [Act.put, List.setIfInBounds_toArray, List.set_cons_zero, List.set_cons_succ]
  refine wpAnyH_take (i := 7) (oi := ?oiz49) (v := (.agg (numsA .u8 b))) ?hiz49 (by kernel_rfl) (by kernel_rfl) (by kernel_rfl) ?hQz49 ?hyz49 (by assumption) ?restz49
  case hiz49 => simp only [List.getElem?_toArray, List.getElem?_cons_zero, List.getElem?_cons_succ]; rfl
  case hQz49 => exact fun _ _ _ h => h
  case hyz49 => refine yields_loadSP w.heap.size 32 (tKey.enc b) (by rw [tKey.len _ HB.out]; exact aggKey) (fun W hW => (HQ.out W hW).2.1) ?_ _ rfl rfl; rfl
  try simp only [Act.put, List.setIfInBounds_toArray, List.set_cons_zero, List.set_cons_succ]
  refine wpAnyH_take (i := 8) (oi := ?oiz50) (v := ?vz50) ?hiz50 (by kernel_rfl) (by kernel_rfl) (by kernel_rfl) ?hQz50 ?hyz50 (by assumption) ?restz50
  case hiz50 => simp only [List.getElem?_toArray, List.getElem?_cons_zero, List.getElem?_cons_succ]; rfl
  case hQz50 => exact fun _ _ _ h => h
  case hyz50 => exact Or.inl ⟨by rfl, by intro w hSw; (try dsimp only at hSw); go_simp; with_reducible rfl⟩
  try simp only [Act.put, List.setIfInBounds_toArray, List.set_cons_zero, List.set_cons_succ]
  refine wpAnyH_take (i := 9) (oi := ?oiz51) (v := (.agg (numsA .u8 d))) ?hiz51 (by kernel_rfl) (by kernel_rfl) (by kernel_rfl) ?hQz51 ?hyz51 (by assumption) ?restz51
  case hiz51 => simp only [List.getElem?_toArray, List.getElem?_cons_zero, List.getElem?_cons_succ]; rfl
  case hQz51 => exact fun _ _ _ h => h
  case hyz51 => refine yields_loadSP w.heap.size 96 (tKey.enc d) (by rw [tKey.len _ HD.out]; exact aggKey) (fun W hW => (HQ.out W hW).2.2.2) ?_ _ rfl rfl; rfl
  try simp only [Act.put, List.setIfInBounds_toArray, List.set_cons_zero, List.set_cons_succ]
  refine wpAnyH_take (i := 10) (oi := ?oiz52) (v := (.bool true)) ?hiz52 (by kernel_rfl) (by kernel_rfl) (by kernel_rfl) ?hQz52 ?hyz52 (by assumption) ?restz52
  case hiz52 => simp only [List.getElem?_toArray, List.getElem?_cons_zero, List.getElem?_cons_succ]; rfl
  case hQz52 => exact fun _ _ _ h => h
  case hyz52 => exact Or.inl ⟨by rfl, by intro w hSw; (try dsimp only at hSw); go_simp; (try with_reducible rfl)⟩
  try simp only [Act.put, List.setIfInBounds_toArray, List.set_cons_zero, List.set_cons_succ]
  refine wpAnyH_take (i := 11) (oi := ?oiz53) (v := ?vz53) ?hiz53 (by kernel_rfl) (by kernel_rfl) (by kernel_rfl) ?hQz53 ?hyz53 (by assumption) ?restz53
  case hiz53 => simp only [List.getElem?_toArray, List.getElem?_cons_zero, List.getElem?_cons_succ]; rfl
  case hQz53 => exact fun _ _ _ h => h
  case hyz53 => exact Or.inl ⟨by rfl, by intro w hSw; (try dsimp only at hSw); go_simp; with_reducible rfl⟩
  try simp only [Act.put, List.setIfInBounds_toArray, List.set_cons_zero, List.set_cons_succ]
  refine wpAnyH_take (i := 12) (oi := ?oiz54) (v := ?vz54) ?hiz54 (by kernel_rfl) (by kernel_rfl) (by kernel_rfl) ?hQz54 ?hyz54 (by assumption) ?restz54
  case hiz54 => simp only [List.getElem?_toArray, List.getElem?_cons_zero, List.getElem?_cons_succ]; rfl
  case hQz54 => exact fun _ _ _ h => h
  case hyz54 => exact Or.inl ⟨by rfl, by intro w hSw; (try dsimp only at hSw); go_simp; with_reducible rfl⟩
  try simp only [Act.put, List.setIfInBounds_toArray, List.set_cons_zero, List.set_cons_succ]
  refine wpAnyH_take (i := 13) (oi := ?oiz55) (v := ?vz55) ?hiz55 (by kernel_rfl) (by kernel_rfl) (by kernel_rfl) ?hQz55 ?hyz55 (by assumption) ?restz55
  case hiz55 => simp only [List.getElem?_toArray, List.getElem?_cons_zero, List.getElem?_cons_succ]; rfl
  case hQz55 => exact fun _ _ _ h => h
  case hyz55 => exact Or.inl ⟨by rfl, by intro w hSw; (try dsimp only at hSw); go_simp; with_reducible rfl⟩
  try simp only [Act.put, List.setIfInBounds_toArray, List.set_cons_zero, List.set_cons_succ]
  refine wpAnyH_take (i := 14) (oi := ?oiz56) (v := (.agg (numsA .u8 a))) ?hiz56 (by kernel_rfl) (by kernel_rfl) (by kernel_rfl) ?hQz56 ?hyz56 (by assumption) ?restz56
  case hiz56 => simp only [List.getElem?_toArray, List.getElem?_cons_zero, List.getElem?_cons_succ]; rfl
  case hQz56 => exact fun _ _ _ h => h
  case hyz56 => refine yields_loadSP w.heap.size 0 (tKey.enc a) (by rw [tKey.len _ HA.out]; exact aggKey) (fun W hW => (HQ.out W hW).1) ?_ _ rfl rfl; rfl
  try simp only [Act.put, List.setIfInBounds_toArray, List.set_cons_zero, List.set_cons_succ]
  refine wpAnyH_take (i := 15) (oi := ?oiz57) (v := ?vz57) ?hiz57 (by kernel_rfl) (by kernel_rfl) (by kernel_rfl) ?hQz57 ?hyz57 (by assumption) ?restz57
  case hiz57 => simp only [List.getElem?_toArray, List.getElem?_cons_zero, List.getElem?_cons_succ]; rfl
  case hQz57 => exact fun _ _ _ h => h
  case hyz57 => exact Or.inl ⟨by rfl, by intro w hSw; (try dsimp only at hSw); go_simp; with_reducible rfl⟩
  try simp only [Act.put, List.setIfInBounds_toArray, List.set_cons_zero, List.set_cons_succ]
  refine wpAnyH_take (i := 16) (oi := ?oiz58) (v := (.agg (numsA .u8 b))) ?hiz58 (by kernel_rfl) (by kernel_rfl) (by kernel_rfl) ?hQz58 ?hyz58 (by assumption) ?restz58
  case hiz58 => simp only [List.getElem?_toArray, List.getElem?_cons_zero, List.getElem?_cons_succ]; rfl
  case hQz58 => exact fun _ _ _ h => h
  case hyz58 => refine yields_loadSP w.heap.size 32 (tKey.enc b) (by rw [tKey.len _ HB.out]; exact aggKey) (fun W hW => (HQ.out W hW).2.1) ?_ _ rfl rfl; rfl
  try simp only [Act.put, List.setIfInBounds_toArray, List.set_cons_zero, List.set_cons_succ]
  refine wpAnyH_take (i := 18) (oi := ?oiz59) (v := ?vz59) ?hiz59 (by kernel_rfl) (by kernel_rfl) (by kernel_rfl) ?hQz59 ?hyz59 (by assumption) ?restz59
  case hiz59 => simp only [List.getElem?_toArray, List.getElem?_cons_zero, List.getElem?_cons_succ]; rfl
  case hQz59 => exact fun _ _ _ h => h
  case hyz59 => exact Or.inl ⟨by rfl, by intro w hSw; (try dsimp only at hSw); go_simp; with_reducible rfl⟩
  try simp only [Act.put, List.setIfInBounds_toArray, List.set_cons_zero, List.set_cons_succ]
  refine wpAnyH_take (i := 19) (oi := ?oiz60) (v := (.agg (numsA .u8 c))) ?hiz60 (by kernel_rfl) (by kernel_rfl) (by kernel_rfl) ?hQz60 ?hyz60 (by assumption) ?restz60
  case hiz60 => simp only [List.getElem?_toArray, List.getElem?_cons_zero, List.getElem?_cons_succ]; rfl
  case hQz60 => exact fun _ _ _ h => h
  case hyz60 => refine yields_loadSP w.heap.size 64 (tKey.enc c) (by rw [tKey.len _ HC.out]; exact aggKey) (fun W hW => (HQ.out W hW).2.2.1) ?_ _ rfl rfl; rfl
  try simp only [Act.put, List.setIfInBounds_toArray, List.set_cons_zero, List.set_cons_succ]
  refine wpAnyH_take (i := 20) (oi := ?oiz61) (v := ?vz61) ?hiz61 (by kernel_rfl) (by kernel_rfl) (by kernel_rfl) ?hQz61 ?hyz61 (by assumption) ?restz61
  case hiz61 => simp only [List.getElem?_toArray, List.getElem?_cons_zero, List.getElem?_cons_succ]; rfl
  case hQz61 => exact fun _ _ _ h => h
  case hyz61 => exact Or.inl ⟨by rfl, by intro w hSw; (try dsimp only at hSw); go_simp; with_reducible rfl⟩
  try simp only [Act.put, List.setIfInBounds_toArray, List.set_cons_zero, List.set_cons_succ]
  refine wpAnyH_take (i := 21) (oi := ?oiz62) (v := (.agg (numsA .u8 d))) ?hiz62 (by kernel_rfl) (by kernel_rfl) (by kernel_rfl) ?hQz62 ?hyz62 (by assumption) ?restz62
  case hiz62 => simp only [List.getElem?_toArray, List.getElem?_cons_zero, List.getElem?_cons_succ]; rfl
  case hQz62 => exact fun _ _ _ h => h
  case hyz62 => refine yields_loadSP w.heap.size 96 (tKey.enc d) (by rw [tKey.len _ HD.out]; exact aggKey) (fun W hW => (HQ.out W hW).2.2.2) ?_ _ rfl rfl; rfl
  try simp only [Act.put, List.setIfInBounds_toArray, List.set_cons_zero, List.set_cons_succ]
  refine wpAnyH_ready (rs := [17]) (by kernel_rfl) (by simp) (AllReadyH.cons (o := ?oy6317) ?hy6317 (fun K hK => ?sy6317) AllReadyH.nil)
  case hy6317 => simp only [List.getElem?_toArray, List.getElem?_cons_zero, List.getElem?_cons_succ]; rfl
  go_simp
  refine (NP.out _).mono ?_
  rintro e w5 ⟨rfl, hx⟩
  have hH2 := hHeld.trans hx
  refine hK.out _ _ hH2 (fun _ => ?_)
  clear hHeld hK K
  have hHeld := hH2
  clear hH2
  try simp only [Act.put, List.setIfInBounds_toArray, List.set_cons_zero, List.set_cons_succ]
  refine wpAnyH_ready (rs := [22]) (by kernel_rfl) (by simp) (AllReadyH.cons (o := ?oy6422) ?hy6422 (fun K hK => ?sy6422) AllReadyH.nil)
  case hy6422 => simp only [List.getElem?_toArray, List.getElem?_cons_zero, List.getElem?_cons_succ]; rfl
  go_simp
  refine (NQ.out _).mono ?_
  rintro e w6 ⟨rfl, hx⟩
  have hH2 := hHeld.trans hx
  refine hK.out _ _ hH2 (fun _ => ?_)
  clear hHeld hK K
  have hHeld := hH2
  clear hH2
  try simp only [Act.put, List.setIfInBounds_toArray, List.set_cons_zero, List.set_cons_succ]
  refine wpAnyH_take (i := 23) (oi := ?oiz65) (v := (.bool R)) ?hiz65 (by kernel_rfl) (by kernel_rfl) (by kernel_rfl) ?hQz65 ?hyz65 (by assumption) ?restz65
  case hiz65 => simp only [List.getElem?_toArray, List.getElem?_cons_zero, List.getElem?_cons_succ]; rfl
  case hQz65 => exact fun _ _ _ h => h
  case hyz65 => exact Or.inl ⟨by rfl, by intro w hSw; (try dsimp only at hSw); go_simp; (try with_reducible rfl)⟩
  try simp only [Act.put, List.setIfInBounds_toArray, List.set_cons_zero, List.set_cons_succ]
  refine wpAnyH_take (i := 24) (oi := ?oiz66) (v := ?vz66) ?hiz66 (by kernel_rfl) (by kernel_rfl) (by kernel_rfl) ?hQz66 ?hyz66 (by assumption) ?restz66
  case hiz66 => simp only [List.getElem?_toArray, List.getElem?_cons_zero, List.getElem?_cons_succ]; rfl
  case hQz66 => exact fun _ _ _ h => h
  case hyz66 => exact Or.inl ⟨by rfl, by intro w hSw; (try dsimp only at hSw); go_simp; with_reducible rfl⟩
  try simp only [Act.put, List.setIfInBounds_toArray, List.set_cons_zero, List.set_cons_succ]
  refine wpAnyH_take (i := 25) (oi := ?oiz67) (v := ?vz67) ?hiz67 (by kernel_rfl) (by kernel_rfl) (by kernel_rfl) ?hQz67 ?hyz67 (by assumption) ?restz67
  case hiz67 => simp only [List.getElem?_toArray, List.getElem?_cons_zero, List.getElem?_cons_succ]; rfl
  case hQz67 => exact fun _ _ _ h => h
  case hyz67 => exact Or.inl ⟨by rfl, by intro w hSw; (try dsimp only at hSw); go_simp; with_reducible rfl⟩
  try simp only [Act.put, List.setIfInBounds_toArray, List.set_cons_zero, List.set_cons_succ]
  have HX9 := Lib.hid (HX0.out.trans hHeld)
  refine wpAnyH_done (by kernel_rfl) ?_ _
  go_wp2
  go_ret
  exact ⟨rfl, HX9.out⟩
set_option maxHeartbeats 4000000 in
set_option maxRecDepth 100000 in
theorem vcS1 (a b c d : List Int) (ha : K32 a) (hb : K32 b) (hc : K32 c) (hd : K32 d) (hu : a = c ∧ b ≠ d) (w : World) :
    Calls Try.prog 33 #[.agg (numsA .u8 (a ++ b ++ c ++ d))] w fun q w' => q = .returned (.bool (decide (ndK a b = ndK c d))) ∧ Ext w w' := by
  have HA := Lib.hid ha
  have HB := Lib.hid hb
  have HC := Lib.hid hc
  have HD := Lib.hid hd
  have hn1 := run_neqKey a c ha hc
  have hn2 := run_neqKey b d hb hd
  have heq := run_eqKey (ndK a b) (ndK c d) (ndK_ok a b) (ndK_ok c d)
  rw [decide_eq_true hu.1] at hn1
  rw [decide_eq_false hu.2] at hn2
  simp only [Bool.not_false, Bool.not_true] at hn1 hn2
  obtain ⟨xs, hxs⟩ : ∃ xs, a ++ b ++ c ++ d = xs := ⟨_, rfl⟩
  have hq : ∀ W g e, Blk W g e (numsA .u8 xs) → (∀ j u, (tKey.enc a)[j]? = some u → W.cell? ⟨g, 0 + j, none⟩ = some u) ∧ (∀ j u, (tKey.enc b)[j]? = some u → W.cell? ⟨g, 32 + j, none⟩ = some u) ∧ (∀ j u, (tKey.enc c)[j]? = some u → W.cell? ⟨g, 64 + j, none⟩ = some u) ∧ (∀ j u, (tKey.enc d)[j]? = some u → W.cell? ⟨g, 96 + j, none⟩ = some u) := by
    intro W g e hW
    refine ⟨quad_cell [] a (b ++ c ++ d) (by rw [← hxs]; simp) hW rfl, quad_cell a b (c ++ d) (by rw [← hxs]; simp) hW ha.1, quad_cell (a ++ b) c d (by rw [← hxs]) hW (by rw [List.length_append, ha.1, hb.1]), quad_cell (a ++ b ++ c) d [] (by rw [← hxs]; simp) hW (by rw [List.length_append, List.length_append, ha.1, hb.1, hc.1])⟩
  have BX := Blk.new w 62 (numsA .u8 xs)
  have HX0 := Lib.hid (ext_alloc w (.cells (numsA .u8 xs) 62))
  generalize hw1 : w.alloc (.cells (numsA .u8 xs) 62) = w1 at BX HX0
  have HQ := Lib.hid (fun W (hW : Ext w1 W) => hq W w.heap.size 62 (BX.ext hW))
  have HW1 := Lib.hid hw1
  have NP := Lib.hid (fun W => l03Node_any a b ha hb W)
  have NQ := Lib.hid (fun W => l03Node_any c d hc hd W)
  obtain ⟨R, hR⟩ : ∃ R, decide (ndK a b = ndK c d) = R := ⟨_, rfl⟩
  obtain ⟨x, hx⟩ : ∃ x, ndK a b = x := ⟨_, rfl⟩
  obtain ⟨y, hy⟩ : ∃ y, ndK c d = y := ⟨_, rfl⟩
  rw [hx, hy] at heq hR
  rw [hx] at NP
  rw [hy] at NQ
  rw [hR] at heq
  rw [hxs, hx, hy, hR]
  clear ha hb hc hd hq BX hw1 hxs hx hy hR hu
  go_enter Try.func33, Try.ntmps33
  go_wp2_with (first
    | (refine wpl_loadKW w.heap.size 0 a HA.out (by have h9 := (HQ.out w1 (Ext.refl w1)).1; rw [← HW1.out] at h9; exact h9) rfl _ rfl rfl ?_)
    | (refine wpl_loadKW w.heap.size 32 b HB.out (by have h9 := (HQ.out w1 (Ext.refl w1)).2.1; rw [← HW1.out] at h9; exact h9) rfl _ rfl rfl ?_)
    | (refine wpl_loadKW w.heap.size 64 c HC.out (by have h9 := (HQ.out w1 (Ext.refl w1)).2.2.1; rw [← HW1.out] at h9; exact h9) rfl _ rfl rfl ?_)
    | (refine wpl_loadKW w.heap.size 96 d HD.out (by have h9 := (HQ.out w1 (Ext.refl w1)).2.2.2; rw [← HW1.out] at h9; exact h9) rfl _ rfl rfl ?_))
  rw [HW1.out]
  clear HW1
  refine wp_region_held_drew (S := fun W => Ext w1 W) (by kernel_rfl) ((Ext.refl w1).drew) (fun hHeld => ?_)
  refine wpAnyH_take (i := 0) (oi := ?oiz68) (v := ?vz68) ?hiz68 (by kernel_rfl) (by kernel_rfl) (by kernel_rfl) ?hQz68 ?hyz68 (by assumption) ?restz68
  case hiz68 => simp only [List.getElem?_toArray, List.getElem?_cons_zero, List.getElem?_cons_succ]; rfl
  case hQz68 => exact fun _ _ _ h => h
  case hyz68 => exact Or.inl ⟨by rfl, by intro w hSw; (try dsimp only at hSw); go_simp; with_reducible rfl⟩
  try simp only [Act.put, List.setIfInBounds_toArray, List.set_cons_zero, List.set_cons_succ]
  refine wpAnyH_take (i := 1) (oi := ?oiz69) (v := ?vz69) ?hiz69 (by kernel_rfl) (by kernel_rfl) (by kernel_rfl) ?hQz69 ?hyz69 (by assumption) ?restz69
  case hiz69 => simp only [List.getElem?_toArray, List.getElem?_cons_zero, List.getElem?_cons_succ]; rfl
  case hQz69 => exact fun _ _ _ h => h
  case hyz69 => exact Or.inl ⟨by rfl, by intro w hSw; (try dsimp only at hSw); go_simp; with_reducible rfl⟩
  try simp only [Act.put, List.setIfInBounds_toArray, List.set_cons_zero, List.set_cons_succ]
  refine wpAnyH_take (i := 2) (oi := ?oiz70) (v := ?vz70) ?hiz70 (by kernel_rfl) (by kernel_rfl) (by kernel_rfl) ?hQz70 ?hyz70 (by assumption) ?restz70
  case hiz70 => simp only [List.getElem?_toArray, List.getElem?_cons_zero, List.getElem?_cons_succ]; rfl
  case hQz70 => exact fun _ _ _ h => h
  case hyz70 => exact Or.inl ⟨by rfl, by intro w hSw; (try dsimp only at hSw); go_simp; with_reducible rfl⟩
  try simp only [Act.put, List.setIfInBounds_toArray, List.set_cons_zero, List.set_cons_succ]
  refine wpAnyH_take (i := 3) (oi := ?oiz71) (v := (.agg (numsA .u8 a))) ?hiz71 (by kernel_rfl) (by kernel_rfl) (by kernel_rfl) ?hQz71 ?hyz71 (by assumption) ?restz71
  case hiz71 => simp only [List.getElem?_toArray, List.getElem?_cons_zero, List.getElem?_cons_succ]; rfl
  case hQz71 => exact fun _ _ _ h => h
  case hyz71 => refine yields_loadSP w.heap.size 0 (tKey.enc a) (by rw [tKey.len _ HA.out]; exact aggKey) (fun W hW => (HQ.out W hW).1) ?_ _ rfl rfl; rfl
  try simp only [Act.put, List.setIfInBounds_toArray, List.set_cons_zero, List.set_cons_succ]
  refine wpAnyH_take (i := 4) (oi := ?oiz72) (v := ?vz72) ?hiz72 (by kernel_rfl) (by kernel_rfl) (by kernel_rfl) ?hQz72 ?hyz72 (by assumption) ?restz72
  case hiz72 => simp only [List.getElem?_toArray, List.getElem?_cons_zero, List.getElem?_cons_succ]; rfl
  case hQz72 => exact fun _ _ _ h => h
  case hyz72 => exact Or.inl ⟨by rfl, by intro w hSw; (try dsimp only at hSw); go_simp; with_reducible rfl⟩
  try simp only [Act.put, List.setIfInBounds_toArray, List.set_cons_zero, List.set_cons_succ]
  refine wpAnyH_take (i := 5) (oi := ?oiz73) (v := (.agg (numsA .u8 b))) ?hiz73 (by kernel_rfl) (by kernel_rfl) (by kernel_rfl) ?hQz73 ?hyz73 (by assumption) ?restz73
  case hiz73 => simp only [List.getElem?_toArray, List.getElem?_cons_zero, List.getElem?_cons_succ]; rfl
  case hQz73 => exact fun _ _ _ h => h
  case hyz73 => refine yields_loadSP w.heap.size 32 (tKey.enc b) (by rw [tKey.len _ HB.out]; exact aggKey) (fun W hW => (HQ.out W hW).2.1) ?_ _ rfl rfl; rfl
  try simp only [Act.put, List.setIfInBounds_toArray, List.set_cons_zero, List.set_cons_succ]
  refine wpAnyH_take (i := 7) (oi := ?oiz74) (v := ?vz74) ?hiz74 (by kernel_rfl) (by kernel_rfl) (by kernel_rfl) ?hQz74 ?hyz74 (by assumption) ?restz74
  case hiz74 => simp only [List.getElem?_toArray, List.getElem?_cons_zero, List.getElem?_cons_succ]; rfl
  case hQz74 => exact fun _ _ _ h => h
  case hyz74 => exact Or.inl ⟨by rfl, by intro w hSw; (try dsimp only at hSw); go_simp; with_reducible rfl⟩
  try simp only [Act.put, List.setIfInBounds_toArray, List.set_cons_zero, List.set_cons_succ]
  refine wpAnyH_take (i := 8) (oi := ?oiz75) (v := (.agg (numsA .u8 c))) ?hiz75 (by kernel_rfl) (by kernel_rfl) (by kernel_rfl) ?hQz75 ?hyz75 (by assumption) ?restz75
  case hiz75 => simp only [List.getElem?_toArray, List.getElem?_cons_zero, List.getElem?_cons_succ]; rfl
  case hQz75 => exact fun _ _ _ h => h
  case hyz75 => refine yields_loadSP w.heap.size 64 (tKey.enc c) (by rw [tKey.len _ HC.out]; exact aggKey) (fun W hW => (HQ.out W hW).2.2.1) ?_ _ rfl rfl; rfl
  try simp only [Act.put, List.setIfInBounds_toArray, List.set_cons_zero, List.set_cons_succ]
  refine wpAnyH_take (i := 9) (oi := ?oiz76) (v := ?vz76) ?hiz76 (by kernel_rfl) (by kernel_rfl) (by kernel_rfl) ?hQz76 ?hyz76 (by assumption) ?restz76
  case hiz76 => simp only [List.getElem?_toArray, List.getElem?_cons_zero, List.getElem?_cons_succ]; rfl
  case hQz76 => exact fun _ _ _ h => h
  case hyz76 => exact Or.inl ⟨by rfl, by intro w hSw; (try dsimp only at hSw); go_simp; with_reducible rfl⟩
  try simp only [Act.put, List.setIfInBounds_toArray, List.set_cons_zero, List.set_cons_succ]
  refine wpAnyH_take (i := 10) (oi := ?oiz77) (v := (.agg (numsA .u8 d))) ?hiz77 (by kernel_rfl) (by kernel_rfl) (by kernel_rfl) ?hQz77 ?hyz77 (by assumption) ?restz77
  case hiz77 => simp only [List.getElem?_toArray, List.getElem?_cons_zero, List.getElem?_cons_succ]; rfl
  case hQz77 => exact fun _ _ _ h => h
  case hyz77 => refine yields_loadSP w.heap.size 96 (tKey.enc d) (by rw [tKey.len _ HD.out]; exact aggKey) (fun W hW => (HQ.out W hW).2.2.2) ?_ _ rfl rfl; rfl
  try simp only [Act.put, List.setIfInBounds_toArray, List.set_cons_zero, List.set_cons_succ]
  refine wpAnyH_ready (rs := [6]) (by kernel_rfl) (by simp) (AllReadyH.cons (o := ?oy786) ?hy786 (fun K hK => ?sy786) AllReadyH.nil)
  case hy786 => simp only [List.getElem?_toArray, List.getElem?_cons_zero, List.getElem?_cons_succ]; rfl
  go_simp
  refine (NP.out _).mono ?_
  rintro e w5 ⟨rfl, hx⟩
  have hH2 := hHeld.trans hx
  refine hK.out _ _ hH2 (fun _ => ?_)
  clear hHeld hK K
  have hHeld := hH2
  clear hH2
  try simp only [Act.put, List.setIfInBounds_toArray, List.set_cons_zero, List.set_cons_succ]
  refine wpAnyH_ready (rs := [11]) (by kernel_rfl) (by simp) (AllReadyH.cons (o := ?oy7911) ?hy7911 (fun K hK => ?sy7911) AllReadyH.nil)
  case hy7911 => simp only [List.getElem?_toArray, List.getElem?_cons_zero, List.getElem?_cons_succ]; rfl
  go_simp
  refine (NQ.out _).mono ?_
  rintro e w6 ⟨rfl, hx⟩
  have hH2 := hHeld.trans hx
  refine hK.out _ _ hH2 (fun _ => ?_)
  clear hHeld hK K
  have hHeld := hH2
  clear hH2
  try simp only [Act.put, List.setIfInBounds_toArray, List.set_cons_zero, List.set_cons_succ]
  refine wpAnyH_take (i := 12) (oi := ?oiz80) (v := (.bool R)) ?hiz80 (by kernel_rfl) (by kernel_rfl) (by kernel_rfl) ?hQz80 ?hyz80 (by assumption) ?restz80
  case hiz80 => simp only [List.getElem?_toArray, List.getElem?_cons_zero, List.getElem?_cons_succ]; rfl
  case hQz80 => exact fun _ _ _ h => h
  case hyz80 => exact Or.inl ⟨by rfl, by intro w hSw; (try dsimp only at hSw); go_simp; (try with_reducible rfl)⟩
  try simp only [Act.put, List.setIfInBounds_toArray, List.set_cons_zero, List.set_cons_succ]
  refine wpAnyH_take (i := 13) (oi := ?oiz81) (v := ?vz81) ?hiz81 (by kernel_rfl) (by kernel_rfl) (by kernel_rfl) ?hQz81 ?hyz81 (by assumption) ?restz81
  case hiz81 => simp only [List.getElem?_toArray, List.getElem?_cons_zero, List.getElem?_cons_succ]; rfl
  case hQz81 => exact fun _ _ _ h => h
  case hyz81 => exact Or.inl ⟨by rfl, by intro w hSw; (try dsimp only at hSw); go_simp; with_reducible rfl⟩
  try simp only [Act.put, List.setIfInBounds_toArray, List.set_cons_zero, List.set_cons_succ]
  refine wpAnyH_take (i := 14) (oi := ?oiz82) (v := ?vz82) ?hiz82 (by kernel_rfl) (by kernel_rfl) (by kernel_rfl) ?hQz82 ?hyz82 (by assumption) ?restz82
  case hiz82 => simp only [List.getElem?_toArray, List.getElem?_cons_zero, List.getElem?_cons_succ]; rfl
  case hQz82 => exact fun _ _ _ h => h
  case hyz82 => exact Or.inl ⟨by rfl, by intro w hSw; (try dsimp only at hSw); go_simp; with_reducible rfl⟩
  try simp only [Act.put, List.setIfInBounds_toArray, List.set_cons_zero, List.set_cons_succ]
  have HX9 := Lib.hid (HX0.out.trans hHeld)
  refine wpAnyH_done (by kernel_rfl) ?_ _
  go_wp2
  go_ret
  exact ⟨rfl, HX9.out⟩
theorem validClashI_any (a b c d : List Int) (ha : K32 a) (hb : K32 b) (hc : K32 c) (hd : K32 d) (hu : a ≠ c ∨ b ≠ d) (w : World) :
    Calls Try.prog 34 #[.agg (numsA .u8 (a ++ b ++ c ++ d))] w fun q w' => q = .returned (.bool (decide (ndK a b = ndK c d))) ∧ Ext w w' := by
  by_cases h : a = c
  · exact vcI1 a b c d ha hb hc hd ⟨h, hu.resolve_left (fun n => n h)⟩ w
  · exact vcI0 a b c d ha hb hc hd h w
theorem validClashS_any (a b c d : List Int) (ha : K32 a) (hb : K32 b) (hc : K32 c) (hd : K32 d) (hu : a ≠ c ∨ b ≠ d) (w : World) :
    Calls Try.prog 33 #[.agg (numsA .u8 (a ++ b ++ c ++ d))] w fun q w' => q = .returned (.bool (decide (ndK a b = ndK c d))) ∧ Ext w w' := by
  by_cases h : a = c
  · exact vcS1 a b c d ha hb hc hd ⟨h, hu.resolve_left (fun n => n h)⟩ w
  · exact vcS0 a b c d ha hb hc hd h w
end Go.Proofs.Ytdjclllnmclocaa
/- The clash that a proof of another leaf shows: the program. No condition. -/
namespace Go.Proofs.Ytdjclllnmclocaa
open Go.RowKit Go.BigFrame
set_option linter.unusedVariables false
set_option linter.unusedSimpArgs false

theorem quad_splice (P M R M' : List Int) {xs : List Int} (hx : xs = P ++ M ++ R) {o : Nat} (ho : P.length = o) (hm : M'.length = M.length) : splice (numsA .u8 xs) o (numsA .u8 M').toList = numsA .u8 (P ++ M' ++ R) := by
  subst hx ho
  unfold splice numsA nums
  congr 1
  simp only [List.map_append]
  have e1 : ((P.map (Value.int .u8)) ++ (M.map (Value.int .u8)) ++ (R.map (Value.int .u8))).take P.length = P.map (Value.int .u8) := by
    rw [List.append_assoc, List.take_left' (by simp)]
  have e2 : ((P.map (Value.int .u8)) ++ (M.map (Value.int .u8)) ++ (R.map (Value.int .u8))).drop (P.length + (M'.map (Value.int .u8)).length) = R.map (Value.int .u8) := by
    rw [List.drop_left' (by simp [hm])]
  rw [e1, e2]
def zero128 : List Int := List.replicate 32 0 ++ List.replicate 32 0 ++ List.replicate 32 0 ++ List.replicate 32 0
theorem built_clash : Try.prog.built 62 [] = some (numsA .u8 zero128) := by kernel_rfl
theorem info_clash : (Try.prog.info? 62).map (·.zero) = some (some (.agg (numsA .u8 zero128))) := by kernel_rfl
theorem zero128_eq : ∃ z : List Int, z.length = 32 ∧ zero128 = z ++ z ++ z ++ z := ⟨_, List.length_replicate, rfl⟩
/-- what ClashOfProof gives back -/
def clpR (same : Prop) (other : Prop) (C : List Int) (code : Int) : Prop :=
  C.length = 128 ∧ ((¬ same ∧ code = 4) ∨ (same ∧ ¬ other ∧ code = 6) ∨ (same ∧ other ∧ code = 0 ∧ ∃ a b c d, K32 a ∧ K32 b ∧ K32 c ∧ K32 d ∧ C = a ++ b ++ c ++ d ∧ (a ≠ c ∨ b ≠ d) ∧ ndK a b = ndK c d))
set_option maxHeartbeats 16000000 in
set_option maxRecDepth 100000 in
theorem clashOfProof_any (n i : Nat) (hn : n ≤ 256) (hi : i < n) (xs : List (List Int)) (hlx : xs.length = n) (leaf : List Int) (hleaf : K32 leaf) (v u : Value) (w : World) (S S' : Nat → Prop) (h : RdL tKey w S v xs) (h' : RdL tKey w S' u (prf xs i)) :
    Calls Try.prog 32 #[v, .int .i64 i, .agg (numsA .u8 leaf), u] w fun q w' => ∃ C code, q = .returned (.tuple #[.agg (numsA .u8 C), .int .i64 code]) ∧ clpR (chk leaf (prf xs i) (sd n i).reverse = lk xs) (leaf ≠ xs[i]'(by omega)) C code ∧ Ext w w' := by
  have hok : ∀ x ∈ xs, K32 x := by obtain ⟨_, _, _, _, _, _, h⟩ := h; exact h
  have hpl := prf_len n xs i hlx
  have hpc := prf_chk n xs i hlx (by omega)
  have hple := prf_le hok i
  have hpo := prf_ok hok i
  have HX0K := Lib.hid (hok (xs[i]'(by omega)) (List.getElem_mem _))
  have HLK := Lib.hid (lk_ok hok)
  have HSD := Lib.hid (fun W => sides_any n i hn hi W)
  have HLIST := Lib.hid (fun W hW => listKey_any n hn v xs W S hlx hW)
  have HCHECK := Lib.hid (fun W hW => checkProof_any n i hn hi (lk xs) leaf HLK.out hleaf u (prf xs i) (by omega) W S' hW hpl)
  have HPROOF := Lib.hid (fun W hW => proofOf_any n hn i v xs W S hi hlx hW)
  have H1 := Lib.hid h
  have H2 := Lib.hid h'
  obtain ⟨A, cap, rfl, hcap, _, hrd, _⟩ := id h
  obtain ⟨A2, cap2, rfl, hcap2, _, hrd2, _⟩ := id h'
  obtain ⟨g, o, rfl, hs, hc⟩ := hrd.elem hok i (by omega)
  have HCX := Lib.hid (show ∀ W, Ext w W → ∀ j2 u, (tKey.enc (xs[i]'(by omega)))[j2]? = some u → W.cell? ⟨g, o + i * 32 + j2, none⟩ = some u from fun W hW j2 u hu => hW.cell (hc j2 u hu))
  obtain ⟨x0, hx0⟩ : ∃ x0, xs[i]'(by omega) = x0 := ⟨_, rfl⟩
  rw [hx0] at HX0K HCX hpc ⊢
  obtain ⟨root, hroot⟩ : ∃ root, lk xs = root := ⟨_, rfl⟩
  rw [hroot] at HLK HLIST HCHECK hpc ⊢
  obtain ⟨ps, hps⟩ : ∃ ps, prf xs i = ps := ⟨_, rfl⟩
  simp only [hps] at HCHECK HPROOF H2 hpl hpc hple hpo hcap2 ⊢
  obtain ⟨bs, hbs⟩ : ∃ bs, (sd n i).reverse = bs := ⟨_, rfl⟩
  have hbl : ps.length = bs.length := by rw [hpl, ← hbs, List.length_reverse]
  rw [hbs] at HSD HCHECK hpc ⊢
  obtain ⟨m, hm⟩ : ∃ m, ps.length = m := ⟨_, rfl⟩
  rw [hm] at H2 HCHECK hcap2 ⊢
  rw [hlx] at H1 HLIST HPROOF hcap ⊢
  have HM := Lib.hid hm
  have HBL := Lib.hid hbl
  have HPC := Lib.hid hpc
  have HPO := Lib.hid hpo
  have HLF := Lib.hid hleaf
  have hm256 : m ≤ 256 := by omega
  have hw := fun W => within_any (i : Int) 0 ((n : Int) - 1) W
  obtain ⟨R, hR⟩ : ∃ R, (decide ((0 : Int) ≤ (i : Int)) && decide ((i : Int) ≤ (n : Int) - 1)) = R := ⟨_, rfl⟩
  rw [hR] at hw
  obtain rfl : R = true := by rw [← hR]; simp; omega
  have hw1 : IntKind.i64.wrap ((n : Int) - 1) = (n : Int) - 1 := IntWalk.i64_in _ (by omega)
  have hd1 : ¬ (256 : Int) < (n : Int) := by omega
  have hd2 : ¬ (256 : Int) < (m : Int) := by omega
  obtain ⟨b0, hb0⟩ : ∃ b0, decide (chk leaf ps bs = root) = b0 := ⟨_, rfl⟩
  rw [hb0] at HCHECK
  have HB0 := Lib.hid hb0
  have heq := run_eqKey leaf x0 HLF.out HX0K.out
  have hsl := sizeN (k := .u8) HLF.out.1
  have hsx := sizeN (k := .u8) HX0K.out.1
  have q0 : (0 : Int) ≤ (i : Int) := by omega
  have q1 : (i : Int) < (n : Int) := by omega
  have q2 : (i : Int) ≤ (cap : Int) := by omega
  have HI := Lib.hid hi
  have HN := Lib.hid hn
  have HCP2 := Lib.hid hcap2
  clear hR hok hpl hpc hple hpo h h' hrd hrd2 hs hc hx0 hroot hps hbs hbl hm hleaf hb0 hlx hi hn
  have hbC := built_clash
  have hzC := info_clash
  obtain ⟨z, hz32, hzz⟩ := zero128_eq
  rw [hzz] at hbC hzC
  have HZ32 := Lib.hid hz32
  have HZL := Lib.hid (show (z ++ z ++ z ++ z).length = 128 by simp [hz32])
  obtain ⟨ZC, hZC⟩ : ∃ ZC, z ++ z ++ z ++ z = ZC := ⟨_, rfl⟩
  rw [hZC] at hbC hzC HZL
  have HZC := Lib.hid hZC
  have hzA : (Try.prog.info? 28).map (·.zero) = some (some (.agg (numsA .u8 (List.replicate 32 0)))) := by kernel_rfl
  have hzs : (numsA .u8 (List.replicate 32 0)).size = 32 := by simp [numsA, nums]
  generalize numsA .u8 (List.replicate 32 0) = Z at hzA hzs
  have HZS := Lib.hid hzs
  clear hz32 hzz hZC hzs
  have B6 := Lib.hid ((Blk.new w 28 (numsA .u8 leaf)).alloc (.cells (numsA .u8 ZC) 62))
  have B8 := Lib.hid (Blk.new' (g := w.heap.size + 1) (w := w.alloc (.cells (numsA .u8 leaf) 28)) (by simp) 62 (numsA .u8 ZC))
  have HX := Lib.hid ((ext_alloc w (.cells (numsA .u8 leaf) 28)).alloc (.cells (numsA .u8 ZC) 62))
  have HSZ := Lib.hid (show ((w.alloc (.cells (numsA .u8 leaf) 28)).alloc (.cells (numsA .u8 ZC) 62)).heap.size = w.heap.size + 2 by simp)
  go_enter Try.func32, Try.ntmps32
  go_wp2_with (refine wpl_alloc (numsA .u8 ZC) hzC rfl rfl ?_)
  generalize (w.alloc (.cells (numsA .u8 leaf) 28)).alloc (.cells (numsA .u8 ZC) 62) = w1 at B6 B8 HX HSZ ⊢
  refine (sizeKey_any _ _ _ _).mono ?_
  rintro e w' ⟨rfl, rfl⟩
  go_wp2_with fail
  refine (hw _).mono ?_
  rintro e w' ⟨rfl, rfl⟩
  clear hw
  go_wp2_with fail
  refine wp_region_held_drew (S := fun W => Ext w1 W) (by kernel_rfl) ((Ext.refl w1).drew) (fun hHeld => ?_)
  refine wpAnyH_take (i := 0) (oi := ?oiz1) (v := ?vz1) ?hiz1 (by kernel_rfl) (by kernel_rfl) (by kernel_rfl) ?hQz1 ?hyz1 (by assumption) ?restz1
  case hiz1 => simp only [List.getElem?_toArray, List.getElem?_cons_zero, List.getElem?_cons_succ]; rfl
  case hQz1 => exact fun _ _ _ h => h
  case hyz1 => exact Or.inl ⟨by rfl, by intro w hSw; (try dsimp only at hSw); go_simp; with_reducible rfl⟩
  try simp only [Act.put, List.setIfInBounds_toArray, List.set_cons_zero, List.set_cons_succ]
  refine wpAnyH_take (i := 2) (oi := ?oiz2) (v := ?vz2) ?hiz2 (by kernel_rfl) (by kernel_rfl) (by kernel_rfl) ?hQz2 ?hyz2 (by assumption) ?restz2
  case hiz2 => simp only [List.getElem?_toArray, List.getElem?_cons_zero, List.getElem?_cons_succ]; rfl
  case hQz2 => exact fun _ _ _ h => h
  case hyz2 => exact Or.inl ⟨by rfl, by intro w hSw; (try dsimp only at hSw); go_simp; with_reducible rfl⟩
  try simp only [Act.put, List.setIfInBounds_toArray, List.set_cons_zero, List.set_cons_succ]
  refine wpAnyH_take (i := 3) (oi := ?oiz3) (v := ?vz3) ?hiz3 (by kernel_rfl) (by kernel_rfl) (by kernel_rfl) ?hQz3 ?hyz3 (by assumption) ?restz3
  case hiz3 => simp only [List.getElem?_toArray, List.getElem?_cons_zero, List.getElem?_cons_succ]; rfl
  case hQz3 => exact fun _ _ _ h => h
  case hyz3 => exact Or.inl ⟨by rfl, by intro w hSw; (try dsimp only at hSw); go_simp; with_reducible rfl⟩
  try simp only [Act.put, List.setIfInBounds_toArray, List.set_cons_zero, List.set_cons_succ]
  refine wpAnyH_take (i := 4) (oi := ?oiz4) (v := (.agg (numsA .u8 leaf))) ?hiz4 (by kernel_rfl) (by kernel_rfl) (by kernel_rfl) ?hQz4 ?hyz4 (by assumption) ?restz4
  case hiz4 => simp only [List.getElem?_toArray, List.getElem?_cons_zero, List.getElem?_cons_succ]; rfl
  case hQz4 => exact fun _ _ _ h => h
  case hyz4 => refine yields_loadBSP (fun W hW => B6.out.ext hW) aggKey hsl ?_ _ rfl rfl; rfl
  try simp only [Act.put, List.setIfInBounds_toArray, List.set_cons_zero, List.set_cons_succ]
  refine wpAnyH_take (i := 5) (oi := ?oiz5) (v := ?vz5) ?hiz5 (by kernel_rfl) (by kernel_rfl) (by kernel_rfl) ?hQz5 ?hyz5 (by assumption) ?restz5
  case hiz5 => simp only [List.getElem?_toArray, List.getElem?_cons_zero, List.getElem?_cons_succ]; rfl
  case hQz5 => exact fun _ _ _ h => h
  case hyz5 => exact Or.inl ⟨by rfl, by intro w hSw; (try dsimp only at hSw); go_simp; with_reducible rfl⟩
  try simp only [Act.put, List.setIfInBounds_toArray, List.set_cons_zero, List.set_cons_succ]
  refine wpAnyH_ready (rs := [1]) (by kernel_rfl) (by simp) (AllReadyH.cons (o := ?oy61) ?hy61 (fun K hK => ?sy61) AllReadyH.nil)
  case hy61 => simp only [List.getElem?_toArray, List.getElem?_cons_zero, List.getElem?_cons_succ]; rfl
  go_simp
  refine (HLIST.out _ (H1.out.ext (by decide) (HX.out.trans hHeld))).mono ?_
  rintro e w2 ⟨rfl, hx⟩
  have hH2 := hHeld.trans hx
  refine hK.out _ _ hH2 (fun _ => ?_)
  clear hHeld hK K
  have hHeld := hH2
  clear hH2
  try simp only [Act.put, List.setIfInBounds_toArray, List.set_cons_zero, List.set_cons_succ]
  refine wpAnyH_ready (rs := [6]) (by kernel_rfl) (by simp) (AllReadyH.cons (o := ?oy76) ?hy76 (fun K hK => ?sy76) AllReadyH.nil)
  case hy76 => simp only [List.getElem?_toArray, List.getElem?_cons_zero, List.getElem?_cons_succ]; rfl
  go_simp
  refine (HCHECK.out _ (H2.out.ext (by decide) (HX.out.trans hHeld))).mono ?_
  rintro e w3 ⟨rfl, hx⟩
  have hH2 := hHeld.trans hx
  refine hK.out _ _ hH2 (fun _ => ?_)
  clear hHeld hK K
  have hHeld := hH2
  clear hH2
  try simp only [Act.put, List.setIfInBounds_toArray, List.set_cons_zero, List.set_cons_succ]
  refine wpAnyH_take (i := 7) (oi := ?oiz8) (v := ?vz8) ?hiz8 (by kernel_rfl) (by kernel_rfl) (by kernel_rfl) ?hQz8 ?hyz8 (by assumption) ?restz8
  case hiz8 => simp only [List.getElem?_toArray, List.getElem?_cons_zero, List.getElem?_cons_succ]; rfl
  case hQz8 => exact fun _ _ _ h => h
  case hyz8 => exact Or.inl ⟨by rfl, by intro w hSw; (try dsimp only at hSw); go_simp; with_reducible rfl⟩
  try simp only [Act.put, List.setIfInBounds_toArray, List.set_cons_zero, List.set_cons_succ]
  refine wpAnyH_take (i := 8) (oi := ?oiz9) (v := ?vz9) ?hiz9 (by kernel_rfl) (by kernel_rfl) (by kernel_rfl) ?hQz9 ?hyz9 (by assumption) ?restz9
  case hiz9 => simp only [List.getElem?_toArray, List.getElem?_cons_zero, List.getElem?_cons_succ]; rfl
  case hQz9 => exact fun _ _ _ h => h
  case hyz9 => exact Or.inl ⟨by rfl, by intro w hSw; (try dsimp only at hSw); go_simp; with_reducible rfl⟩
  try simp only [Act.put, List.setIfInBounds_toArray, List.set_cons_zero, List.set_cons_succ]
  refine wpAnyH_take (i := 9) (oi := ?oiz10) (v := ?vz10) ?hiz10 (by kernel_rfl) (by kernel_rfl) (by kernel_rfl) ?hQz10 ?hyz10 (by assumption) ?restz10
  case hiz10 => simp only [List.getElem?_toArray, List.getElem?_cons_zero, List.getElem?_cons_succ]; rfl
  case hQz10 => exact fun _ _ _ h => h
  case hyz10 => exact Or.inl ⟨by rfl, by intro w hSw; (try dsimp only at hSw); go_simp; with_reducible rfl⟩
  try simp only [Act.put, List.setIfInBounds_toArray, List.set_cons_zero, List.set_cons_succ]
  refine wpAnyH_take (i := 10) (oi := ?oiz11) (v := ?vz11) ?hiz11 (by kernel_rfl) (by kernel_rfl) (by kernel_rfl) ?hQz11 ?hyz11 (by assumption) ?restz11
  case hiz11 => simp only [List.getElem?_toArray, List.getElem?_cons_zero, List.getElem?_cons_succ]; rfl
  case hQz11 => exact fun _ _ _ h => h
  case hyz11 => exact Or.inl ⟨by rfl, by intro w hSw; (try dsimp only at hSw); go_simp; with_reducible rfl⟩
  try simp only [Act.put, List.setIfInBounds_toArray, List.set_cons_zero, List.set_cons_succ]
  refine wpAnyH_take (i := 11) (oi := ?oiz12) (v := ?vz12) ?hiz12 (by kernel_rfl) (by kernel_rfl) (by kernel_rfl) ?hQz12 ?hyz12 (by assumption) ?restz12
  case hiz12 => simp only [List.getElem?_toArray, List.getElem?_cons_zero, List.getElem?_cons_succ]; rfl
  case hQz12 => exact fun _ _ _ h => h
  case hyz12 => exact Or.inl ⟨by rfl, by intro w hSw; (try dsimp only at hSw); go_simp; with_reducible rfl⟩
  try simp only [Act.put, List.setIfInBounds_toArray, List.set_cons_zero, List.set_cons_succ]
  have B62 := Lib.hid (B6.out.ext hHeld)
  have B82 := Lib.hid (B8.out.ext hHeld)
  have HX2 := Lib.hid (HX.out.trans hHeld)
  have HS2 := Lib.hid (show w.heap.size + 2 ≤ w3.heap.size by have := hHeld.size; have := HSZ.out; omega)
  clear hHeld B6 B8 HX HSZ
  refine wpAnyH_done (by kernel_rfl) ?_ _
  cases b0 with
  | false =>
    have HNS := Lib.hid (of_decide_eq_false HB0.out)
    go_wp2_with (first
      | (refine wpl_buildN rfl rfl hbC ?_)
      | (refine wpl_storeN B82.out aggClash HZL.out (by rw [numsA_size]; exact HZL.out) rfl _ _ rfl rfl rfl rfl ?_))
    refine bodyPost_ret (results_kc rfl _ rfl aggClash (sizeN HZL.out) (B82.out.setRow _) rfl) rfl ?_
    exact ⟨_, _, rfl, ⟨HZL.out, .inl ⟨HNS.out, rfl⟩⟩, HX2.out.setRow (by omega) _⟩
  | true =>
    have HYS := Lib.hid (of_decide_eq_true HB0.out)
    clear HB0 HCHECK HLIST
    by_cases hlx : leaf = x0
    · have heq2 := heq
      rw [decide_eq_true hlx] at heq2
      have HLX := Lib.hid hlx
      clear heq hlx
      go_wp2_with fail
      refine wp_region_held_drew (S := fun W => Ext w3 W) (by kernel_rfl) ((Ext.refl w3).drew) (fun hHeld => ?_)
      refine wpAnyH_take (i := 0) (oi := ?oiz13) (v := (.agg (numsA .u8 leaf))) ?hiz13 (by kernel_rfl) (by kernel_rfl) (by kernel_rfl) ?hQz13 ?hyz13 (by assumption) ?restz13
      case hiz13 => simp only [List.getElem?_toArray, List.getElem?_cons_zero, List.getElem?_cons_succ]; rfl
      case hQz13 => exact fun _ _ _ h => h
      case hyz13 => refine yields_loadBSP (fun W hW => B62.out.ext hW) aggKey hsl ?_ _ rfl rfl; rfl
      try simp only [Act.put, List.setIfInBounds_toArray, List.set_cons_zero, List.set_cons_succ]
      refine wpAnyH_take (i := 1) (oi := ?oiz14) (v := ?vz14) ?hiz14 (by kernel_rfl) (by kernel_rfl) (by kernel_rfl) ?hQz14 ?hyz14 (by assumption) ?restz14
      case hiz14 => simp only [List.getElem?_toArray, List.getElem?_cons_zero, List.getElem?_cons_succ]; rfl
      case hQz14 => exact fun _ _ _ h => h
      case hyz14 => exact Or.inl ⟨by rfl, by intro w hSw; (try dsimp only at hSw); go_simp; with_reducible rfl⟩
      try simp only [Act.put, List.setIfInBounds_toArray, List.set_cons_zero, List.set_cons_succ]
      refine wpAnyH_take (i := 2) (oi := ?oiz15) (v := ?vz15) ?hiz15 (by kernel_rfl) (by kernel_rfl) (by kernel_rfl) ?hQz15 ?hyz15 (by assumption) ?restz15
      case hiz15 => simp only [List.getElem?_toArray, List.getElem?_cons_zero, List.getElem?_cons_succ]; rfl
      case hQz15 => exact fun _ _ _ h => h
      case hyz15 => exact Or.inl ⟨by rfl, by intro w hSw; (try dsimp only at hSw); go_simp; with_reducible rfl⟩
      try simp only [Act.put, List.setIfInBounds_toArray, List.set_cons_zero, List.set_cons_succ]
      refine wpAnyH_take (i := 3) (oi := ?oiz16) (v := ?vz16) ?hiz16 (by kernel_rfl) (by kernel_rfl) (by kernel_rfl) ?hQz16 ?hyz16 (by assumption) ?restz16
      case hiz16 => simp only [List.getElem?_toArray, List.getElem?_cons_zero, List.getElem?_cons_succ]; rfl
      case hQz16 => exact fun _ _ _ h => h
      case hyz16 => exact Or.inl ⟨by rfl, by intro w hSw; (try dsimp only at hSw); go_simp; with_reducible rfl⟩
      try simp only [Act.put, List.setIfInBounds_toArray, List.set_cons_zero, List.set_cons_succ]
      refine wpAnyH_take (i := 4) (oi := ?oiz17) (v := (.agg (numsA .u8 x0))) ?hiz17 (by kernel_rfl) (by kernel_rfl) (by kernel_rfl) ?hQz17 ?hyz17 (by assumption) ?restz17
      case hiz17 => simp only [List.getElem?_toArray, List.getElem?_cons_zero, List.getElem?_cons_succ]; rfl
      case hQz17 => exact fun _ _ _ h => h
      case hyz17 => refine yields_loadSP g (o + i * 32) (tKey.enc x0) (by rw [tKey.len _ HX0K.out]; exact aggKey) (fun W hW => HCX.out W (HX2.out.trans hW)) ?_ _ rfl rfl; rfl
      try simp only [Act.put, List.setIfInBounds_toArray, List.set_cons_zero, List.set_cons_succ]
      refine wpAnyH_take (i := 5) (oi := ?oiz18) (v := ?vz18) ?hiz18 (by kernel_rfl) (by kernel_rfl) (by kernel_rfl) ?hQz18 ?hyz18 (by assumption) ?restz18
      case hiz18 => simp only [List.getElem?_toArray, List.getElem?_cons_zero, List.getElem?_cons_succ]; rfl
      case hQz18 => exact fun _ _ _ h => h
      case hyz18 => exact Or.inl ⟨by rfl, by intro w hSw; (try dsimp only at hSw); go_simp; (try with_reducible rfl)⟩
      try simp only [Act.put, List.setIfInBounds_toArray, List.set_cons_zero, List.set_cons_succ]
      have B63 := Lib.hid (B62.out.ext hHeld)
      have B83 := Lib.hid (B82.out.ext hHeld)
      have HX3 := Lib.hid (HX2.out.trans hHeld)
      have HS3 := Lib.hid (show w.heap.size + 2 ≤ w3.drew.heap.size from HS2.out)
      generalize w3.drew = w4 at B63 B83 HX3 HS3 ⊢
      clear hHeld B62 B82 HX2 HS2
      refine wpAnyH_done (by kernel_rfl) ?_ _
      go_wp2_with (first
        | (refine wpl_buildN rfl rfl hbC ?_)
        | (refine wpl_storeN B83.out aggClash HZL.out (by rw [numsA_size]; exact HZL.out) rfl _ _ rfl rfl rfl rfl ?_))
      refine bodyPost_ret (results_kc rfl _ rfl aggClash (sizeN HZL.out) (B83.out.setRow _) rfl) rfl ?_
      exact ⟨_, _, rfl, ⟨HZL.out, .inr (.inl ⟨HYS.out, fun h => h HLX.out, rfl⟩)⟩, HX3.out.setRow (by omega) _⟩
    · have heq2 := heq
      rw [decide_eq_false hlx] at heq2
      have HLX := Lib.hid hlx
      clear heq hlx
      go_wp2_with fail
      refine wp_region_held_drew (S := fun W => Ext w3 W) (by kernel_rfl) ((Ext.refl w3).drew) (fun hHeld => ?_)
      refine wpAnyH_take (i := 0) (oi := ?oiz19) (v := (.agg (numsA .u8 leaf))) ?hiz19 (by kernel_rfl) (by kernel_rfl) (by kernel_rfl) ?hQz19 ?hyz19 (by assumption) ?restz19
      case hiz19 => simp only [List.getElem?_toArray, List.getElem?_cons_zero, List.getElem?_cons_succ]; rfl
      case hQz19 => exact fun _ _ _ h => h
      case hyz19 => refine yields_loadBSP (fun W hW => B62.out.ext hW) aggKey hsl ?_ _ rfl rfl; rfl
      try simp only [Act.put, List.setIfInBounds_toArray, List.set_cons_zero, List.set_cons_succ]
      refine wpAnyH_take (i := 1) (oi := ?oiz20) (v := ?vz20) ?hiz20 (by kernel_rfl) (by kernel_rfl) (by kernel_rfl) ?hQz20 ?hyz20 (by assumption) ?restz20
      case hiz20 => simp only [List.getElem?_toArray, List.getElem?_cons_zero, List.getElem?_cons_succ]; rfl
      case hQz20 => exact fun _ _ _ h => h
      case hyz20 => exact Or.inl ⟨by rfl, by intro w hSw; (try dsimp only at hSw); go_simp; with_reducible rfl⟩
      try simp only [Act.put, List.setIfInBounds_toArray, List.set_cons_zero, List.set_cons_succ]
      refine wpAnyH_take (i := 2) (oi := ?oiz21) (v := ?vz21) ?hiz21 (by kernel_rfl) (by kernel_rfl) (by kernel_rfl) ?hQz21 ?hyz21 (by assumption) ?restz21
      case hiz21 => simp only [List.getElem?_toArray, List.getElem?_cons_zero, List.getElem?_cons_succ]; rfl
      case hQz21 => exact fun _ _ _ h => h
      case hyz21 => exact Or.inl ⟨by rfl, by intro w hSw; (try dsimp only at hSw); go_simp; with_reducible rfl⟩
      try simp only [Act.put, List.setIfInBounds_toArray, List.set_cons_zero, List.set_cons_succ]
      refine wpAnyH_take (i := 3) (oi := ?oiz22) (v := ?vz22) ?hiz22 (by kernel_rfl) (by kernel_rfl) (by kernel_rfl) ?hQz22 ?hyz22 (by assumption) ?restz22
      case hiz22 => simp only [List.getElem?_toArray, List.getElem?_cons_zero, List.getElem?_cons_succ]; rfl
      case hQz22 => exact fun _ _ _ h => h
      case hyz22 => exact Or.inl ⟨by rfl, by intro w hSw; (try dsimp only at hSw); go_simp; with_reducible rfl⟩
      try simp only [Act.put, List.setIfInBounds_toArray, List.set_cons_zero, List.set_cons_succ]
      refine wpAnyH_take (i := 4) (oi := ?oiz23) (v := (.agg (numsA .u8 x0))) ?hiz23 (by kernel_rfl) (by kernel_rfl) (by kernel_rfl) ?hQz23 ?hyz23 (by assumption) ?restz23
      case hiz23 => simp only [List.getElem?_toArray, List.getElem?_cons_zero, List.getElem?_cons_succ]; rfl
      case hQz23 => exact fun _ _ _ h => h
      case hyz23 => refine yields_loadSP g (o + i * 32) (tKey.enc x0) (by rw [tKey.len _ HX0K.out]; exact aggKey) (fun W hW => HCX.out W (HX2.out.trans hW)) ?_ _ rfl rfl; rfl
      try simp only [Act.put, List.setIfInBounds_toArray, List.set_cons_zero, List.set_cons_succ]
      refine wpAnyH_take (i := 5) (oi := ?oiz24) (v := ?vz24) ?hiz24 (by kernel_rfl) (by kernel_rfl) (by kernel_rfl) ?hQz24 ?hyz24 (by assumption) ?restz24
      case hiz24 => simp only [List.getElem?_toArray, List.getElem?_cons_zero, List.getElem?_cons_succ]; rfl
      case hQz24 => exact fun _ _ _ h => h
      case hyz24 => exact Or.inl ⟨by rfl, by intro w hSw; (try dsimp only at hSw); go_simp; (try with_reducible rfl)⟩
      try simp only [Act.put, List.setIfInBounds_toArray, List.set_cons_zero, List.set_cons_succ]
      have B63 := Lib.hid (B62.out.ext hHeld)
      have B83 := Lib.hid (B82.out.ext hHeld)
      have HX3 := Lib.hid (HX2.out.trans hHeld)
      have HS3 := Lib.hid (show w.heap.size + 2 ≤ w3.drew.heap.size from HS2.out)
      generalize w3.drew = w4 at B63 B83 HX3 HS3 ⊢
      clear hHeld B62 B82 HX2 HS2
      refine wpAnyH_done (by kernel_rfl) ?_ _
      go_wp2_with fail
      refine wp_region_held_drew (S := fun W => Ext w4 W) (by kernel_rfl) ((Ext.refl w4).drew) (fun hHeld => ?_)
      refine wpAnyH_take (i := 0) (oi := ?oiz25) (v := ?vz25) ?hiz25 (by kernel_rfl) (by kernel_rfl) (by kernel_rfl) ?hQz25 ?hyz25 (by assumption) ?restz25
      case hiz25 => simp only [List.getElem?_toArray, List.getElem?_cons_zero, List.getElem?_cons_succ]; rfl
      case hQz25 => exact fun _ _ _ h => h
      case hyz25 => exact Or.inl ⟨by rfl, by intro w hSw; (try dsimp only at hSw); go_simp; with_reducible rfl⟩
      try simp only [Act.put, List.setIfInBounds_toArray, List.set_cons_zero, List.set_cons_succ]
      refine wpAnyH_take (i := 1) (oi := ?oiz26) (v := ?vz26) ?hiz26 (by kernel_rfl) (by kernel_rfl) (by kernel_rfl) ?hQz26 ?hyz26 (by assumption) ?restz26
      case hiz26 => simp only [List.getElem?_toArray, List.getElem?_cons_zero, List.getElem?_cons_succ]; rfl
      case hQz26 => exact fun _ _ _ h => h
      case hyz26 => exact Or.inl ⟨by rfl, by intro w hSw; (try dsimp only at hSw); go_simp; with_reducible rfl⟩
      try simp only [Act.put, List.setIfInBounds_toArray, List.set_cons_zero, List.set_cons_succ]
      refine wpAnyH_take (i := 2) (oi := ?oiz27) (v := ?vz27) ?hiz27 (by kernel_rfl) (by kernel_rfl) (by kernel_rfl) ?hQz27 ?hyz27 (by assumption) ?restz27
      case hiz27 => simp only [List.getElem?_toArray, List.getElem?_cons_zero, List.getElem?_cons_succ]; rfl
      case hQz27 => exact fun _ _ _ h => h
      case hyz27 => exact Or.inl ⟨by rfl, by intro w hSw; (try dsimp only at hSw); go_simp; with_reducible rfl⟩
      try simp only [Act.put, List.setIfInBounds_toArray, List.set_cons_zero, List.set_cons_succ]
      refine wpAnyH_take (i := 3) (oi := ?oiz28) (v := (.agg (numsA .u8 x0))) ?hiz28 (by kernel_rfl) (by kernel_rfl) (by kernel_rfl) ?hQz28 ?hyz28 (by assumption) ?restz28
      case hiz28 => simp only [List.getElem?_toArray, List.getElem?_cons_zero, List.getElem?_cons_succ]; rfl
      case hQz28 => exact fun _ _ _ h => h
      case hyz28 => refine yields_loadSP g (o + i * 32) (tKey.enc x0) (by rw [tKey.len _ HX0K.out]; exact aggKey) (fun W hW => HCX.out W (HX3.out.trans hW)) ?_ _ rfl rfl; rfl
      try simp only [Act.put, List.setIfInBounds_toArray, List.set_cons_zero, List.set_cons_succ]
      refine wpAnyH_take (i := 4) (oi := ?oiz29) (v := ?vz29) ?hiz29 (by kernel_rfl) (by kernel_rfl) (by kernel_rfl) ?hQz29 ?hyz29 (by assumption) ?restz29
      case hiz29 => simp only [List.getElem?_toArray, List.getElem?_cons_zero, List.getElem?_cons_succ]; rfl
      case hQz29 => exact fun _ _ _ h => h
      case hyz29 => exact Or.inl ⟨by rfl, by intro w hSw; (try dsimp only at hSw); go_simp; with_reducible rfl⟩
      try simp only [Act.put, List.setIfInBounds_toArray, List.set_cons_zero, List.set_cons_succ]
      refine wpAnyH_take (i := 5) (oi := ?oiz30) (v := ?vz30) ?hiz30 (by kernel_rfl) (by kernel_rfl) (by kernel_rfl) ?hQz30 ?hyz30 (by assumption) ?restz30
      case hiz30 => simp only [List.getElem?_toArray, List.getElem?_cons_zero, List.getElem?_cons_succ]; rfl
      case hQz30 => exact fun _ _ _ h => h
      case hyz30 => exact Or.inl ⟨by rfl, by intro w hSw; (try dsimp only at hSw); go_simp; with_reducible rfl⟩
      try simp only [Act.put, List.setIfInBounds_toArray, List.set_cons_zero, List.set_cons_succ]
      have B64 := Lib.hid (B63.out.ext hHeld)
      have B84 := Lib.hid (B83.out.ext hHeld)
      have HX4 := Lib.hid (HX3.out.trans hHeld)
      have HE4 := Lib.hid hHeld
      have HS4 := Lib.hid (show w.heap.size + 2 ≤ w4.drew.heap.size from HS3.out)
      generalize w4.drew = w5 at hHeld B64 B84 HX4 HE4 HS4 ⊢
      clear B63 B83 HX3 HS3
      refine wpAnyH_ready (rs := [6, 7]) (by kernel_rfl) (by simp) (AllReadyH.cons (o := ?oy316) ?hy316 (fun K hK => ?sy316) (AllReadyH.cons (o := ?oy317) ?hy317 (fun K hK => ?sy317) AllReadyH.nil))
      case hy316 => simp only [List.getElem?_toArray, List.getElem?_cons_zero, List.getElem?_cons_succ]; rfl
      case hy317 => simp only [List.getElem?_toArray, List.getElem?_cons_zero, List.getElem?_cons_succ]; rfl
      case sy316 =>
        go_simp
        refine (HPROOF.out _ (H1.out.ext (by decide) HX4.out)).mono ?_
        rintro e w6 ⟨v6, rfl, ho, hx⟩
        obtain ⟨O, oc, rfl⟩ := ho.shape
        rw [HM.out] at ho ⊢
        have hH2 := hHeld.trans hx
        refine hK.out _ _ hH2 (fun _ => ?_)
        have B65 := Lib.hid (B64.out.ext hx)
        have B85 := Lib.hid (B84.out.ext hx)
        have HX5 := Lib.hid (HX4.out.trans hx)
        have HS5 := Lib.hid (show w.heap.size + 2 ≤ w6.heap.size from Nat.le_trans HS4.out hx.size)
        have HO5 := Lib.hid ho
        clear hHeld hK K hx ho B64 B84 HX4 HE4
        have hHeld := hH2
        clear hH2
        try simp only [Act.put, List.setIfInBounds_toArray, List.set_cons_zero, List.set_cons_succ]
        refine wpAnyH_ready (rs := [7]) (by kernel_rfl) (by simp) (AllReadyH.cons (o := ?oy327) ?hy327 (fun K hK => ?sy327) AllReadyH.nil)
        case hy327 => simp only [List.getElem?_toArray, List.getElem?_cons_zero, List.getElem?_cons_succ]; rfl
        refine stp_alloc Z hzA rfl rfl ?_
        have B13 := Lib.hid (Blk.new w6 28 Z)
        have B66 := Lib.hid (B65.out.alloc (.cells Z 28))
        have B86 := Lib.hid (B85.out.alloc (.cells Z 28))
        have HX6 := Lib.hid (HX5.out.alloc (.cells Z 28))
        have HO6 := Lib.hid ((HO5.out.alloc (.cells Z 28)).le HS4.out)
        have HOF := Lib.hid (show some w6.heap.size ≠ (Value.slice O m oc).ownBlock from fun e => by have := (HO5.out.base_le _ e.symm).2; omega)
        have hH2 := hHeld.alloc (.cells Z 28)
        refine hK.out _ _ hH2 (fun _ => ?_)
        have HG13 := Lib.hid HS5.out
        have HGL := Lib.hid (show w6.heap.size < (w6.alloc (.cells Z 28)).heap.size by simp)
        have HG4 := Lib.hid (show w4.heap.size ≤ w6.heap.size from hHeld.size)
        clear hHeld hK K B65 B85 HX5 HO5 HS5 HS4
        have hHeld := hH2
        clear hH2
        generalize w6.heap.size = g13 at B13 HOF HG13 HGL HG4 ⊢
        generalize w6.alloc (.cells Z 28) = w7 at hHeld B13 B66 B86 HX6 HO6 HGL ⊢
        try simp only [Act.put, List.setIfInBounds_toArray, List.set_cons_zero, List.set_cons_succ]
        refine wpAnyH_ready (rs := [8]) (by kernel_rfl) (by simp) (AllReadyH.cons (o := ?oy338) ?hy338 (fun K hK => ?sy338) AllReadyH.nil)
        case hy338 => simp only [List.getElem?_toArray, List.getElem?_cons_zero, List.getElem?_cons_succ]; rfl
        refine stp_storeP (off := 0) B13.out aggKey (St.nums HX0K.out.1) (by have := HZS.out; omega) rfl _ _ rfl rfl rfl rfl ?_
        rw [splice_all _ _ (by rw [Array.length_toList, HZS.out, (St.nums (k := .u8) HX0K.out.1).size])]
        have e9 : (numsA .u8 x0).toList.toArray = numsA .u8 x0 := by simp
        rw [e9]
        have B137 := Lib.hid (B13.out.setRow (numsA .u8 x0))
        have B67 := Lib.hid (B66.out.row_far (g' := g13) (by have := HG13.out; omega) (numsA .u8 x0))
        have B87 := Lib.hid (B86.out.row_far (g' := g13) (by have := HG13.out; omega) (numsA .u8 x0))
        have HX7 := Lib.hid (HX6.out.setRow (g := g13) (by have := HG13.out; omega) (numsA .u8 x0))
        have HO7 := Lib.hid (HO6.out.kept (row := some g13) (stRowK _ _ (numsA .u8 x0)) (.inr fun e => HOF.out e.symm))
        have HGL7 := Lib.hid (show g13 < (w7.setRow g13 (numsA .u8 x0)).heap.size from B137.out.lt)
        have hH2 := hHeld.setRow (g := g13) HG4.out (numsA .u8 x0)
        refine hK.out _ _ hH2 (fun _ => ?_)
        clear hHeld hK K e9 B13 B66 B86 HX6 HO6 HGL
        have hHeld := hH2
        clear hH2
        generalize w7.setRow g13 (numsA .u8 x0) = w8 at hHeld B137 B67 B87 HX7 HO7 HGL7 ⊢
        try simp only [Act.put, List.setIfInBounds_toArray, List.set_cons_zero, List.set_cons_succ]
        refine wpAnyH_take (i := 9) (oi := ?oiz34) (v := ?vz34) ?hiz34 (by kernel_rfl) (by kernel_rfl) (by kernel_rfl) ?hQz34 ?hyz34 (by assumption) ?restz34
        case hiz34 => simp only [List.getElem?_toArray, List.getElem?_cons_zero, List.getElem?_cons_succ]; rfl
        case hQz34 => exact fun _ _ _ h => h
        case hyz34 => exact Or.inl ⟨by rfl, by intro w hSw; (try dsimp only at hSw); go_simp; with_reducible rfl⟩
        try simp only [Act.put, List.setIfInBounds_toArray, List.set_cons_zero, List.set_cons_succ]
        refine wpAnyH_done (by kernel_rfl) ?_ _
        go_wp2_with fail
        refine (HSD.out _).mono ?_
        rintro e w9 ⟨vb, rfl, ho, hx⟩
        obtain ⟨Cb, cb, rfl⟩ := ho.shape
        rw [← HBL.out, HM.out] at ho ⊢
        have B138 := Lib.hid (B137.out.ext hx)
        have B68 := Lib.hid (B67.out.ext hx)
        have B88 := Lib.hid (B87.out.ext hx)
        have HX8 := Lib.hid (HX7.out.trans hx)
        have HO8 := Lib.hid (HO7.out.ext hx)
        have HB8 := Lib.hid (ho.le (show g13 + 1 ≤ w8.heap.size from HGL7.out))
        clear hx ho hHeld B137 B67 B87 HX7 HO7 HGL7 HG4
        go_wp2_with fail
        go_loopw [67] (fun q wr => ∃ k : Nat, k ≤ m ∧ q = .int .i64 k ∧ Blk wr g13 28 (numsA .u8 (chk x0 (ps.take k) (bs.take k))) ∧ Blk wr w.heap.size 28 (numsA .u8 (chk leaf (ps.take k) (bs.take k))) ∧ chk x0 (ps.take k) (bs.take k) ≠ chk leaf (ps.take k) (bs.take k) ∧ Blk wr (w.heap.size + 1) 62 (numsA .u8 ZC) ∧ Own tKey 28 wr (w.heap.size + 2) (.slice O m oc) ps ∧ Own tBool 4 wr (g13 + 1) (.slice Cb m cb) bs ∧ Ext w wr) (fun q _ => m - (intOf q).toNat)
        case atStart => exact ⟨0, by omega, rfl, by simp only [List.take_zero, chk_nil]; exact B138.out, by simp only [List.take_zero, chk_nil]; exact B68.out, by simp only [List.take_zero, chk_nil]; exact fun e => HLX.out e.symm, B88.out, HO8.out, HB8.out, HX8.out⟩
        case round =>
          obtain ⟨k, hk, rfl, hb1, hb2, hne, hb8, ho, hb, hx⟩ := hrel
          have B1 := Lib.hid hb1
          have B2 := Lib.hid hb2
          have HNE := Lib.hid hne
          have B8W := Lib.hid hb8
          have HOW := Lib.hid ho
          have HBW := Lib.hid hb
          have HXW := Lib.hid hx
          have HKO := Lib.hid (chk_ok (ps.take k) (bs.take k) x0 HX0K.out)
          have HKF := Lib.hid (chk_ok (ps.take k) (bs.take k) leaf HLF.out)
          clear hb1 hb2 hne hb8 ho hb hx B138 B68 B88 HX8 HO8 HB8
          by_cases hlt : k < m
          · have hkp : k < ps.length := by rw [HM.out]; exact hlt
            have hkb : k < bs.length := by rw [← HBL.out]; exact hkp
            have hst1 := chk_take x0 k HBL.out hkp
            have hst2 := chk_take leaf k HBL.out hkp
            obtain ⟨g', cap', e', _, _, hat⟩ := HBW.out.boolAt (by omega)
            rw [← HBL.out, HM.out] at e' hat
            obtain ⟨rfl, _, rfl⟩ := Value.slice.inj e'
            have hb := (hat k hlt).1
            rw [gB_lt hkb] at hb
            obtain ⟨A', cap3, e2, hcq, _, hrd, hok⟩ := HOW.out.rd
            rw [HM.out] at e2
            obtain ⟨rfl, _, rfl⟩ := Value.slice.inj e2
            obtain ⟨gq, oq, rfl, _, hcq1⟩ := hrd.elem hok k hkp
            obtain ⟨A'', cap4, e3, _, _, hrd3, hok3⟩ := H2.out.ext (by decide) HXW.out
            rw [HM.out] at e3
            obtain ⟨rfl, _, rfl⟩ := Value.slice.inj e3
            obtain ⟨gp, op, rfl, _, hcp1⟩ := hrd3.elem hok3 k hkp
            have HPK := Lib.hid (HPO.out ps[k] (List.getElem_mem _))
            obtain ⟨p, hp⟩ : ∃ p, ps[k] = p := ⟨_, rfl⟩
            rw [hp] at hst1 hst2 hcq1 hcp1 HPK
            obtain ⟨b, hbb⟩ : ∃ b, bs[k] = b := ⟨_, rfl⟩
            rw [hbb] at hst1 hst2 hb
            have HQC := Lib.hid (show ∀ W, Ext wr W → ∀ j2 u, (tKey.enc p)[j2]? = some u → W.cell? ⟨gq, oq + k * 32 + j2, none⟩ = some u from fun W hW j2 u hu => hW.cell (hcq1 j2 u hu))
            have HPC2 := Lib.hid (show ∀ W, Ext wr W → ∀ j2 u, (tKey.enc p)[j2]? = some u → W.cell? ⟨gp, op + k * 32 + j2, none⟩ = some u from fun W hW j2 u hu => hW.cell (hcp1 j2 u hu))
            obtain ⟨xo, hxo⟩ : ∃ xo, chk x0 (ps.take k) (bs.take k) = xo := ⟨_, rfl⟩
            obtain ⟨xf, hxf⟩ : ∃ xf, chk leaf (ps.take k) (bs.take k) = xf := ⟨_, rfl⟩
            rw [hxo] at hst1 B1 HNE HKO
            rw [hxf] at hst2 B2 HNE HKF
            have HPO1 := Lib.hid (fun W => paired_any xo p b HKO.out HPK.out W)
            have HPF1 := Lib.hid (fun W => paired_any xf p b HKF.out HPK.out W)
            obtain ⟨k1, hk1⟩ : ∃ k1, (if b then p else xo) = k1 := ⟨_, rfl⟩
            obtain ⟨k2, hk2⟩ : ∃ k2, (if b then xo else p) = k2 := ⟨_, rfl⟩
            obtain ⟨k3, hk3⟩ : ∃ k3, (if b then p else xf) = k3 := ⟨_, rfl⟩
            obtain ⟨k4, hk4⟩ : ∃ k4, (if b then xf else p) = k4 := ⟨_, rfl⟩
            have HK1 := Lib.hid (show K32 k1 by rw [← hk1]; cases b; exact HKO.out; exact HPK.out)
            have HK2 := Lib.hid (show K32 k2 by rw [← hk2]; cases b; exact HPK.out; exact HKO.out)
            have HK3 := Lib.hid (show K32 k3 by rw [← hk3]; cases b; exact HKF.out; exact HPK.out)
            have HK4 := Lib.hid (show K32 k4 by rw [← hk4]; cases b; exact HPK.out; exact HKF.out)
            have HUN := Lib.hid (show k1 ≠ k3 ∨ k2 ≠ k4 by
              have := HNE.out
              rw [← hk1, ← hk2, ← hk3, ← hk4]
              cases b
              · exact .inl this
              · exact .inr this)
            have hnd1 : (if b = true then ndK p xo else ndK xo p) = ndK k1 k2 := by subst hk1 hk2; cases b <;> rfl
            have hnd2 : (if b = true then ndK p xf else ndK xf p) = ndK k3 k4 := by subst hk3 hk4; cases b <;> rfl
            rw [hk1, hk2] at HPO1
            rw [hk3, hk4] at HPF1
            rw [hnd1] at hst1
            rw [hnd2] at hst2
            have HN1 := Lib.hid (fun W => nodeKey_any k1 k2 HK1.out HK2.out W)
            have HN2 := Lib.hid (fun W => nodeKey_any k3 k4 HK3.out HK4.out W)
            have HVC := Lib.hid (fun W => validClashI_any k1 k2 k3 k4 HK1.out HK2.out HK3.out HK4.out HUN.out W)
            have HY1 := Lib.hid (ndK_ok k1 k2)
            have HY2 := Lib.hid (ndK_ok k3 k4)
            have HQL := Lib.hid (show (k1 ++ k2 ++ k3 ++ k4).length = 128 by simp [HK1.out.1, HK2.out.1, HK3.out.1, HK4.out.1])
            have HQ4 := Lib.hid (fun W (hW : Blk W wr.heap.size 62 (numsA .u8 (k1 ++ k2 ++ k3 ++ k4))) => And.intro (quad_cell [] k1 (k2 ++ k3 ++ k4) (by simp) hW rfl) (And.intro (quad_cell k1 k2 (k3 ++ k4) (by simp) hW HK1.out.1) (And.intro (quad_cell (k1 ++ k2) k3 k4 rfl hW (by rw [List.length_append, HK1.out.1, HK2.out.1])) (quad_cell (k1 ++ k2 ++ k3) k4 [] (by simp) hW (by rw [List.length_append, List.length_append, HK1.out.1, HK2.out.1, HK3.out.1])))))
            obtain ⟨qq, hqq⟩ : ∃ qq, k1 ++ k2 ++ k3 ++ k4 = qq := ⟨_, rfl⟩
            have HQQ := Lib.hid hqq
            rw [hqq] at HVC HQL HQ4
            obtain ⟨bv, hbv⟩ : ∃ bv, decide (ndK k1 k2 = ndK k3 k4) = bv := ⟨_, rfl⟩
            have HBV := Lib.hid hbv
            rw [hbv] at HVC
            obtain ⟨y1, hy1⟩ : ∃ y1, ndK k1 k2 = y1 := ⟨_, rfl⟩
            obtain ⟨y2, hy2⟩ : ∃ y2, ndK k3 k4 = y2 := ⟨_, rfl⟩
            rw [hy1] at HN1 HY1 hst1
            rw [hy2] at HN2 HY2 hst2
            have HST1 := Lib.hid hst1
            have HST2 := Lib.hid hst2
            have HYE1 := Lib.hid hy1
            have HYE2 := Lib.hid hy2
            have hso := sizeN (k := .u8) HKO.out.1
            have hsf := sizeN (k := .u8) HKF.out.1
            have HLT := Lib.hid hlt
            have r0 : (0 : Int) ≤ (k : Int) := by omega
            have r1 : (k : Int) < (m : Int) := by omega
            have r2 : (k : Int) ≤ (oc : Int) := by rw [HM.out] at hcq; omega
            have r3 : (k : Int) ≤ (cap2 : Int) := by have := HCP2.out; omega
            have HCB := Lib.hid hb
            have hcb := hb
            have BC := Lib.hid (Blk.new wr 62 (numsA .u8 ZC))
            have HRC := Lib.hid (ext_alloc wr (.cells (numsA .u8 ZC) 62))
            have BCS := Lib.hid (BC.out.setRow (numsA .u8 ZC))
            have HRS := Lib.hid (HRC.out.setRow (Nat.le_refl _) (numsA .u8 ZC))
            clear hqq hp hxo hxf hbb hk1 hk2 hk3 hk4 hnd1 hnd2 hst1 hst2 hbv hy1 hy2 hb hat e' e2 e3 hrd hrd3 hok hok3 hcq hcq1 hcp1 hkp hkb
            go_wp2_with (first
              | (refine wpl_buildN rfl rfl hbC ?_)
              | (refine wpl_alloc (numsA .u8 ZC) hzC rfl rfl ?_)
              | (refine wpl_storeN BC.out aggClash HZL.out (by rw [numsA_size]; exact HZL.out) rfl _ _ rfl rfl rfl rfl ?_))
            generalize (wr.alloc (.cells (numsA .u8 ZC) 62)).setRow wr.heap.size (numsA .u8 ZC) = wc at BCS HRS ⊢
            rw [← HZC.out] at BCS
            replace BC := BCS
            replace HRC := HRS
            clear BCS HRS hcb
            refine wp_region_held_drew (S := fun W => Ext wr W) (by kernel_rfl) HRC.out.drew (fun hHeld => ?_)
            refine wpAnyH_take (i := 0) (oi := ?oiz35) (v := (.agg (numsA .u8 xo))) ?hiz35 (by kernel_rfl) (by kernel_rfl) (by kernel_rfl) ?hQz35 ?hyz35 (by assumption) ?restz35
            case hiz35 => simp only [List.getElem?_toArray, List.getElem?_cons_zero, List.getElem?_cons_succ]; rfl
            case hQz35 => exact fun _ _ _ h => h
            case hyz35 => refine yields_loadBSP (fun W hW => B1.out.ext hW) aggKey hso ?_ _ rfl rfl; rfl
            try simp only [Act.put, List.setIfInBounds_toArray, List.set_cons_zero, List.set_cons_succ]
            refine wpAnyH_take (i := 1) (oi := ?oiz36) (v := ?vz36) ?hiz36 (by kernel_rfl) (by kernel_rfl) (by kernel_rfl) ?hQz36 ?hyz36 (by assumption) ?restz36
            case hiz36 => simp only [List.getElem?_toArray, List.getElem?_cons_zero, List.getElem?_cons_succ]; rfl
            case hQz36 => exact fun _ _ _ h => h
            case hyz36 => exact Or.inl ⟨by rfl, by intro w hSw; (try dsimp only at hSw); go_simp; with_reducible rfl⟩
            try simp only [Act.put, List.setIfInBounds_toArray, List.set_cons_zero, List.set_cons_succ]
            refine wpAnyH_take (i := 2) (oi := ?oiz37) (v := ?vz37) ?hiz37 (by kernel_rfl) (by kernel_rfl) (by kernel_rfl) ?hQz37 ?hyz37 (by assumption) ?restz37
            case hiz37 => simp only [List.getElem?_toArray, List.getElem?_cons_zero, List.getElem?_cons_succ]; rfl
            case hQz37 => exact fun _ _ _ h => h
            case hyz37 => exact Or.inl ⟨by rfl, by intro w hSw; (try dsimp only at hSw); go_simp; with_reducible rfl⟩
            try simp only [Act.put, List.setIfInBounds_toArray, List.set_cons_zero, List.set_cons_succ]
            refine wpAnyH_take (i := 3) (oi := ?oiz38) (v := ?vz38) ?hiz38 (by kernel_rfl) (by kernel_rfl) (by kernel_rfl) ?hQz38 ?hyz38 (by assumption) ?restz38
            case hiz38 => simp only [List.getElem?_toArray, List.getElem?_cons_zero, List.getElem?_cons_succ]; rfl
            case hQz38 => exact fun _ _ _ h => h
            case hyz38 => exact Or.inl ⟨by rfl, by intro w hSw; (try dsimp only at hSw); go_simp; with_reducible rfl⟩
            try simp only [Act.put, List.setIfInBounds_toArray, List.set_cons_zero, List.set_cons_succ]
            refine wpAnyH_take (i := 4) (oi := ?oiz39) (v := (.agg (numsA .u8 p))) ?hiz39 (by kernel_rfl) (by kernel_rfl) (by kernel_rfl) ?hQz39 ?hyz39 (by assumption) ?restz39
            case hiz39 => simp only [List.getElem?_toArray, List.getElem?_cons_zero, List.getElem?_cons_succ]; rfl
            case hQz39 => exact fun _ _ _ h => h
            case hyz39 => refine yields_loadSP gq (oq + k * 32) (tKey.enc p) (by rw [tKey.len _ HPK.out]; exact aggKey) HQC.out ?_ _ rfl rfl; rfl
            try simp only [Act.put, List.setIfInBounds_toArray, List.set_cons_zero, List.set_cons_succ]
            refine wpAnyH_take (i := 5) (oi := ?oiz40) (v := ?vz40) ?hiz40 (by kernel_rfl) (by kernel_rfl) (by kernel_rfl) ?hQz40 ?hyz40 (by assumption) ?restz40
            case hiz40 => simp only [List.getElem?_toArray, List.getElem?_cons_zero, List.getElem?_cons_succ]; rfl
            case hQz40 => exact fun _ _ _ h => h
            case hyz40 => exact Or.inl ⟨by rfl, by intro w hSw; (try dsimp only at hSw); go_simp; with_reducible rfl⟩
            try simp only [Act.put, List.setIfInBounds_toArray, List.set_cons_zero, List.set_cons_succ]
            have BC1 := Lib.hid (show Blk wc.drew wr.heap.size 62 (numsA .u8 (z ++ z ++ z ++ z)) from BC.out.drewN 1)
            generalize wc.drew = wd at hHeld BC1 ⊢
            refine wpAnyH_ready (rs := [6]) (by kernel_rfl) (by simp) (AllReadyH.cons (o := ?oy416) ?hy416 (fun K hK => ?sy416) AllReadyH.nil)
            case hy416 => simp only [List.getElem?_toArray, List.getElem?_cons_zero, List.getElem?_cons_succ]; rfl
            go_simp
            refine (HPO1.out _).mono ?_
            rintro e wd2 ⟨rfl, hx⟩
            have BC2 := Lib.hid (BC1.out.ext hx)
            clear BC1
            have hH2 := hHeld.trans hx
            refine hK.out _ _ hH2 (fun _ => ?_)
            clear hHeld hK K
            have hHeld := hH2
            clear hH2
            try simp only [Act.put, List.setIfInBounds_toArray, List.set_cons_zero, List.set_cons_succ]
            refine wpAnyH_take (i := 7) (oi := ?oiz42) (v := ?vz42) ?hiz42 (by kernel_rfl) (by kernel_rfl) (by kernel_rfl) ?hQz42 ?hyz42 (by assumption) ?restz42
            case hiz42 => simp only [List.getElem?_toArray, List.getElem?_cons_zero, List.getElem?_cons_succ]; rfl
            case hQz42 => exact fun _ _ _ h => h
            case hyz42 => exact Or.inl ⟨by rfl, by intro w hSw; (try dsimp only at hSw); go_simp; with_reducible rfl⟩
            try simp only [Act.put, List.setIfInBounds_toArray, List.set_cons_zero, List.set_cons_succ]
            refine wpAnyH_take (i := 8) (oi := ?oiz43) (v := ?vz43) ?hiz43 (by kernel_rfl) (by kernel_rfl) (by kernel_rfl) ?hQz43 ?hyz43 (by assumption) ?restz43
            case hiz43 => simp only [List.getElem?_toArray, List.getElem?_cons_zero, List.getElem?_cons_succ]; rfl
            case hQz43 => exact fun _ _ _ h => h
            case hyz43 => exact Or.inl ⟨by rfl, by intro w hSw; (try dsimp only at hSw); go_simp; with_reducible rfl⟩
            try simp only [Act.put, List.setIfInBounds_toArray, List.set_cons_zero, List.set_cons_succ]
            refine wpAnyH_take (i := 9) (oi := ?oiz44) (v := ?vz44) ?hiz44 (by kernel_rfl) (by kernel_rfl) (by kernel_rfl) ?hQz44 ?hyz44 (by assumption) ?restz44
            case hiz44 => simp only [List.getElem?_toArray, List.getElem?_cons_zero, List.getElem?_cons_succ]; rfl
            case hQz44 => exact fun _ _ _ h => h
            case hyz44 => exact Or.inl ⟨by rfl, by intro w hSw; (try dsimp only at hSw); go_simp; with_reducible rfl⟩
            try simp only [Act.put, List.setIfInBounds_toArray, List.set_cons_zero, List.set_cons_succ]
            refine wpAnyH_take (i := 10) (oi := ?oiz45) (v := ?vz45) ?hiz45 (by kernel_rfl) (by kernel_rfl) (by kernel_rfl) ?hQz45 ?hyz45 (by assumption) ?restz45
            case hiz45 => simp only [List.getElem?_toArray, List.getElem?_cons_zero, List.getElem?_cons_succ]; rfl
            case hQz45 => exact fun _ _ _ h => h
            case hyz45 => exact Or.inl ⟨by rfl, by intro w hSw; (try dsimp only at hSw); go_simp; with_reducible rfl⟩
            try simp only [Act.put, List.setIfInBounds_toArray, List.set_cons_zero, List.set_cons_succ]
            refine wpAnyH_ready (rs := [11]) (by kernel_rfl) (by simp) (AllReadyH.cons (o := ?oy4611) ?hy4611 (fun K hK => ?sy4611) AllReadyH.nil)
            case hy4611 => simp only [List.getElem?_toArray, List.getElem?_cons_zero, List.getElem?_cons_succ]; rfl
            refine stp_storeP (off := 0) BC2.out aggKey (St.nums HK1.out.1) (by rw [numsA_size]; have := HZ32.out; simp [HZ32.out, HK1.out.1]) rfl _ _ rfl rfl rfl rfl ?_
            rw [quad_splice ([]) (z) (z ++ z ++ z) k1 (by simp only [List.append_assoc, List.nil_append, List.append_nil]) (by simp [HZ32.out]) (by rw [HK1.out.1, HZ32.out])]
            have BC3 := Lib.hid (BC2.out.setRow (numsA .u8 ([] ++ k1 ++ (z ++ z ++ z))))
            have hH2 := hHeld.setRow (g := wr.heap.size) (Nat.le_refl _) (numsA .u8 ([] ++ k1 ++ (z ++ z ++ z)))
            refine hK.out _ _ hH2 (fun _ => ?_)
            clear hHeld hK K BC2
            have hHeld := hH2
            clear hH2
            generalize World.setRow wd2 wr.heap.size (numsA .u8 ([] ++ k1 ++ (z ++ z ++ z))) = we1 at hHeld BC3 ⊢
            try simp only [Act.put, List.setIfInBounds_toArray, List.set_cons_zero, List.set_cons_succ]
            refine wpAnyH_take (i := 12) (oi := ?oiz47) (v := ?vz47) ?hiz47 (by kernel_rfl) (by kernel_rfl) (by kernel_rfl) ?hQz47 ?hyz47 (by assumption) ?restz47
            case hiz47 => simp only [List.getElem?_toArray, List.getElem?_cons_zero, List.getElem?_cons_succ]; rfl
            case hQz47 => exact fun _ _ _ h => h
            case hyz47 => exact Or.inl ⟨by rfl, by intro w hSw; (try dsimp only at hSw); go_simp; with_reducible rfl⟩
            try simp only [Act.put, List.setIfInBounds_toArray, List.set_cons_zero, List.set_cons_succ]
            refine wpAnyH_ready (rs := [13]) (by kernel_rfl) (by simp) (AllReadyH.cons (o := ?oy4813) ?hy4813 (fun K hK => ?sy4813) AllReadyH.nil)
            case hy4813 => simp only [List.getElem?_toArray, List.getElem?_cons_zero, List.getElem?_cons_succ]; rfl
            refine stp_storeP (off := 32) BC3.out aggKey (St.nums HK2.out.1) (by rw [numsA_size]; have := HZ32.out; simp [HZ32.out, HK2.out.1, HK1.out.1]) rfl _ _ rfl rfl rfl rfl ?_
            rw [quad_splice (k1) (z) (z ++ z) k2 (by simp only [List.append_assoc, List.nil_append, List.append_nil]) (by simp [HZ32.out, HK1.out.1]) (by rw [HK2.out.1, HZ32.out])]
            have BC4 := Lib.hid (BC3.out.setRow (numsA .u8 (k1 ++ k2 ++ (z ++ z))))
            have hH2 := hHeld.setRow (g := wr.heap.size) (Nat.le_refl _) (numsA .u8 (k1 ++ k2 ++ (z ++ z)))
            refine hK.out _ _ hH2 (fun _ => ?_)
            clear hHeld hK K BC3
            have hHeld := hH2
            clear hH2
            generalize World.setRow we1 wr.heap.size (numsA .u8 (k1 ++ k2 ++ (z ++ z))) = we2 at hHeld BC4 ⊢
            try simp only [Act.put, List.setIfInBounds_toArray, List.set_cons_zero, List.set_cons_succ]
            have HRC2 := Lib.hid hHeld
            clear hHeld HRC
            refine wpAnyH_done (by kernel_rfl) ?_ _
            go_wp2_with fail
            refine wp_region_held_drew (S := fun W => Ext wr W) (by kernel_rfl) HRC2.out.drew (fun hHeld => ?_)
            refine wpAnyH_take (i := 0) (oi := ?oiz49) (v := (.agg (numsA .u8 xf))) ?hiz49 (by kernel_rfl) (by kernel_rfl) (by kernel_rfl) ?hQz49 ?hyz49 (by assumption) ?restz49
            case hiz49 => simp only [List.getElem?_toArray, List.getElem?_cons_zero, List.getElem?_cons_succ]; rfl
            case hQz49 => exact fun _ _ _ h => h
            case hyz49 => refine yields_loadBSP (fun W hW => B2.out.ext hW) aggKey hsf ?_ _ rfl rfl; rfl
            try simp only [Act.put, List.setIfInBounds_toArray, List.set_cons_zero, List.set_cons_succ]
            refine wpAnyH_take (i := 1) (oi := ?oiz50) (v := ?vz50) ?hiz50 (by kernel_rfl) (by kernel_rfl) (by kernel_rfl) ?hQz50 ?hyz50 (by assumption) ?restz50
            case hiz50 => simp only [List.getElem?_toArray, List.getElem?_cons_zero, List.getElem?_cons_succ]; rfl
            case hQz50 => exact fun _ _ _ h => h
            case hyz50 => exact Or.inl ⟨by rfl, by intro w hSw; (try dsimp only at hSw); go_simp; with_reducible rfl⟩
            try simp only [Act.put, List.setIfInBounds_toArray, List.set_cons_zero, List.set_cons_succ]
            refine wpAnyH_take (i := 2) (oi := ?oiz51) (v := ?vz51) ?hiz51 (by kernel_rfl) (by kernel_rfl) (by kernel_rfl) ?hQz51 ?hyz51 (by assumption) ?restz51
            case hiz51 => simp only [List.getElem?_toArray, List.getElem?_cons_zero, List.getElem?_cons_succ]; rfl
            case hQz51 => exact fun _ _ _ h => h
            case hyz51 => exact Or.inl ⟨by rfl, by intro w hSw; (try dsimp only at hSw); go_simp; with_reducible rfl⟩
            try simp only [Act.put, List.setIfInBounds_toArray, List.set_cons_zero, List.set_cons_succ]
            refine wpAnyH_take (i := 3) (oi := ?oiz52) (v := ?vz52) ?hiz52 (by kernel_rfl) (by kernel_rfl) (by kernel_rfl) ?hQz52 ?hyz52 (by assumption) ?restz52
            case hiz52 => simp only [List.getElem?_toArray, List.getElem?_cons_zero, List.getElem?_cons_succ]; rfl
            case hQz52 => exact fun _ _ _ h => h
            case hyz52 => exact Or.inl ⟨by rfl, by intro w hSw; (try dsimp only at hSw); go_simp; with_reducible rfl⟩
            try simp only [Act.put, List.setIfInBounds_toArray, List.set_cons_zero, List.set_cons_succ]
            refine wpAnyH_take (i := 4) (oi := ?oiz53) (v := (.agg (numsA .u8 p))) ?hiz53 (by kernel_rfl) (by kernel_rfl) (by kernel_rfl) ?hQz53 ?hyz53 (by assumption) ?restz53
            case hiz53 => simp only [List.getElem?_toArray, List.getElem?_cons_zero, List.getElem?_cons_succ]; rfl
            case hQz53 => exact fun _ _ _ h => h
            case hyz53 => refine yields_loadSP gp (op + k * 32) (tKey.enc p) (by rw [tKey.len _ HPK.out]; exact aggKey) HPC2.out ?_ _ rfl rfl; rfl
            try simp only [Act.put, List.setIfInBounds_toArray, List.set_cons_zero, List.set_cons_succ]
            refine wpAnyH_take (i := 5) (oi := ?oiz54) (v := ?vz54) ?hiz54 (by kernel_rfl) (by kernel_rfl) (by kernel_rfl) ?hQz54 ?hyz54 (by assumption) ?restz54
            case hiz54 => simp only [List.getElem?_toArray, List.getElem?_cons_zero, List.getElem?_cons_succ]; rfl
            case hQz54 => exact fun _ _ _ h => h
            case hyz54 => exact Or.inl ⟨by rfl, by intro w hSw; (try dsimp only at hSw); go_simp; with_reducible rfl⟩
            try simp only [Act.put, List.setIfInBounds_toArray, List.set_cons_zero, List.set_cons_succ]
            have BC5 := Lib.hid (BC4.out.drewN 1)
            change Hid (Blk we2.drew wr.heap.size 62 _) at BC5
            clear BC4
            generalize we2.drew = wf at hHeld BC5 ⊢
            refine wpAnyH_ready (rs := [6]) (by kernel_rfl) (by simp) (AllReadyH.cons (o := ?oy556) ?hy556 (fun K hK => ?sy556) AllReadyH.nil)
            case hy556 => simp only [List.getElem?_toArray, List.getElem?_cons_zero, List.getElem?_cons_succ]; rfl
            go_simp
            refine (HPF1.out _).mono ?_
            rintro e wf2 ⟨rfl, hx⟩
            have BC6 := Lib.hid (BC5.out.ext hx)
            clear BC5
            have hH2 := hHeld.trans hx
            refine hK.out _ _ hH2 (fun _ => ?_)
            clear hHeld hK K
            have hHeld := hH2
            clear hH2
            try simp only [Act.put, List.setIfInBounds_toArray, List.set_cons_zero, List.set_cons_succ]
            refine wpAnyH_take (i := 7) (oi := ?oiz56) (v := ?vz56) ?hiz56 (by kernel_rfl) (by kernel_rfl) (by kernel_rfl) ?hQz56 ?hyz56 (by assumption) ?restz56
            case hiz56 => simp only [List.getElem?_toArray, List.getElem?_cons_zero, List.getElem?_cons_succ]; rfl
            case hQz56 => exact fun _ _ _ h => h
            case hyz56 => exact Or.inl ⟨by rfl, by intro w hSw; (try dsimp only at hSw); go_simp; with_reducible rfl⟩
            try simp only [Act.put, List.setIfInBounds_toArray, List.set_cons_zero, List.set_cons_succ]
            refine wpAnyH_take (i := 8) (oi := ?oiz57) (v := ?vz57) ?hiz57 (by kernel_rfl) (by kernel_rfl) (by kernel_rfl) ?hQz57 ?hyz57 (by assumption) ?restz57
            case hiz57 => simp only [List.getElem?_toArray, List.getElem?_cons_zero, List.getElem?_cons_succ]; rfl
            case hQz57 => exact fun _ _ _ h => h
            case hyz57 => exact Or.inl ⟨by rfl, by intro w hSw; (try dsimp only at hSw); go_simp; with_reducible rfl⟩
            try simp only [Act.put, List.setIfInBounds_toArray, List.set_cons_zero, List.set_cons_succ]
            refine wpAnyH_take (i := 9) (oi := ?oiz58) (v := ?vz58) ?hiz58 (by kernel_rfl) (by kernel_rfl) (by kernel_rfl) ?hQz58 ?hyz58 (by assumption) ?restz58
            case hiz58 => simp only [List.getElem?_toArray, List.getElem?_cons_zero, List.getElem?_cons_succ]; rfl
            case hQz58 => exact fun _ _ _ h => h
            case hyz58 => exact Or.inl ⟨by rfl, by intro w hSw; (try dsimp only at hSw); go_simp; with_reducible rfl⟩
            try simp only [Act.put, List.setIfInBounds_toArray, List.set_cons_zero, List.set_cons_succ]
            refine wpAnyH_take (i := 10) (oi := ?oiz59) (v := ?vz59) ?hiz59 (by kernel_rfl) (by kernel_rfl) (by kernel_rfl) ?hQz59 ?hyz59 (by assumption) ?restz59
            case hiz59 => simp only [List.getElem?_toArray, List.getElem?_cons_zero, List.getElem?_cons_succ]; rfl
            case hQz59 => exact fun _ _ _ h => h
            case hyz59 => exact Or.inl ⟨by rfl, by intro w hSw; (try dsimp only at hSw); go_simp; with_reducible rfl⟩
            try simp only [Act.put, List.setIfInBounds_toArray, List.set_cons_zero, List.set_cons_succ]
            refine wpAnyH_ready (rs := [11]) (by kernel_rfl) (by simp) (AllReadyH.cons (o := ?oy6011) ?hy6011 (fun K hK => ?sy6011) AllReadyH.nil)
            case hy6011 => simp only [List.getElem?_toArray, List.getElem?_cons_zero, List.getElem?_cons_succ]; rfl
            refine stp_storeP (off := 64) BC6.out aggKey (St.nums HK3.out.1) (by rw [numsA_size]; have := HZ32.out; simp [HZ32.out, HK3.out.1, HK1.out.1, HK2.out.1]) rfl _ _ rfl rfl rfl rfl ?_
            rw [quad_splice (k1 ++ k2) (z) (z) k3 (by simp only [List.append_assoc, List.nil_append, List.append_nil]) (by simp [HZ32.out, HK1.out.1, HK2.out.1]) (by rw [HK3.out.1, HZ32.out])]
            have BC7 := Lib.hid (BC6.out.setRow (numsA .u8 (k1 ++ k2 ++ k3 ++ (z))))
            have hH2 := hHeld.setRow (g := wr.heap.size) (Nat.le_refl _) (numsA .u8 (k1 ++ k2 ++ k3 ++ (z)))
            refine hK.out _ _ hH2 (fun _ => ?_)
            clear hHeld hK K BC6
            have hHeld := hH2
            clear hH2
            generalize World.setRow wf2 wr.heap.size (numsA .u8 (k1 ++ k2 ++ k3 ++ (z))) = wf3 at hHeld BC7 ⊢
            try simp only [Act.put, List.setIfInBounds_toArray, List.set_cons_zero, List.set_cons_succ]
            refine wpAnyH_take (i := 12) (oi := ?oiz61) (v := ?vz61) ?hiz61 (by kernel_rfl) (by kernel_rfl) (by kernel_rfl) ?hQz61 ?hyz61 (by assumption) ?restz61
            case hiz61 => simp only [List.getElem?_toArray, List.getElem?_cons_zero, List.getElem?_cons_succ]; rfl
            case hQz61 => exact fun _ _ _ h => h
            case hyz61 => exact Or.inl ⟨by rfl, by intro w hSw; (try dsimp only at hSw); go_simp; with_reducible rfl⟩
            try simp only [Act.put, List.setIfInBounds_toArray, List.set_cons_zero, List.set_cons_succ]
            refine wpAnyH_ready (rs := [13]) (by kernel_rfl) (by simp) (AllReadyH.cons (o := ?oy6213) ?hy6213 (fun K hK => ?sy6213) AllReadyH.nil)
            case hy6213 => simp only [List.getElem?_toArray, List.getElem?_cons_zero, List.getElem?_cons_succ]; rfl
            refine stp_storeP (off := 96) BC7.out aggKey (St.nums HK4.out.1) (by rw [numsA_size]; have := HZ32.out; simp [HZ32.out, HK4.out.1, HK1.out.1, HK2.out.1, HK3.out.1]) rfl _ _ rfl rfl rfl rfl ?_
            rw [quad_splice (k1 ++ k2 ++ k3) (z) ([]) k4 (by simp only [List.append_assoc, List.nil_append, List.append_nil]) (by simp [HZ32.out, HK1.out.1, HK2.out.1, HK3.out.1]) (by rw [HK4.out.1, HZ32.out])]
            have BC8 := Lib.hid (BC7.out.setRow (numsA .u8 (k1 ++ k2 ++ k3 ++ k4 ++ ([]))))
            have hH2 := hHeld.setRow (g := wr.heap.size) (Nat.le_refl _) (numsA .u8 (k1 ++ k2 ++ k3 ++ k4 ++ ([])))
            refine hK.out _ _ hH2 (fun _ => ?_)
            clear hHeld hK K BC7
            have hHeld := hH2
            clear hH2
            generalize World.setRow wf3 wr.heap.size (numsA .u8 (k1 ++ k2 ++ k3 ++ k4 ++ ([]))) = wf4 at hHeld BC8 ⊢
            try simp only [Act.put, List.setIfInBounds_toArray, List.set_cons_zero, List.set_cons_succ]
            have HRC3 := Lib.hid hHeld
            clear hHeld HRC2
            refine wpAnyH_done (by kernel_rfl) ?_ _
            rw [List.append_nil, HQQ.out] at BC8
            go_wp2_with (refine wpl_loadB BC8.out aggClash (sizeN HQL.out) rfl _ rfl rfl ?_)
            refine (HVC.out _).mono ?_
            rintro e w9 ⟨rfl, hx⟩
            have BC9 := Lib.hid (BC8.out.ext hx)
            have HRC4 := Lib.hid (HRC3.out.trans hx)
            clear hx BC8 HRC3
            cases bv with
            | true =>
              have HVT := Lib.hid (of_decide_eq_true HBV.out)
              go_wp2_with (first
                | (refine wpl_loadB BC9.out aggClash (sizeN HQL.out) rfl _ rfl rfl ?_)
                | (refine wpl_storeN (B8W.out.ext HRC4.out) aggClash HQL.out (by rw [numsA_size]; exact HZL.out) rfl _ _ rfl rfl rfl rfl ?_))
              refine bodyPost_ret (results_kc rfl _ rfl aggClash (sizeN HQL.out) ((B8W.out.ext HRC4.out).setRow _) rfl) rfl ?_
              exact ⟨_, _, rfl, ⟨HQL.out, .inr (.inr ⟨HYS.out, HLX.out, rfl, k1, k2, k3, k4, HK1.out, HK2.out, HK3.out, HK4.out, HQQ.out.symm, HUN.out, HVT.out⟩)⟩, (HXW.out.trans HRC4.out).setRow (by omega) _⟩
            | false =>
              have HVF := Lib.hid (of_decide_eq_false HBV.out)
              go_wp2_with fail
              refine wp_region_f [10, 11] (S := fun W => Ext w9 W) (by kernel_rfl) ((Ext.refl w9).drew) (fun hHeld => ?_)
              refine wpF_take (i := 0) (oi := ?oiz63) (v := ?vz63) ?hiz63 (by kernel_rfl) (by kernel_rfl) (by kernel_rfl) (by kernel_rfl) ?hQz63 ?hyz63 (by assumption) ?restz63
              case hiz63 => simp only [List.getElem?_toArray, List.getElem?_cons_zero, List.getElem?_cons_succ]; rfl
              case hQz63 => exact fun _ _ _ h => h
              case hyz63 => exact Or.inl ⟨by rfl, by intro w hSw; (try dsimp only at hSw); go_simp; with_reducible rfl⟩
              try simp only [Act.put, List.setIfInBounds_toArray, List.set_cons_zero, List.set_cons_succ]
              refine wpF_take (i := 1) (oi := ?oiz64) (v := (.agg (numsA .u8 k1))) ?hiz64 (by kernel_rfl) (by kernel_rfl) (by kernel_rfl) (by kernel_rfl) ?hQz64 ?hyz64 (by assumption) ?restz64
              case hiz64 => simp only [List.getElem?_toArray, List.getElem?_cons_zero, List.getElem?_cons_succ]; rfl
              case hQz64 => exact fun _ _ _ h => h
              case hyz64 => refine yields_loadSP wr.heap.size 0 (tKey.enc k1) (by rw [tKey.len _ HK1.out]; exact aggKey) (fun W hW => (HQ4.out W (BC9.out.ext hW)).1) ?_ _ rfl rfl; rfl
              try simp only [Act.put, List.setIfInBounds_toArray, List.set_cons_zero, List.set_cons_succ]
              refine wpF_take (i := 2) (oi := ?oiz65) (v := ?vz65) ?hiz65 (by kernel_rfl) (by kernel_rfl) (by kernel_rfl) (by kernel_rfl) ?hQz65 ?hyz65 (by assumption) ?restz65
              case hiz65 => simp only [List.getElem?_toArray, List.getElem?_cons_zero, List.getElem?_cons_succ]; rfl
              case hQz65 => exact fun _ _ _ h => h
              case hyz65 => exact Or.inl ⟨by rfl, by intro w hSw; (try dsimp only at hSw); go_simp; with_reducible rfl⟩
              try simp only [Act.put, List.setIfInBounds_toArray, List.set_cons_zero, List.set_cons_succ]
              refine wpF_take (i := 3) (oi := ?oiz66) (v := (.agg (numsA .u8 k2))) ?hiz66 (by kernel_rfl) (by kernel_rfl) (by kernel_rfl) (by kernel_rfl) ?hQz66 ?hyz66 (by assumption) ?restz66
              case hiz66 => simp only [List.getElem?_toArray, List.getElem?_cons_zero, List.getElem?_cons_succ]; rfl
              case hQz66 => exact fun _ _ _ h => h
              case hyz66 => refine yields_loadSP wr.heap.size 32 (tKey.enc k2) (by rw [tKey.len _ HK2.out]; exact aggKey) (fun W hW => (HQ4.out W (BC9.out.ext hW)).2.1) ?_ _ rfl rfl; rfl
              try simp only [Act.put, List.setIfInBounds_toArray, List.set_cons_zero, List.set_cons_succ]
              refine wpF_take (i := 5) (oi := ?oiz67) (v := ?vz67) ?hiz67 (by kernel_rfl) (by kernel_rfl) (by kernel_rfl) (by kernel_rfl) ?hQz67 ?hyz67 (by assumption) ?restz67
              case hiz67 => simp only [List.getElem?_toArray, List.getElem?_cons_zero, List.getElem?_cons_succ]; rfl
              case hQz67 => exact fun _ _ _ h => h
              case hyz67 => exact Or.inl ⟨by rfl, by intro w hSw; (try dsimp only at hSw); go_simp; with_reducible rfl⟩
              try simp only [Act.put, List.setIfInBounds_toArray, List.set_cons_zero, List.set_cons_succ]
              refine wpF_take (i := 6) (oi := ?oiz68) (v := (.agg (numsA .u8 k3))) ?hiz68 (by kernel_rfl) (by kernel_rfl) (by kernel_rfl) (by kernel_rfl) ?hQz68 ?hyz68 (by assumption) ?restz68
              case hiz68 => simp only [List.getElem?_toArray, List.getElem?_cons_zero, List.getElem?_cons_succ]; rfl
              case hQz68 => exact fun _ _ _ h => h
              case hyz68 => refine yields_loadSP wr.heap.size 64 (tKey.enc k3) (by rw [tKey.len _ HK3.out]; exact aggKey) (fun W hW => (HQ4.out W (BC9.out.ext hW)).2.2.1) ?_ _ rfl rfl; rfl
              try simp only [Act.put, List.setIfInBounds_toArray, List.set_cons_zero, List.set_cons_succ]
              refine wpF_take (i := 7) (oi := ?oiz69) (v := ?vz69) ?hiz69 (by kernel_rfl) (by kernel_rfl) (by kernel_rfl) (by kernel_rfl) ?hQz69 ?hyz69 (by assumption) ?restz69
              case hiz69 => simp only [List.getElem?_toArray, List.getElem?_cons_zero, List.getElem?_cons_succ]; rfl
              case hQz69 => exact fun _ _ _ h => h
              case hyz69 => exact Or.inl ⟨by rfl, by intro w hSw; (try dsimp only at hSw); go_simp; with_reducible rfl⟩
              try simp only [Act.put, List.setIfInBounds_toArray, List.set_cons_zero, List.set_cons_succ]
              refine wpF_take (i := 8) (oi := ?oiz70) (v := (.agg (numsA .u8 k4))) ?hiz70 (by kernel_rfl) (by kernel_rfl) (by kernel_rfl) (by kernel_rfl) ?hQz70 ?hyz70 (by assumption) ?restz70
              case hiz70 => simp only [List.getElem?_toArray, List.getElem?_cons_zero, List.getElem?_cons_succ]; rfl
              case hQz70 => exact fun _ _ _ h => h
              case hyz70 => refine yields_loadSP wr.heap.size 96 (tKey.enc k4) (by rw [tKey.len _ HK4.out]; exact aggKey) (fun W hW => (HQ4.out W (BC9.out.ext hW)).2.2.2) ?_ _ rfl rfl; rfl
              try simp only [Act.put, List.setIfInBounds_toArray, List.set_cons_zero, List.set_cons_succ]
              refine wpF_ready (rs := [4]) (by kernel_rfl) (by simp) (AllF.cons (o := ?oy714) ?hy714 (fun K hK => ?sy714) AllF.nil)
              case hy714 => simp only [List.getElem?_toArray, List.getElem?_cons_zero, List.getElem?_cons_succ]; rfl
              go_simp
              refine (HN1.out _).mono ?_
              rintro e wg ⟨rfl, hx⟩
              have hH2 := hHeld.trans hx
              refine hK.out _ _ (fun _ _ => hH2) ?_
              clear hHeld hK K hx
              have hHeld := hH2
              clear hH2
              try simp only [Act.put, List.setIfInBounds_toArray, List.set_cons_zero, List.set_cons_succ]
              refine wpF_ready (rs := [9]) (by kernel_rfl) (by simp) (AllF.cons (o := ?oy729) ?hy729 (fun K hK => ?sy729) AllF.nil)
              case hy729 => simp only [List.getElem?_toArray, List.getElem?_cons_zero, List.getElem?_cons_succ]; rfl
              go_simp
              refine (HN2.out _).mono ?_
              rintro e wh ⟨rfl, hx⟩
              have hH2 := hHeld.trans hx
              refine hK.out _ _ (fun _ _ => hH2) ?_
              have HH := Lib.hid (HRC4.out.trans hH2)
              clear hHeld hK K hx hH2
              try simp only [Act.put, List.setIfInBounds_toArray, List.set_cons_zero, List.set_cons_succ]
              refine wpF_ready (rs := [10]) (by kernel_rfl) (by simp) (AllF.cons (o := ?oy7310) ?hy7310 (fun K hK => ?sy7310) AllF.nil)
              case hy7310 => simp only [List.getElem?_toArray, List.getElem?_cons_zero, List.getElem?_cons_succ]; rfl
              have B5 := B1.out.ext HH.out
              refine stp_storeP (off := 0) B5 aggKey (St.nums HY1.out.1) (by omega) rfl _ _ rfl rfl rfl rfl ?_
              rw [splice_all _ _ (by rw [Array.length_toList, hso, (St.nums (k := .u8) HY1.out.1).size])]
              have e9 : (numsA .u8 y1).toList.toArray = numsA .u8 y1 := by simp
              rw [e9]
              have BA1 := Lib.hid (B5.setRow (numsA .u8 y1))
              have BA2 := Lib.hid ((B2.out.ext HH.out).row_far (g' := g13) (by have := HG13.out; omega) (numsA .u8 y1))
              have BA3 := Lib.hid ((B8W.out.ext HH.out).row_far (g' := g13) (by have := HG13.out; omega) (numsA .u8 y1))
              have HA := Lib.hid ((HXW.out.trans HH.out).setRow (g := g13) (by have := HG13.out; omega) (numsA .u8 y1))
              have HOA := Lib.hid ((HOW.out.ext HH.out).kept (row := some g13) (stRowK _ _ (numsA .u8 y1)) (.inr fun e => HOF.out e.symm))
              have HBA := Lib.hid ((HBW.out.ext HH.out).kept (row := some g13) (stRowK _ _ (numsA .u8 y1)) (.inr fun e => HBW.out.far_of_lt (Nat.lt_succ_self _) e.symm))
              refine hK.out _ _ (fun h => absurd (by decide) h) ?_
              clear hK K e9
              generalize wh.setRow g13 (numsA .u8 y1) = wi at BA1 BA2 BA3 HA HOA HBA ⊢
              try simp only [Act.put, List.setIfInBounds_toArray, List.set_cons_zero, List.set_cons_succ]
              refine wpF_ready (rs := [11]) (by kernel_rfl) (by simp) (AllF.cons (o := ?oy7411) ?hy7411 (fun K hK => ?sy7411) AllF.nil)
              case hy7411 => simp only [List.getElem?_toArray, List.getElem?_cons_zero, List.getElem?_cons_succ]; rfl
              refine stp_storeP (off := 0) BA2.out aggKey (St.nums HY2.out.1) (by omega) rfl _ _ rfl rfl rfl rfl ?_
              rw [splice_all _ _ (by rw [Array.length_toList, hsf, (St.nums (k := .u8) HY2.out.1).size])]
              have e9 : (numsA .u8 y2).toList.toArray = numsA .u8 y2 := by simp
              rw [e9]
              have BB2 := Lib.hid (BA2.out.setRow (numsA .u8 y2))
              have BB1 := Lib.hid (BA1.out.row_far (g' := w.heap.size) (by have := HG13.out; omega) (numsA .u8 y2))
              have BB3 := Lib.hid (BA3.out.row_far (g' := w.heap.size) (by omega) (numsA .u8 y2))
              have HB := Lib.hid (HA.out.setRow (g := w.heap.size) (Nat.le_refl _) (numsA .u8 y2))
              have HOB := Lib.hid (HOA.out.kept (row := some w.heap.size) (stRowK _ _ (numsA .u8 y2)) (.inr fun e => HOA.out.far_of_lt (by omega) e.symm))
              have HBB := Lib.hid (HBA.out.kept (row := some w.heap.size) (stRowK _ _ (numsA .u8 y2)) (.inr fun e => HBA.out.far_of_lt (by have := HG13.out; omega) e.symm))
              refine hK.out _ _ (fun h => absurd (by decide) h) ?_
              clear hK K e9
              generalize wi.setRow w.heap.size (numsA .u8 y2) = wj at BB1 BB2 BB3 HB HOB HBB ⊢
              try simp only [Act.put, List.setIfInBounds_toArray, List.set_cons_zero, List.set_cons_succ]
              refine wpF_done (by kernel_rfl) ?_ _
              go_wp2
              go_roundw
              case rel => exact ⟨k + 1, by have := HLT.out; omega, by go_num, by rw [HST1.out]; exact BB1.out, by rw [HST2.out]; exact BB2.out, by rw [HST1.out, HST2.out, ← HYE1.out, ← HYE2.out]; exact HVF.out, BB3.out, HOB.out, HBB.out, HB.out⟩
              case measure => simp [intOf]; omega
          · obtain rfl : k = m := by omega
            have e1 : chk x0 (ps.take k) (bs.take k) = root := by rw [List.take_of_length_le (by rw [HM.out]; omega), List.take_of_length_le (by rw [← HBL.out, HM.out]; omega)]; exact HPC.out
            have e2 : chk leaf (ps.take k) (bs.take k) = root := by rw [List.take_of_length_le (by rw [HM.out]; omega), List.take_of_length_le (by rw [← HBL.out, HM.out]; omega)]; exact HYS.out
            exact absurd (e1.trans e2.symm) HNE.out
      case sy317 =>
        refine stp_alloc Z hzA rfl rfl ?_
        have B13' := Lib.hid (Blk.new w5 28 Z)
        have B65 := Lib.hid (B64.out.alloc (.cells Z 28))
        have B85 := Lib.hid (B84.out.alloc (.cells Z 28))
        have HX5 := Lib.hid (HX4.out.alloc (.cells Z 28))
        have hH2 := hHeld.alloc (.cells Z 28)
        refine hK.out _ _ hH2 (fun _ => ?_)
        have HS5 := Lib.hid (show (w5.alloc (.cells Z 28)).heap.size = w5.heap.size + 1 by simp)
        have HG4 := Lib.hid (show w4.heap.size ≤ w5.heap.size from hHeld.size)
        have HG13 := Lib.hid HS4.out
        clear hHeld hK K B64 B84 HX4 HE4
        have hHeld := hH2
        clear hH2
        generalize w5.heap.size = g13 at B13' HG13 HS5 HG4 ⊢
        generalize w5.alloc (.cells Z 28) = w6 at hHeld B13' B65 B85 HX5 HS5 ⊢
        try simp only [Act.put, List.setIfInBounds_toArray, List.set_cons_zero, List.set_cons_succ]
        refine wpAnyH_ready (rs := [6]) (by kernel_rfl) (by simp) (AllReadyH.cons (o := ?oy756) ?hy756 (fun K hK => ?sy756) AllReadyH.nil)
        case hy756 => simp only [List.getElem?_toArray, List.getElem?_cons_zero, List.getElem?_cons_succ]; rfl
        go_simp
        refine (HPROOF.out _ (H1.out.ext (by decide) HX5.out)).mono ?_
        rintro e w7 ⟨v6, rfl, ho, hx⟩
        obtain ⟨O, oc, rfl⟩ := ho.shape
        rw [HM.out] at ho ⊢
        have hH2 := hHeld.trans hx
        refine hK.out _ _ hH2 (fun _ => ?_)
        have B13 := Lib.hid (B13'.out.ext hx)
        have B66 := Lib.hid (B65.out.ext hx)
        have B86 := Lib.hid (B85.out.ext hx)
        have HX6 := Lib.hid (HX5.out.trans hx)
        have HGL := Lib.hid (show g13 < w7.heap.size from B13.out.lt)
        have HOF := Lib.hid (show some g13 ≠ (Value.slice O m oc).ownBlock from fun e => by have := (ho.base_le _ e.symm).1; have := HS5.out; omega)
        have HO6 := Lib.hid (ho.le (show w.heap.size + 2 ≤ w6.heap.size by have := HS5.out; have := HG13.out; omega))
        clear hHeld hK K hx ho B65 B85 HX5 B13' HS5
        have hHeld := hH2
        clear hH2
        try simp only [Act.put, List.setIfInBounds_toArray, List.set_cons_zero, List.set_cons_succ]
        refine wpAnyH_ready (rs := [8]) (by kernel_rfl) (by simp) (AllReadyH.cons (o := ?oy768) ?hy768 (fun K hK => ?sy768) AllReadyH.nil)
        case hy768 => simp only [List.getElem?_toArray, List.getElem?_cons_zero, List.getElem?_cons_succ]; rfl
        refine stp_storeP (off := 0) B13.out aggKey (St.nums HX0K.out.1) (by have := HZS.out; omega) rfl _ _ rfl rfl rfl rfl ?_
        rw [splice_all _ _ (by rw [Array.length_toList, HZS.out, (St.nums (k := .u8) HX0K.out.1).size])]
        have e9 : (numsA .u8 x0).toList.toArray = numsA .u8 x0 := by simp
        rw [e9]
        have B137 := Lib.hid (B13.out.setRow (numsA .u8 x0))
        have B67 := Lib.hid (B66.out.row_far (g' := g13) (by have := HG13.out; omega) (numsA .u8 x0))
        have B87 := Lib.hid (B86.out.row_far (g' := g13) (by have := HG13.out; omega) (numsA .u8 x0))
        have HX7 := Lib.hid (HX6.out.setRow (g := g13) (by have := HG13.out; omega) (numsA .u8 x0))
        have HO7 := Lib.hid (HO6.out.kept (row := some g13) (stRowK _ _ (numsA .u8 x0)) (.inr fun e => HOF.out e.symm))
        have HGL7 := Lib.hid (show g13 < (w7.setRow g13 (numsA .u8 x0)).heap.size from B137.out.lt)
        have hH2 := hHeld.setRow (g := g13) HG4.out (numsA .u8 x0)
        refine hK.out _ _ hH2 (fun _ => ?_)
        clear hHeld hK K e9 B13 B66 B86 HX6 HO6 HGL
        have hHeld := hH2
        clear hH2
        generalize w7.setRow g13 (numsA .u8 x0) = w8 at hHeld B137 B67 B87 HX7 HO7 HGL7 ⊢
        try simp only [Act.put, List.setIfInBounds_toArray, List.set_cons_zero, List.set_cons_succ]
        refine wpAnyH_take (i := 9) (oi := ?oiz77) (v := ?vz77) ?hiz77 (by kernel_rfl) (by kernel_rfl) (by kernel_rfl) ?hQz77 ?hyz77 (by assumption) ?restz77
        case hiz77 => simp only [List.getElem?_toArray, List.getElem?_cons_zero, List.getElem?_cons_succ]; rfl
        case hQz77 => exact fun _ _ _ h => h
        case hyz77 => exact Or.inl ⟨by rfl, by intro w hSw; (try dsimp only at hSw); go_simp; with_reducible rfl⟩
        try simp only [Act.put, List.setIfInBounds_toArray, List.set_cons_zero, List.set_cons_succ]
        refine wpAnyH_done (by kernel_rfl) ?_ _
        go_wp2_with fail
        refine (HSD.out _).mono ?_
        rintro e w9 ⟨vb, rfl, ho, hx⟩
        obtain ⟨Cb, cb, rfl⟩ := ho.shape
        rw [← HBL.out, HM.out] at ho ⊢
        have B138 := Lib.hid (B137.out.ext hx)
        have B68 := Lib.hid (B67.out.ext hx)
        have B88 := Lib.hid (B87.out.ext hx)
        have HX8 := Lib.hid (HX7.out.trans hx)
        have HO8 := Lib.hid (HO7.out.ext hx)
        have HB8 := Lib.hid (ho.le (show g13 + 1 ≤ w8.heap.size from HGL7.out))
        clear hx ho hHeld B137 B67 B87 HX7 HO7 HGL7 HG4
        go_wp2_with fail
        go_loopw [67] (fun q wr => ∃ k : Nat, k ≤ m ∧ q = .int .i64 k ∧ Blk wr g13 28 (numsA .u8 (chk x0 (ps.take k) (bs.take k))) ∧ Blk wr w.heap.size 28 (numsA .u8 (chk leaf (ps.take k) (bs.take k))) ∧ chk x0 (ps.take k) (bs.take k) ≠ chk leaf (ps.take k) (bs.take k) ∧ Blk wr (w.heap.size + 1) 62 (numsA .u8 ZC) ∧ Own tKey 28 wr (w.heap.size + 2) (.slice O m oc) ps ∧ Own tBool 4 wr (g13 + 1) (.slice Cb m cb) bs ∧ Ext w wr) (fun q _ => m - (intOf q).toNat)
        case atStart => exact ⟨0, by omega, rfl, by simp only [List.take_zero, chk_nil]; exact B138.out, by simp only [List.take_zero, chk_nil]; exact B68.out, by simp only [List.take_zero, chk_nil]; exact fun e => HLX.out e.symm, B88.out, HO8.out, HB8.out, HX8.out⟩
        case round =>
          obtain ⟨k, hk, rfl, hb1, hb2, hne, hb8, ho, hb, hx⟩ := hrel
          have B1 := Lib.hid hb1
          have B2 := Lib.hid hb2
          have HNE := Lib.hid hne
          have B8W := Lib.hid hb8
          have HOW := Lib.hid ho
          have HBW := Lib.hid hb
          have HXW := Lib.hid hx
          have HKO := Lib.hid (chk_ok (ps.take k) (bs.take k) x0 HX0K.out)
          have HKF := Lib.hid (chk_ok (ps.take k) (bs.take k) leaf HLF.out)
          clear hb1 hb2 hne hb8 ho hb hx B138 B68 B88 HX8 HO8 HB8
          by_cases hlt : k < m
          · have hkp : k < ps.length := by rw [HM.out]; exact hlt
            have hkb : k < bs.length := by rw [← HBL.out]; exact hkp
            have hst1 := chk_take x0 k HBL.out hkp
            have hst2 := chk_take leaf k HBL.out hkp
            obtain ⟨g', cap', e', _, _, hat⟩ := HBW.out.boolAt (by omega)
            rw [← HBL.out, HM.out] at e' hat
            obtain ⟨rfl, _, rfl⟩ := Value.slice.inj e'
            have hb := (hat k hlt).1
            rw [gB_lt hkb] at hb
            obtain ⟨A', cap3, e2, hcq, _, hrd, hok⟩ := HOW.out.rd
            rw [HM.out] at e2
            obtain ⟨rfl, _, rfl⟩ := Value.slice.inj e2
            obtain ⟨gq, oq, rfl, _, hcq1⟩ := hrd.elem hok k hkp
            obtain ⟨A'', cap4, e3, _, _, hrd3, hok3⟩ := H2.out.ext (by decide) HXW.out
            rw [HM.out] at e3
            obtain ⟨rfl, _, rfl⟩ := Value.slice.inj e3
            obtain ⟨gp, op, rfl, _, hcp1⟩ := hrd3.elem hok3 k hkp
            have HPK := Lib.hid (HPO.out ps[k] (List.getElem_mem _))
            obtain ⟨p, hp⟩ : ∃ p, ps[k] = p := ⟨_, rfl⟩
            rw [hp] at hst1 hst2 hcq1 hcp1 HPK
            obtain ⟨b, hbb⟩ : ∃ b, bs[k] = b := ⟨_, rfl⟩
            rw [hbb] at hst1 hst2 hb
            have HQC := Lib.hid (show ∀ W, Ext wr W → ∀ j2 u, (tKey.enc p)[j2]? = some u → W.cell? ⟨gq, oq + k * 32 + j2, none⟩ = some u from fun W hW j2 u hu => hW.cell (hcq1 j2 u hu))
            have HPC2 := Lib.hid (show ∀ W, Ext wr W → ∀ j2 u, (tKey.enc p)[j2]? = some u → W.cell? ⟨gp, op + k * 32 + j2, none⟩ = some u from fun W hW j2 u hu => hW.cell (hcp1 j2 u hu))
            obtain ⟨xo, hxo⟩ : ∃ xo, chk x0 (ps.take k) (bs.take k) = xo := ⟨_, rfl⟩
            obtain ⟨xf, hxf⟩ : ∃ xf, chk leaf (ps.take k) (bs.take k) = xf := ⟨_, rfl⟩
            rw [hxo] at hst1 B1 HNE HKO
            rw [hxf] at hst2 B2 HNE HKF
            have HPO1 := Lib.hid (fun W => paired_any xo p b HKO.out HPK.out W)
            have HPF1 := Lib.hid (fun W => paired_any xf p b HKF.out HPK.out W)
            obtain ⟨k1, hk1⟩ : ∃ k1, (if b then p else xo) = k1 := ⟨_, rfl⟩
            obtain ⟨k2, hk2⟩ : ∃ k2, (if b then xo else p) = k2 := ⟨_, rfl⟩
            obtain ⟨k3, hk3⟩ : ∃ k3, (if b then p else xf) = k3 := ⟨_, rfl⟩
            obtain ⟨k4, hk4⟩ : ∃ k4, (if b then xf else p) = k4 := ⟨_, rfl⟩
            have HK1 := Lib.hid (show K32 k1 by rw [← hk1]; cases b; exact HKO.out; exact HPK.out)
            have HK2 := Lib.hid (show K32 k2 by rw [← hk2]; cases b; exact HPK.out; exact HKO.out)
            have HK3 := Lib.hid (show K32 k3 by rw [← hk3]; cases b; exact HKF.out; exact HPK.out)
            have HK4 := Lib.hid (show K32 k4 by rw [← hk4]; cases b; exact HPK.out; exact HKF.out)
            have HUN := Lib.hid (show k1 ≠ k3 ∨ k2 ≠ k4 by
              have := HNE.out
              rw [← hk1, ← hk2, ← hk3, ← hk4]
              cases b
              · exact .inl this
              · exact .inr this)
            have hnd1 : (if b = true then ndK p xo else ndK xo p) = ndK k1 k2 := by subst hk1 hk2; cases b <;> rfl
            have hnd2 : (if b = true then ndK p xf else ndK xf p) = ndK k3 k4 := by subst hk3 hk4; cases b <;> rfl
            rw [hk1, hk2] at HPO1
            rw [hk3, hk4] at HPF1
            rw [hnd1] at hst1
            rw [hnd2] at hst2
            have HN1 := Lib.hid (fun W => nodeKey_any k1 k2 HK1.out HK2.out W)
            have HN2 := Lib.hid (fun W => nodeKey_any k3 k4 HK3.out HK4.out W)
            have HVC := Lib.hid (fun W => validClashI_any k1 k2 k3 k4 HK1.out HK2.out HK3.out HK4.out HUN.out W)
            have HY1 := Lib.hid (ndK_ok k1 k2)
            have HY2 := Lib.hid (ndK_ok k3 k4)
            have HQL := Lib.hid (show (k1 ++ k2 ++ k3 ++ k4).length = 128 by simp [HK1.out.1, HK2.out.1, HK3.out.1, HK4.out.1])
            have HQ4 := Lib.hid (fun W (hW : Blk W wr.heap.size 62 (numsA .u8 (k1 ++ k2 ++ k3 ++ k4))) => And.intro (quad_cell [] k1 (k2 ++ k3 ++ k4) (by simp) hW rfl) (And.intro (quad_cell k1 k2 (k3 ++ k4) (by simp) hW HK1.out.1) (And.intro (quad_cell (k1 ++ k2) k3 k4 rfl hW (by rw [List.length_append, HK1.out.1, HK2.out.1])) (quad_cell (k1 ++ k2 ++ k3) k4 [] (by simp) hW (by rw [List.length_append, List.length_append, HK1.out.1, HK2.out.1, HK3.out.1])))))
            obtain ⟨qq, hqq⟩ : ∃ qq, k1 ++ k2 ++ k3 ++ k4 = qq := ⟨_, rfl⟩
            have HQQ := Lib.hid hqq
            rw [hqq] at HVC HQL HQ4
            obtain ⟨bv, hbv⟩ : ∃ bv, decide (ndK k1 k2 = ndK k3 k4) = bv := ⟨_, rfl⟩
            have HBV := Lib.hid hbv
            rw [hbv] at HVC
            obtain ⟨y1, hy1⟩ : ∃ y1, ndK k1 k2 = y1 := ⟨_, rfl⟩
            obtain ⟨y2, hy2⟩ : ∃ y2, ndK k3 k4 = y2 := ⟨_, rfl⟩
            rw [hy1] at HN1 HY1 hst1
            rw [hy2] at HN2 HY2 hst2
            have HST1 := Lib.hid hst1
            have HST2 := Lib.hid hst2
            have HYE1 := Lib.hid hy1
            have HYE2 := Lib.hid hy2
            have hso := sizeN (k := .u8) HKO.out.1
            have hsf := sizeN (k := .u8) HKF.out.1
            have HLT := Lib.hid hlt
            have r0 : (0 : Int) ≤ (k : Int) := by omega
            have r1 : (k : Int) < (m : Int) := by omega
            have r2 : (k : Int) ≤ (oc : Int) := by rw [HM.out] at hcq; omega
            have r3 : (k : Int) ≤ (cap2 : Int) := by have := HCP2.out; omega
            have HCB := Lib.hid hb
            have hcb := hb
            have BC := Lib.hid (Blk.new wr 62 (numsA .u8 ZC))
            have HRC := Lib.hid (ext_alloc wr (.cells (numsA .u8 ZC) 62))
            have BCS := Lib.hid (BC.out.setRow (numsA .u8 ZC))
            have HRS := Lib.hid (HRC.out.setRow (Nat.le_refl _) (numsA .u8 ZC))
            clear hqq hp hxo hxf hbb hk1 hk2 hk3 hk4 hnd1 hnd2 hst1 hst2 hbv hy1 hy2 hb hat e' e2 e3 hrd hrd3 hok hok3 hcq hcq1 hcp1 hkp hkb
            go_wp2_with (first
              | (refine wpl_buildN rfl rfl hbC ?_)
              | (refine wpl_alloc (numsA .u8 ZC) hzC rfl rfl ?_)
              | (refine wpl_storeN BC.out aggClash HZL.out (by rw [numsA_size]; exact HZL.out) rfl _ _ rfl rfl rfl rfl ?_))
            generalize (wr.alloc (.cells (numsA .u8 ZC) 62)).setRow wr.heap.size (numsA .u8 ZC) = wc at BCS HRS ⊢
            rw [← HZC.out] at BCS
            replace BC := BCS
            replace HRC := HRS
            clear BCS HRS hcb
            refine wp_region_held_drew (S := fun W => Ext wr W) (by kernel_rfl) HRC.out.drew (fun hHeld => ?_)
            refine wpAnyH_take (i := 0) (oi := ?oiz78) (v := (.agg (numsA .u8 xo))) ?hiz78 (by kernel_rfl) (by kernel_rfl) (by kernel_rfl) ?hQz78 ?hyz78 (by assumption) ?restz78
            case hiz78 => simp only [List.getElem?_toArray, List.getElem?_cons_zero, List.getElem?_cons_succ]; rfl
            case hQz78 => exact fun _ _ _ h => h
            case hyz78 => refine yields_loadBSP (fun W hW => B1.out.ext hW) aggKey hso ?_ _ rfl rfl; rfl
            try simp only [Act.put, List.setIfInBounds_toArray, List.set_cons_zero, List.set_cons_succ]
            refine wpAnyH_take (i := 1) (oi := ?oiz79) (v := ?vz79) ?hiz79 (by kernel_rfl) (by kernel_rfl) (by kernel_rfl) ?hQz79 ?hyz79 (by assumption) ?restz79
            case hiz79 => simp only [List.getElem?_toArray, List.getElem?_cons_zero, List.getElem?_cons_succ]; rfl
            case hQz79 => exact fun _ _ _ h => h
            case hyz79 => exact Or.inl ⟨by rfl, by intro w hSw; (try dsimp only at hSw); go_simp; with_reducible rfl⟩
            try simp only [Act.put, List.setIfInBounds_toArray, List.set_cons_zero, List.set_cons_succ]
            refine wpAnyH_take (i := 2) (oi := ?oiz80) (v := ?vz80) ?hiz80 (by kernel_rfl) (by kernel_rfl) (by kernel_rfl) ?hQz80 ?hyz80 (by assumption) ?restz80
            case hiz80 => simp only [List.getElem?_toArray, List.getElem?_cons_zero, List.getElem?_cons_succ]; rfl
            case hQz80 => exact fun _ _ _ h => h
            case hyz80 => exact Or.inl ⟨by rfl, by intro w hSw; (try dsimp only at hSw); go_simp; with_reducible rfl⟩
            try simp only [Act.put, List.setIfInBounds_toArray, List.set_cons_zero, List.set_cons_succ]
            refine wpAnyH_take (i := 3) (oi := ?oiz81) (v := ?vz81) ?hiz81 (by kernel_rfl) (by kernel_rfl) (by kernel_rfl) ?hQz81 ?hyz81 (by assumption) ?restz81
            case hiz81 => simp only [List.getElem?_toArray, List.getElem?_cons_zero, List.getElem?_cons_succ]; rfl
            case hQz81 => exact fun _ _ _ h => h
            case hyz81 => exact Or.inl ⟨by rfl, by intro w hSw; (try dsimp only at hSw); go_simp; with_reducible rfl⟩
            try simp only [Act.put, List.setIfInBounds_toArray, List.set_cons_zero, List.set_cons_succ]
            refine wpAnyH_take (i := 4) (oi := ?oiz82) (v := (.agg (numsA .u8 p))) ?hiz82 (by kernel_rfl) (by kernel_rfl) (by kernel_rfl) ?hQz82 ?hyz82 (by assumption) ?restz82
            case hiz82 => simp only [List.getElem?_toArray, List.getElem?_cons_zero, List.getElem?_cons_succ]; rfl
            case hQz82 => exact fun _ _ _ h => h
            case hyz82 => refine yields_loadSP gq (oq + k * 32) (tKey.enc p) (by rw [tKey.len _ HPK.out]; exact aggKey) HQC.out ?_ _ rfl rfl; rfl
            try simp only [Act.put, List.setIfInBounds_toArray, List.set_cons_zero, List.set_cons_succ]
            refine wpAnyH_take (i := 5) (oi := ?oiz83) (v := ?vz83) ?hiz83 (by kernel_rfl) (by kernel_rfl) (by kernel_rfl) ?hQz83 ?hyz83 (by assumption) ?restz83
            case hiz83 => simp only [List.getElem?_toArray, List.getElem?_cons_zero, List.getElem?_cons_succ]; rfl
            case hQz83 => exact fun _ _ _ h => h
            case hyz83 => exact Or.inl ⟨by rfl, by intro w hSw; (try dsimp only at hSw); go_simp; with_reducible rfl⟩
            try simp only [Act.put, List.setIfInBounds_toArray, List.set_cons_zero, List.set_cons_succ]
            have BC1 := Lib.hid (show Blk wc.drew wr.heap.size 62 (numsA .u8 (z ++ z ++ z ++ z)) from BC.out.drewN 1)
            generalize wc.drew = wd at hHeld BC1 ⊢
            refine wpAnyH_ready (rs := [6]) (by kernel_rfl) (by simp) (AllReadyH.cons (o := ?oy846) ?hy846 (fun K hK => ?sy846) AllReadyH.nil)
            case hy846 => simp only [List.getElem?_toArray, List.getElem?_cons_zero, List.getElem?_cons_succ]; rfl
            go_simp
            refine (HPO1.out _).mono ?_
            rintro e wd2 ⟨rfl, hx⟩
            have BC2 := Lib.hid (BC1.out.ext hx)
            clear BC1
            have hH2 := hHeld.trans hx
            refine hK.out _ _ hH2 (fun _ => ?_)
            clear hHeld hK K
            have hHeld := hH2
            clear hH2
            try simp only [Act.put, List.setIfInBounds_toArray, List.set_cons_zero, List.set_cons_succ]
            refine wpAnyH_take (i := 7) (oi := ?oiz85) (v := ?vz85) ?hiz85 (by kernel_rfl) (by kernel_rfl) (by kernel_rfl) ?hQz85 ?hyz85 (by assumption) ?restz85
            case hiz85 => simp only [List.getElem?_toArray, List.getElem?_cons_zero, List.getElem?_cons_succ]; rfl
            case hQz85 => exact fun _ _ _ h => h
            case hyz85 => exact Or.inl ⟨by rfl, by intro w hSw; (try dsimp only at hSw); go_simp; with_reducible rfl⟩
            try simp only [Act.put, List.setIfInBounds_toArray, List.set_cons_zero, List.set_cons_succ]
            refine wpAnyH_take (i := 8) (oi := ?oiz86) (v := ?vz86) ?hiz86 (by kernel_rfl) (by kernel_rfl) (by kernel_rfl) ?hQz86 ?hyz86 (by assumption) ?restz86
            case hiz86 => simp only [List.getElem?_toArray, List.getElem?_cons_zero, List.getElem?_cons_succ]; rfl
            case hQz86 => exact fun _ _ _ h => h
            case hyz86 => exact Or.inl ⟨by rfl, by intro w hSw; (try dsimp only at hSw); go_simp; with_reducible rfl⟩
            try simp only [Act.put, List.setIfInBounds_toArray, List.set_cons_zero, List.set_cons_succ]
            refine wpAnyH_take (i := 9) (oi := ?oiz87) (v := ?vz87) ?hiz87 (by kernel_rfl) (by kernel_rfl) (by kernel_rfl) ?hQz87 ?hyz87 (by assumption) ?restz87
            case hiz87 => simp only [List.getElem?_toArray, List.getElem?_cons_zero, List.getElem?_cons_succ]; rfl
            case hQz87 => exact fun _ _ _ h => h
            case hyz87 => exact Or.inl ⟨by rfl, by intro w hSw; (try dsimp only at hSw); go_simp; with_reducible rfl⟩
            try simp only [Act.put, List.setIfInBounds_toArray, List.set_cons_zero, List.set_cons_succ]
            refine wpAnyH_take (i := 10) (oi := ?oiz88) (v := ?vz88) ?hiz88 (by kernel_rfl) (by kernel_rfl) (by kernel_rfl) ?hQz88 ?hyz88 (by assumption) ?restz88
            case hiz88 => simp only [List.getElem?_toArray, List.getElem?_cons_zero, List.getElem?_cons_succ]; rfl
            case hQz88 => exact fun _ _ _ h => h
            case hyz88 => exact Or.inl ⟨by rfl, by intro w hSw; (try dsimp only at hSw); go_simp; with_reducible rfl⟩
            try simp only [Act.put, List.setIfInBounds_toArray, List.set_cons_zero, List.set_cons_succ]
            refine wpAnyH_ready (rs := [11]) (by kernel_rfl) (by simp) (AllReadyH.cons (o := ?oy8911) ?hy8911 (fun K hK => ?sy8911) AllReadyH.nil)
            case hy8911 => simp only [List.getElem?_toArray, List.getElem?_cons_zero, List.getElem?_cons_succ]; rfl
            refine stp_storeP (off := 0) BC2.out aggKey (St.nums HK1.out.1) (by rw [numsA_size]; have := HZ32.out; simp [HZ32.out, HK1.out.1]) rfl _ _ rfl rfl rfl rfl ?_
            rw [quad_splice ([]) (z) (z ++ z ++ z) k1 (by simp only [List.append_assoc, List.nil_append, List.append_nil]) (by simp [HZ32.out]) (by rw [HK1.out.1, HZ32.out])]
            have BC3 := Lib.hid (BC2.out.setRow (numsA .u8 ([] ++ k1 ++ (z ++ z ++ z))))
            have hH2 := hHeld.setRow (g := wr.heap.size) (Nat.le_refl _) (numsA .u8 ([] ++ k1 ++ (z ++ z ++ z)))
            refine hK.out _ _ hH2 (fun _ => ?_)
            clear hHeld hK K BC2
            have hHeld := hH2
            clear hH2
            generalize World.setRow wd2 wr.heap.size (numsA .u8 ([] ++ k1 ++ (z ++ z ++ z))) = we1 at hHeld BC3 ⊢
            try simp only [Act.put, List.setIfInBounds_toArray, List.set_cons_zero, List.set_cons_succ]
            refine wpAnyH_take (i := 12) (oi := ?oiz90) (v := ?vz90) ?hiz90 (by kernel_rfl) (by kernel_rfl) (by kernel_rfl) ?hQz90 ?hyz90 (by assumption) ?restz90
            case hiz90 => simp only [List.getElem?_toArray, List.getElem?_cons_zero, List.getElem?_cons_succ]; rfl
            case hQz90 => exact fun _ _ _ h => h
            case hyz90 => exact Or.inl ⟨by rfl, by intro w hSw; (try dsimp only at hSw); go_simp; with_reducible rfl⟩
            try simp only [Act.put, List.setIfInBounds_toArray, List.set_cons_zero, List.set_cons_succ]
            refine wpAnyH_ready (rs := [13]) (by kernel_rfl) (by simp) (AllReadyH.cons (o := ?oy9113) ?hy9113 (fun K hK => ?sy9113) AllReadyH.nil)
            case hy9113 => simp only [List.getElem?_toArray, List.getElem?_cons_zero, List.getElem?_cons_succ]; rfl
            refine stp_storeP (off := 32) BC3.out aggKey (St.nums HK2.out.1) (by rw [numsA_size]; have := HZ32.out; simp [HZ32.out, HK2.out.1, HK1.out.1]) rfl _ _ rfl rfl rfl rfl ?_
            rw [quad_splice (k1) (z) (z ++ z) k2 (by simp only [List.append_assoc, List.nil_append, List.append_nil]) (by simp [HZ32.out, HK1.out.1]) (by rw [HK2.out.1, HZ32.out])]
            have BC4 := Lib.hid (BC3.out.setRow (numsA .u8 (k1 ++ k2 ++ (z ++ z))))
            have hH2 := hHeld.setRow (g := wr.heap.size) (Nat.le_refl _) (numsA .u8 (k1 ++ k2 ++ (z ++ z)))
            refine hK.out _ _ hH2 (fun _ => ?_)
            clear hHeld hK K BC3
            have hHeld := hH2
            clear hH2
            generalize World.setRow we1 wr.heap.size (numsA .u8 (k1 ++ k2 ++ (z ++ z))) = we2 at hHeld BC4 ⊢
            try simp only [Act.put, List.setIfInBounds_toArray, List.set_cons_zero, List.set_cons_succ]
            have HRC2 := Lib.hid hHeld
            clear hHeld HRC
            refine wpAnyH_done (by kernel_rfl) ?_ _
            go_wp2_with fail
            refine wp_region_held_drew (S := fun W => Ext wr W) (by kernel_rfl) HRC2.out.drew (fun hHeld => ?_)
            refine wpAnyH_take (i := 0) (oi := ?oiz92) (v := (.agg (numsA .u8 xf))) ?hiz92 (by kernel_rfl) (by kernel_rfl) (by kernel_rfl) ?hQz92 ?hyz92 (by assumption) ?restz92
            case hiz92 => simp only [List.getElem?_toArray, List.getElem?_cons_zero, List.getElem?_cons_succ]; rfl
            case hQz92 => exact fun _ _ _ h => h
            case hyz92 => refine yields_loadBSP (fun W hW => B2.out.ext hW) aggKey hsf ?_ _ rfl rfl; rfl
            try simp only [Act.put, List.setIfInBounds_toArray, List.set_cons_zero, List.set_cons_succ]
            refine wpAnyH_take (i := 1) (oi := ?oiz93) (v := ?vz93) ?hiz93 (by kernel_rfl) (by kernel_rfl) (by kernel_rfl) ?hQz93 ?hyz93 (by assumption) ?restz93
            case hiz93 => simp only [List.getElem?_toArray, List.getElem?_cons_zero, List.getElem?_cons_succ]; rfl
            case hQz93 => exact fun _ _ _ h => h
            case hyz93 => exact Or.inl ⟨by rfl, by intro w hSw; (try dsimp only at hSw); go_simp; with_reducible rfl⟩
            try simp only [Act.put, List.setIfInBounds_toArray, List.set_cons_zero, List.set_cons_succ]
            refine wpAnyH_take (i := 2) (oi := ?oiz94) (v := ?vz94) ?hiz94 (by kernel_rfl) (by kernel_rfl) (by kernel_rfl) ?hQz94 ?hyz94 (by assumption) ?restz94
            case hiz94 => simp only [List.getElem?_toArray, List.getElem?_cons_zero, List.getElem?_cons_succ]; rfl
            case hQz94 => exact fun _ _ _ h => h
            case hyz94 => exact Or.inl ⟨by rfl, by intro w hSw; (try dsimp only at hSw); go_simp; with_reducible rfl⟩
            try simp only [Act.put, List.setIfInBounds_toArray, List.set_cons_zero, List.set_cons_succ]
            refine wpAnyH_take (i := 3) (oi := ?oiz95) (v := ?vz95) ?hiz95 (by kernel_rfl) (by kernel_rfl) (by kernel_rfl) ?hQz95 ?hyz95 (by assumption) ?restz95
            case hiz95 => simp only [List.getElem?_toArray, List.getElem?_cons_zero, List.getElem?_cons_succ]; rfl
            case hQz95 => exact fun _ _ _ h => h
            case hyz95 => exact Or.inl ⟨by rfl, by intro w hSw; (try dsimp only at hSw); go_simp; with_reducible rfl⟩
            try simp only [Act.put, List.setIfInBounds_toArray, List.set_cons_zero, List.set_cons_succ]
            refine wpAnyH_take (i := 4) (oi := ?oiz96) (v := (.agg (numsA .u8 p))) ?hiz96 (by kernel_rfl) (by kernel_rfl) (by kernel_rfl) ?hQz96 ?hyz96 (by assumption) ?restz96
            case hiz96 => simp only [List.getElem?_toArray, List.getElem?_cons_zero, List.getElem?_cons_succ]; rfl
            case hQz96 => exact fun _ _ _ h => h
            case hyz96 => refine yields_loadSP gp (op + k * 32) (tKey.enc p) (by rw [tKey.len _ HPK.out]; exact aggKey) HPC2.out ?_ _ rfl rfl; rfl
            try simp only [Act.put, List.setIfInBounds_toArray, List.set_cons_zero, List.set_cons_succ]
            refine wpAnyH_take (i := 5) (oi := ?oiz97) (v := ?vz97) ?hiz97 (by kernel_rfl) (by kernel_rfl) (by kernel_rfl) ?hQz97 ?hyz97 (by assumption) ?restz97
            case hiz97 => simp only [List.getElem?_toArray, List.getElem?_cons_zero, List.getElem?_cons_succ]; rfl
            case hQz97 => exact fun _ _ _ h => h
            case hyz97 => exact Or.inl ⟨by rfl, by intro w hSw; (try dsimp only at hSw); go_simp; with_reducible rfl⟩
            try simp only [Act.put, List.setIfInBounds_toArray, List.set_cons_zero, List.set_cons_succ]
            have BC5 := Lib.hid (BC4.out.drewN 1)
            change Hid (Blk we2.drew wr.heap.size 62 _) at BC5
            clear BC4
            generalize we2.drew = wf at hHeld BC5 ⊢
            refine wpAnyH_ready (rs := [6]) (by kernel_rfl) (by simp) (AllReadyH.cons (o := ?oy986) ?hy986 (fun K hK => ?sy986) AllReadyH.nil)
            case hy986 => simp only [List.getElem?_toArray, List.getElem?_cons_zero, List.getElem?_cons_succ]; rfl
            go_simp
            refine (HPF1.out _).mono ?_
            rintro e wf2 ⟨rfl, hx⟩
            have BC6 := Lib.hid (BC5.out.ext hx)
            clear BC5
            have hH2 := hHeld.trans hx
            refine hK.out _ _ hH2 (fun _ => ?_)
            clear hHeld hK K
            have hHeld := hH2
            clear hH2
            try simp only [Act.put, List.setIfInBounds_toArray, List.set_cons_zero, List.set_cons_succ]
            refine wpAnyH_take (i := 7) (oi := ?oiz99) (v := ?vz99) ?hiz99 (by kernel_rfl) (by kernel_rfl) (by kernel_rfl) ?hQz99 ?hyz99 (by assumption) ?restz99
            case hiz99 => simp only [List.getElem?_toArray, List.getElem?_cons_zero, List.getElem?_cons_succ]; rfl
            case hQz99 => exact fun _ _ _ h => h
            case hyz99 => exact Or.inl ⟨by rfl, by intro w hSw; (try dsimp only at hSw); go_simp; with_reducible rfl⟩
            try simp only [Act.put, List.setIfInBounds_toArray, List.set_cons_zero, List.set_cons_succ]
            refine wpAnyH_take (i := 8) (oi := ?oiz100) (v := ?vz100) ?hiz100 (by kernel_rfl) (by kernel_rfl) (by kernel_rfl) ?hQz100 ?hyz100 (by assumption) ?restz100
            case hiz100 => simp only [List.getElem?_toArray, List.getElem?_cons_zero, List.getElem?_cons_succ]; rfl
            case hQz100 => exact fun _ _ _ h => h
            case hyz100 => exact Or.inl ⟨by rfl, by intro w hSw; (try dsimp only at hSw); go_simp; with_reducible rfl⟩
            try simp only [Act.put, List.setIfInBounds_toArray, List.set_cons_zero, List.set_cons_succ]
            refine wpAnyH_take (i := 9) (oi := ?oiz101) (v := ?vz101) ?hiz101 (by kernel_rfl) (by kernel_rfl) (by kernel_rfl) ?hQz101 ?hyz101 (by assumption) ?restz101
            case hiz101 => simp only [List.getElem?_toArray, List.getElem?_cons_zero, List.getElem?_cons_succ]; rfl
            case hQz101 => exact fun _ _ _ h => h
            case hyz101 => exact Or.inl ⟨by rfl, by intro w hSw; (try dsimp only at hSw); go_simp; with_reducible rfl⟩
            try simp only [Act.put, List.setIfInBounds_toArray, List.set_cons_zero, List.set_cons_succ]
            refine wpAnyH_take (i := 10) (oi := ?oiz102) (v := ?vz102) ?hiz102 (by kernel_rfl) (by kernel_rfl) (by kernel_rfl) ?hQz102 ?hyz102 (by assumption) ?restz102
            case hiz102 => simp only [List.getElem?_toArray, List.getElem?_cons_zero, List.getElem?_cons_succ]; rfl
            case hQz102 => exact fun _ _ _ h => h
            case hyz102 => exact Or.inl ⟨by rfl, by intro w hSw; (try dsimp only at hSw); go_simp; with_reducible rfl⟩
            try simp only [Act.put, List.setIfInBounds_toArray, List.set_cons_zero, List.set_cons_succ]
            refine wpAnyH_ready (rs := [11]) (by kernel_rfl) (by simp) (AllReadyH.cons (o := ?oy10311) ?hy10311 (fun K hK => ?sy10311) AllReadyH.nil)
            case hy10311 => simp only [List.getElem?_toArray, List.getElem?_cons_zero, List.getElem?_cons_succ]; rfl
            refine stp_storeP (off := 64) BC6.out aggKey (St.nums HK3.out.1) (by rw [numsA_size]; have := HZ32.out; simp [HZ32.out, HK3.out.1, HK1.out.1, HK2.out.1]) rfl _ _ rfl rfl rfl rfl ?_
            rw [quad_splice (k1 ++ k2) (z) (z) k3 (by simp only [List.append_assoc, List.nil_append, List.append_nil]) (by simp [HZ32.out, HK1.out.1, HK2.out.1]) (by rw [HK3.out.1, HZ32.out])]
            have BC7 := Lib.hid (BC6.out.setRow (numsA .u8 (k1 ++ k2 ++ k3 ++ (z))))
            have hH2 := hHeld.setRow (g := wr.heap.size) (Nat.le_refl _) (numsA .u8 (k1 ++ k2 ++ k3 ++ (z)))
            refine hK.out _ _ hH2 (fun _ => ?_)
            clear hHeld hK K BC6
            have hHeld := hH2
            clear hH2
            generalize World.setRow wf2 wr.heap.size (numsA .u8 (k1 ++ k2 ++ k3 ++ (z))) = wf3 at hHeld BC7 ⊢
            try simp only [Act.put, List.setIfInBounds_toArray, List.set_cons_zero, List.set_cons_succ]
            refine wpAnyH_take (i := 12) (oi := ?oiz104) (v := ?vz104) ?hiz104 (by kernel_rfl) (by kernel_rfl) (by kernel_rfl) ?hQz104 ?hyz104 (by assumption) ?restz104
            case hiz104 => simp only [List.getElem?_toArray, List.getElem?_cons_zero, List.getElem?_cons_succ]; rfl
            case hQz104 => exact fun _ _ _ h => h
            case hyz104 => exact Or.inl ⟨by rfl, by intro w hSw; (try dsimp only at hSw); go_simp; with_reducible rfl⟩
            try simp only [Act.put, List.setIfInBounds_toArray, List.set_cons_zero, List.set_cons_succ]
            refine wpAnyH_ready (rs := [13]) (by kernel_rfl) (by simp) (AllReadyH.cons (o := ?oy10513) ?hy10513 (fun K hK => ?sy10513) AllReadyH.nil)
            case hy10513 => simp only [List.getElem?_toArray, List.getElem?_cons_zero, List.getElem?_cons_succ]; rfl
            refine stp_storeP (off := 96) BC7.out aggKey (St.nums HK4.out.1) (by rw [numsA_size]; have := HZ32.out; simp [HZ32.out, HK4.out.1, HK1.out.1, HK2.out.1, HK3.out.1]) rfl _ _ rfl rfl rfl rfl ?_
            rw [quad_splice (k1 ++ k2 ++ k3) (z) ([]) k4 (by simp only [List.append_assoc, List.nil_append, List.append_nil]) (by simp [HZ32.out, HK1.out.1, HK2.out.1, HK3.out.1]) (by rw [HK4.out.1, HZ32.out])]
            have BC8 := Lib.hid (BC7.out.setRow (numsA .u8 (k1 ++ k2 ++ k3 ++ k4 ++ ([]))))
            have hH2 := hHeld.setRow (g := wr.heap.size) (Nat.le_refl _) (numsA .u8 (k1 ++ k2 ++ k3 ++ k4 ++ ([])))
            refine hK.out _ _ hH2 (fun _ => ?_)
            clear hHeld hK K BC7
            have hHeld := hH2
            clear hH2
            generalize World.setRow wf3 wr.heap.size (numsA .u8 (k1 ++ k2 ++ k3 ++ k4 ++ ([]))) = wf4 at hHeld BC8 ⊢
            try simp only [Act.put, List.setIfInBounds_toArray, List.set_cons_zero, List.set_cons_succ]
            have HRC3 := Lib.hid hHeld
            clear hHeld HRC2
            refine wpAnyH_done (by kernel_rfl) ?_ _
            rw [List.append_nil, HQQ.out] at BC8
            go_wp2_with (refine wpl_loadB BC8.out aggClash (sizeN HQL.out) rfl _ rfl rfl ?_)
            refine (HVC.out _).mono ?_
            rintro e w9 ⟨rfl, hx⟩
            have BC9 := Lib.hid (BC8.out.ext hx)
            have HRC4 := Lib.hid (HRC3.out.trans hx)
            clear hx BC8 HRC3
            cases bv with
            | true =>
              have HVT := Lib.hid (of_decide_eq_true HBV.out)
              go_wp2_with (first
                | (refine wpl_loadB BC9.out aggClash (sizeN HQL.out) rfl _ rfl rfl ?_)
                | (refine wpl_storeN (B8W.out.ext HRC4.out) aggClash HQL.out (by rw [numsA_size]; exact HZL.out) rfl _ _ rfl rfl rfl rfl ?_))
              refine bodyPost_ret (results_kc rfl _ rfl aggClash (sizeN HQL.out) ((B8W.out.ext HRC4.out).setRow _) rfl) rfl ?_
              exact ⟨_, _, rfl, ⟨HQL.out, .inr (.inr ⟨HYS.out, HLX.out, rfl, k1, k2, k3, k4, HK1.out, HK2.out, HK3.out, HK4.out, HQQ.out.symm, HUN.out, HVT.out⟩)⟩, (HXW.out.trans HRC4.out).setRow (by omega) _⟩
            | false =>
              have HVF := Lib.hid (of_decide_eq_false HBV.out)
              go_wp2_with fail
              refine wp_region_f [10, 11] (S := fun W => Ext w9 W) (by kernel_rfl) ((Ext.refl w9).drew) (fun hHeld => ?_)
              refine wpF_take (i := 0) (oi := ?oiz106) (v := ?vz106) ?hiz106 (by kernel_rfl) (by kernel_rfl) (by kernel_rfl) (by kernel_rfl) ?hQz106 ?hyz106 (by assumption) ?restz106
              case hiz106 => simp only [List.getElem?_toArray, List.getElem?_cons_zero, List.getElem?_cons_succ]; rfl
              case hQz106 => exact fun _ _ _ h => h
              case hyz106 => exact Or.inl ⟨by rfl, by intro w hSw; (try dsimp only at hSw); go_simp; with_reducible rfl⟩
              try simp only [Act.put, List.setIfInBounds_toArray, List.set_cons_zero, List.set_cons_succ]
              refine wpF_take (i := 1) (oi := ?oiz107) (v := (.agg (numsA .u8 k1))) ?hiz107 (by kernel_rfl) (by kernel_rfl) (by kernel_rfl) (by kernel_rfl) ?hQz107 ?hyz107 (by assumption) ?restz107
              case hiz107 => simp only [List.getElem?_toArray, List.getElem?_cons_zero, List.getElem?_cons_succ]; rfl
              case hQz107 => exact fun _ _ _ h => h
              case hyz107 => refine yields_loadSP wr.heap.size 0 (tKey.enc k1) (by rw [tKey.len _ HK1.out]; exact aggKey) (fun W hW => (HQ4.out W (BC9.out.ext hW)).1) ?_ _ rfl rfl; rfl
              try simp only [Act.put, List.setIfInBounds_toArray, List.set_cons_zero, List.set_cons_succ]
              refine wpF_take (i := 2) (oi := ?oiz108) (v := ?vz108) ?hiz108 (by kernel_rfl) (by kernel_rfl) (by kernel_rfl) (by kernel_rfl) ?hQz108 ?hyz108 (by assumption) ?restz108
              case hiz108 => simp only [List.getElem?_toArray, List.getElem?_cons_zero, List.getElem?_cons_succ]; rfl
              case hQz108 => exact fun _ _ _ h => h
              case hyz108 => exact Or.inl ⟨by rfl, by intro w hSw; (try dsimp only at hSw); go_simp; with_reducible rfl⟩
              try simp only [Act.put, List.setIfInBounds_toArray, List.set_cons_zero, List.set_cons_succ]
              refine wpF_take (i := 3) (oi := ?oiz109) (v := (.agg (numsA .u8 k2))) ?hiz109 (by kernel_rfl) (by kernel_rfl) (by kernel_rfl) (by kernel_rfl) ?hQz109 ?hyz109 (by assumption) ?restz109
              case hiz109 => simp only [List.getElem?_toArray, List.getElem?_cons_zero, List.getElem?_cons_succ]; rfl
              case hQz109 => exact fun _ _ _ h => h
              case hyz109 => refine yields_loadSP wr.heap.size 32 (tKey.enc k2) (by rw [tKey.len _ HK2.out]; exact aggKey) (fun W hW => (HQ4.out W (BC9.out.ext hW)).2.1) ?_ _ rfl rfl; rfl
              try simp only [Act.put, List.setIfInBounds_toArray, List.set_cons_zero, List.set_cons_succ]
              refine wpF_take (i := 5) (oi := ?oiz110) (v := ?vz110) ?hiz110 (by kernel_rfl) (by kernel_rfl) (by kernel_rfl) (by kernel_rfl) ?hQz110 ?hyz110 (by assumption) ?restz110
              case hiz110 => simp only [List.getElem?_toArray, List.getElem?_cons_zero, List.getElem?_cons_succ]; rfl
              case hQz110 => exact fun _ _ _ h => h
              case hyz110 => exact Or.inl ⟨by rfl, by intro w hSw; (try dsimp only at hSw); go_simp; with_reducible rfl⟩
              try simp only [Act.put, List.setIfInBounds_toArray, List.set_cons_zero, List.set_cons_succ]
              refine wpF_take (i := 6) (oi := ?oiz111) (v := (.agg (numsA .u8 k3))) ?hiz111 (by kernel_rfl) (by kernel_rfl) (by kernel_rfl) (by kernel_rfl) ?hQz111 ?hyz111 (by assumption) ?restz111
              case hiz111 => simp only [List.getElem?_toArray, List.getElem?_cons_zero, List.getElem?_cons_succ]; rfl
              case hQz111 => exact fun _ _ _ h => h
              case hyz111 => refine yields_loadSP wr.heap.size 64 (tKey.enc k3) (by rw [tKey.len _ HK3.out]; exact aggKey) (fun W hW => (HQ4.out W (BC9.out.ext hW)).2.2.1) ?_ _ rfl rfl; rfl
              try simp only [Act.put, List.setIfInBounds_toArray, List.set_cons_zero, List.set_cons_succ]
              refine wpF_take (i := 7) (oi := ?oiz112) (v := ?vz112) ?hiz112 (by kernel_rfl) (by kernel_rfl) (by kernel_rfl) (by kernel_rfl) ?hQz112 ?hyz112 (by assumption) ?restz112
              case hiz112 => simp only [List.getElem?_toArray, List.getElem?_cons_zero, List.getElem?_cons_succ]; rfl
              case hQz112 => exact fun _ _ _ h => h
              case hyz112 => exact Or.inl ⟨by rfl, by intro w hSw; (try dsimp only at hSw); go_simp; with_reducible rfl⟩
              try simp only [Act.put, List.setIfInBounds_toArray, List.set_cons_zero, List.set_cons_succ]
              refine wpF_take (i := 8) (oi := ?oiz113) (v := (.agg (numsA .u8 k4))) ?hiz113 (by kernel_rfl) (by kernel_rfl) (by kernel_rfl) (by kernel_rfl) ?hQz113 ?hyz113 (by assumption) ?restz113
              case hiz113 => simp only [List.getElem?_toArray, List.getElem?_cons_zero, List.getElem?_cons_succ]; rfl
              case hQz113 => exact fun _ _ _ h => h
              case hyz113 => refine yields_loadSP wr.heap.size 96 (tKey.enc k4) (by rw [tKey.len _ HK4.out]; exact aggKey) (fun W hW => (HQ4.out W (BC9.out.ext hW)).2.2.2) ?_ _ rfl rfl; rfl
              try simp only [Act.put, List.setIfInBounds_toArray, List.set_cons_zero, List.set_cons_succ]
              refine wpF_ready (rs := [4]) (by kernel_rfl) (by simp) (AllF.cons (o := ?oy1144) ?hy1144 (fun K hK => ?sy1144) AllF.nil)
              case hy1144 => simp only [List.getElem?_toArray, List.getElem?_cons_zero, List.getElem?_cons_succ]; rfl
              go_simp
              refine (HN1.out _).mono ?_
              rintro e wg ⟨rfl, hx⟩
              have hH2 := hHeld.trans hx
              refine hK.out _ _ (fun _ _ => hH2) ?_
              clear hHeld hK K hx
              have hHeld := hH2
              clear hH2
              try simp only [Act.put, List.setIfInBounds_toArray, List.set_cons_zero, List.set_cons_succ]
              refine wpF_ready (rs := [9]) (by kernel_rfl) (by simp) (AllF.cons (o := ?oy1159) ?hy1159 (fun K hK => ?sy1159) AllF.nil)
              case hy1159 => simp only [List.getElem?_toArray, List.getElem?_cons_zero, List.getElem?_cons_succ]; rfl
              go_simp
              refine (HN2.out _).mono ?_
              rintro e wh ⟨rfl, hx⟩
              have hH2 := hHeld.trans hx
              refine hK.out _ _ (fun _ _ => hH2) ?_
              have HH := Lib.hid (HRC4.out.trans hH2)
              clear hHeld hK K hx hH2
              try simp only [Act.put, List.setIfInBounds_toArray, List.set_cons_zero, List.set_cons_succ]
              refine wpF_ready (rs := [10]) (by kernel_rfl) (by simp) (AllF.cons (o := ?oy11610) ?hy11610 (fun K hK => ?sy11610) AllF.nil)
              case hy11610 => simp only [List.getElem?_toArray, List.getElem?_cons_zero, List.getElem?_cons_succ]; rfl
              have B5 := B1.out.ext HH.out
              refine stp_storeP (off := 0) B5 aggKey (St.nums HY1.out.1) (by omega) rfl _ _ rfl rfl rfl rfl ?_
              rw [splice_all _ _ (by rw [Array.length_toList, hso, (St.nums (k := .u8) HY1.out.1).size])]
              have e9 : (numsA .u8 y1).toList.toArray = numsA .u8 y1 := by simp
              rw [e9]
              have BA1 := Lib.hid (B5.setRow (numsA .u8 y1))
              have BA2 := Lib.hid ((B2.out.ext HH.out).row_far (g' := g13) (by have := HG13.out; omega) (numsA .u8 y1))
              have BA3 := Lib.hid ((B8W.out.ext HH.out).row_far (g' := g13) (by have := HG13.out; omega) (numsA .u8 y1))
              have HA := Lib.hid ((HXW.out.trans HH.out).setRow (g := g13) (by have := HG13.out; omega) (numsA .u8 y1))
              have HOA := Lib.hid ((HOW.out.ext HH.out).kept (row := some g13) (stRowK _ _ (numsA .u8 y1)) (.inr fun e => HOF.out e.symm))
              have HBA := Lib.hid ((HBW.out.ext HH.out).kept (row := some g13) (stRowK _ _ (numsA .u8 y1)) (.inr fun e => HBW.out.far_of_lt (Nat.lt_succ_self _) e.symm))
              refine hK.out _ _ (fun h => absurd (by decide) h) ?_
              clear hK K e9
              generalize wh.setRow g13 (numsA .u8 y1) = wi at BA1 BA2 BA3 HA HOA HBA ⊢
              try simp only [Act.put, List.setIfInBounds_toArray, List.set_cons_zero, List.set_cons_succ]
              refine wpF_ready (rs := [11]) (by kernel_rfl) (by simp) (AllF.cons (o := ?oy11711) ?hy11711 (fun K hK => ?sy11711) AllF.nil)
              case hy11711 => simp only [List.getElem?_toArray, List.getElem?_cons_zero, List.getElem?_cons_succ]; rfl
              refine stp_storeP (off := 0) BA2.out aggKey (St.nums HY2.out.1) (by omega) rfl _ _ rfl rfl rfl rfl ?_
              rw [splice_all _ _ (by rw [Array.length_toList, hsf, (St.nums (k := .u8) HY2.out.1).size])]
              have e9 : (numsA .u8 y2).toList.toArray = numsA .u8 y2 := by simp
              rw [e9]
              have BB2 := Lib.hid (BA2.out.setRow (numsA .u8 y2))
              have BB1 := Lib.hid (BA1.out.row_far (g' := w.heap.size) (by have := HG13.out; omega) (numsA .u8 y2))
              have BB3 := Lib.hid (BA3.out.row_far (g' := w.heap.size) (by omega) (numsA .u8 y2))
              have HB := Lib.hid (HA.out.setRow (g := w.heap.size) (Nat.le_refl _) (numsA .u8 y2))
              have HOB := Lib.hid (HOA.out.kept (row := some w.heap.size) (stRowK _ _ (numsA .u8 y2)) (.inr fun e => HOA.out.far_of_lt (by omega) e.symm))
              have HBB := Lib.hid (HBA.out.kept (row := some w.heap.size) (stRowK _ _ (numsA .u8 y2)) (.inr fun e => HBA.out.far_of_lt (by have := HG13.out; omega) e.symm))
              refine hK.out _ _ (fun h => absurd (by decide) h) ?_
              clear hK K e9
              generalize wi.setRow w.heap.size (numsA .u8 y2) = wj at BB1 BB2 BB3 HB HOB HBB ⊢
              try simp only [Act.put, List.setIfInBounds_toArray, List.set_cons_zero, List.set_cons_succ]
              refine wpF_done (by kernel_rfl) ?_ _
              go_wp2
              go_roundw
              case rel => exact ⟨k + 1, by have := HLT.out; omega, by go_num, by rw [HST1.out]; exact BB1.out, by rw [HST2.out]; exact BB2.out, by rw [HST1.out, HST2.out, ← HYE1.out, ← HYE2.out]; exact HVF.out, BB3.out, HOB.out, HBB.out, HB.out⟩
              case measure => simp [intOf]; omega
          · obtain rfl : k = m := by omega
            have e1 : chk x0 (ps.take k) (bs.take k) = root := by rw [List.take_of_length_le (by rw [HM.out]; omega), List.take_of_length_le (by rw [← HBL.out, HM.out]; omega)]; exact HPC.out
            have e2 : chk leaf (ps.take k) (bs.take k) = root := by rw [List.take_of_length_le (by rw [HM.out]; omega), List.take_of_length_le (by rw [← HBL.out, HM.out]; omega)]; exact HYS.out
            exact absurd (e1.trans e2.symm) HNE.out
end Go.Proofs.Ytdjclllnmclocaa
/- The check of a leaf's proof: a proof too long, a leaf that there is not. No condition. -/
namespace Go.Proofs.Ytdjclllnmclocaa
open Go.RowKit
set_option linter.unusedVariables false
set_option linter.unusedSimpArgs false

set_option maxHeartbeats 1000000 in
set_option maxRecDepth 100000 in
theorem checkProof_short (n i : Nat) (hn : n ≤ 256) (hi : i < n) (root leaf : List Int) (v : Value) (ps : List (List Int)) (hps : ps.length ≤ 256) (w : World) (S : Nat → Prop) (h : RdL tKey w S v ps) (hlen : ps.length ≠ (sd n i).length) :
    Calls Try.prog 31 #[.agg (numsA .u8 root), .int .i64 n, .int .i64 i, .agg (numsA .u8 leaf), v] w fun q w' => q = .returned (.tuple #[.bool false, .int .i64 0]) ∧ Ext w w' := by
  have HP := Lib.hid (fun W => sides_any n i hn hi W)
  have hw := fun W => within_any (i : Int) 0 ((n : Int) - 1) W
  have hl := fun W => isLeaves_any (n : Int) W
  obtain ⟨R, hR⟩ : ∃ R, (decide ((0 : Int) ≤ (i : Int)) && decide ((i : Int) ≤ (n : Int) - 1)) = R := ⟨_, rfl⟩
  rw [hR] at hw
  obtain rfl : R = true := by rw [← hR]; simp; omega
  obtain ⟨R2, hR2⟩ : ∃ R2, (decide ((1 : Int) ≤ (n : Int)) && decide ((n : Int) ≤ 256)) = R2 := ⟨_, rfl⟩
  rw [hR2] at hl
  obtain rfl : R2 = true := by rw [← hR2]; simp; omega
  have hw1 : IntKind.i64.wrap ((n : Int) - 1) = (n : Int) - 1 := IntWalk.i64_in _ (by omega)
  obtain ⟨bs, hbs⟩ : ∃ bs, (sd n i).reverse = bs := ⟨_, rfl⟩
  obtain ⟨j, hj⟩ : ∃ j, bs.length = j := ⟨_, rfl⟩
  have hjl : j = (sd n i).length := by rw [← hj, ← hbs, List.length_reverse]
  rw [hbs] at HP
  obtain ⟨A, cap, rfl, hcap, hln, hrd, hok⟩ := id h
  have hd : ¬ (256 : Int) < (ps.length : Int) := by omega
  obtain ⟨m, hm⟩ : ∃ m, ps.length = m := ⟨_, rfl⟩
  have hneq : ((j : Int) != (m : Int)) = true := by simp; omega
  rw [hm] at hd ⊢
  have HJ := Lib.hid hj
  clear hR hR2 hn hi hbs hlen h hrd hok hln hps hm hcap hjl hj
  go_enter Try.func31, Try.ntmps31
  go_wp2_with fail
  have HX0 := Lib.hid ((ext_alloc w (.cells (numsA .u8 root) 28)).alloc (.cells (numsA .u8 leaf) 28))
  generalize (w.alloc (.cells (numsA .u8 root) 28)).alloc (.cells (numsA .u8 leaf) 28) = w0 at HX0 ⊢
  refine (hl _).mono ?_
  rintro e w' ⟨rfl, rfl⟩
  clear hl
  go_wp2_with fail
  refine (hw _).mono ?_
  rintro e w' ⟨rfl, rfl⟩
  clear hw
  go_wp2_with fail
  refine (HP.out _).mono ?_
  rintro e w2 ⟨v2, rfl, ho, hx⟩
  have HX2 := Lib.hid (HX0.out.trans hx)
  obtain ⟨C, cc, rfl⟩ := ho.shape
  rw [HJ.out]
  clear ho hx HP HX0
  go_wp2
  go_ret2
  exact ⟨rfl, HX2.out⟩
set_option maxHeartbeats 1000000 in
set_option maxRecDepth 100000 in
theorem checkProof_range (n : Nat) (hn : n ≤ 256) (h1 : 1 ≤ n) (root leaf : List Int) (v : Value) (ps : List (List Int)) (hps : ps.length ≤ 256) (w : World) (S : Nat → Prop) (h : RdL tKey w S v ps) :
    Calls Try.prog 31 #[.agg (numsA .u8 root), .int .i64 n, .int .i64 n, .agg (numsA .u8 leaf), v] w fun q w' => q = .returned (.tuple #[.bool false, .int .i64 2]) ∧ Ext w w' := by
  have hw := fun W => within_any (n : Int) 0 ((n : Int) - 1) W
  have hl := fun W => isLeaves_any (n : Int) W
  obtain ⟨R, hR⟩ : ∃ R, (decide ((0 : Int) ≤ (n : Int)) && decide ((n : Int) ≤ (n : Int) - 1)) = R := ⟨_, rfl⟩
  rw [hR] at hw
  obtain rfl : R = false := by rw [← hR]; simp; omega
  obtain ⟨R2, hR2⟩ : ∃ R2, (decide ((1 : Int) ≤ (n : Int)) && decide ((n : Int) ≤ 256)) = R2 := ⟨_, rfl⟩
  rw [hR2] at hl
  obtain rfl : R2 = true := by rw [← hR2]; simp; omega
  have hw1 : IntKind.i64.wrap ((n : Int) - 1) = (n : Int) - 1 := IntWalk.i64_in _ (by omega)
  obtain ⟨A, cap, rfl, hcap, hln, hrd, hok⟩ := id h
  have hd : ¬ (256 : Int) < (ps.length : Int) := by omega
  obtain ⟨m, hm⟩ : ∃ m, ps.length = m := ⟨_, rfl⟩
  rw [hm] at hd ⊢
  clear hR hR2 hn h hrd hok hln hps hm hcap h1
  go_enter Try.func31, Try.ntmps31
  go_wp2_with fail
  have HX0 := Lib.hid ((ext_alloc w (.cells (numsA .u8 root) 28)).alloc (.cells (numsA .u8 leaf) 28))
  generalize (w.alloc (.cells (numsA .u8 root) 28)).alloc (.cells (numsA .u8 leaf) 28) = w0 at HX0 ⊢
  refine (hl _).mono ?_
  rintro e w' ⟨rfl, rfl⟩
  clear hl
  go_wp2_with fail
  refine (hw _).mono ?_
  rintro e w' ⟨rfl, rfl⟩
  clear hw
  go_wp2
  go_ret2
  exact ⟨rfl, HX0.out⟩
end Go.Proofs.Ytdjclllnmclocaa
