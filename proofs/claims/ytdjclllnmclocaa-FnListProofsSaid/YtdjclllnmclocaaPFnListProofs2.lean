/- What the walk of the law FnListProofs needs, part 2 of 5. No condition. -/
import Derived.Deep.RegionHeld3
import Derived.Deep.RegionLaw
import Derived.OrdersHeld
import Derived.Deep.RegionHeld
import Derived.Great.BuildSlice
import Derived.Test.YtdjclllnmclocaaPFnListProofs1
/- The statements' mixing of a block into a state. No condition. -/
namespace Go.Proofs.Ytdjclllnmclocaa
open Go.RowKit
set_option linter.unusedVariables false
set_option linter.unusedSimpArgs false

set_option maxHeartbeats 8000000 in
set_option maxRecDepth 100000 in
theorem l01Mix_any (st b : List Int) (hs : st.length = 8) (hu : U32 st) (hk : K32 b) (w : World) : Calls Try.prog 123 #[.agg (numsA .u32 st), .agg (numsA .u8 b)] w fun e w' => e = .returned (.agg (numsA .u32 (mixL st b))) ∧ Ext w w' := by
  have HU := Lib.hid hu
  have HK := Lib.hid hk
  have HS := Lib.hid hs
  clear hu hk hs
  go_enter Try.func123, Try.ntmps123
  go_wp2_with fail
  go_loopw [6] (fun i wr => ∃ (k : Nat) (z : Array Value), k ≤ 8 ∧ i = .int .i64 k ∧ z.size = 8 ∧ Blk wr w.heap.size 35 (numsA .u32 st) ∧ Blk wr (w.heap.size + 1) 27 (numsA .u8 b) ∧ Blk wr (w.heap.size + 2) 35 z ∧ Blk wr (w.heap.size + 3) 35 (numsA .u32 ((List.range k).map (word b) ++ List.replicate (8 - k) 0)) ∧ Ext w wr) (fun i _ => 8 - (intOf i).toNat)
  case atStart => exact ⟨0, _, by omega, rfl, rfl, ((((Blk.new _ _ _).alloc _).alloc _).alloc _), ((Blk.new' (by simp) _ _).alloc _).alloc _, (Blk.new' (by simp) _ _).alloc _, Blk.new' (by simp) _ _, (((ext_alloc _ _).alloc _).alloc _).alloc _⟩
  case round =>
    obtain ⟨k, z, hk, rfl, hz, hb1, hb2, hb3, hb4, hx⟩ := hrel
    have HX := Lib.hid hx
    have HB1 := Lib.hid hb1
    have HB2 := Lib.hid hb2
    have HB3 := Lib.hid hb3
    have HB4 := Lib.hid hb4
    clear hx hb1 hb2 hb3 hb4
    by_cases hlt : k < 8
    · obtain ⟨M, hM⟩ : ∃ M, M = (List.range k).map (word b) ++ List.replicate (8 - k) 0 := ⟨_, rfl⟩
      have hMl : M.length = 8 := by rw [hM]; simp; omega
      have hMk : gI M k = 0 := by rw [hM]; unfold gI; rw [List.getD_eq_getElem?_getD, List.getElem?_append_right (by simp)]; rw [List.getElem?_replicate, if_pos (by simp; omega)]; rfl
      rw [← hM] at HB4
      have HM := Lib.hid hM
      clear hM
      go_wp2_with fail
      go_loopw [7] (fun i wq => ∃ j : Nat, j ≤ 4 ∧ i = .int .i64 (3 - (j : Int)) ∧ Blk wq w.heap.size 35 (numsA .u32 st) ∧ Blk wq (w.heap.size + 1) 27 (numsA .u8 b) ∧ Blk wq (w.heap.size + 2) 35 z ∧ Blk wq (w.heap.size + 3) 35 (numsA .u32 (M.set k (littleN ((b.drop (4 * k + (4 - j))).take j)))) ∧ Ext w wq) (fun i _ => (intOf i + 1).toNat)
      case atStart => exact ⟨0, by omega, by go_num, HB1.out, HB2.out, HB3.out, by
        have h0 : M.set k (littleN ((b.drop (4 * k + (4 - 0))).take 0)) = M := by
          have := set_same M k (by omega)
          rwa [hMk] at this
        rw [h0]; exact HB4.out, HX.out⟩
      case round =>
        obtain ⟨j, hj, rfl, hb1, hb2, hb3, hb4, hx⟩ := hrel
        clear HX HB1 HB2 HB3 HB4
        have HX := Lib.hid hx
        have HB1 := Lib.hid hb1
        have HB2 := Lib.hid hb2
        have HB3 := Lib.hid hb3
        have HB4 := Lib.hid hb4
        clear hx hb1 hb2 hb3 hb4
        by_cases hl4 : j < 4
        · have hc := HB4.out.num k (by simp; omega)
          rw [gI_set _ _ _ _ (by omega), if_pos rfl] at hc
          have hX := littleN_bound ((b.drop (4 * k + (4 - j))).take j) ((HK.out.2.drop _).take _)
          have hXl : ((b.drop (4 * k + (4 - j))).take j).length = j := by simp [HK.out.1]; omega
          have hp : (256 : Int) ^ j ≤ 16777216 := by
            rcases (show j = 0 ∨ j = 1 ∨ j = 2 ∨ j = 3 by omega) with rfl | rfl | rfl | rfl <;> decide
          rw [hXl] at hX
          have hstep : littleN ((b.drop (4 * k + (4 - (j + 1)))).take (j + 1)) = gI b (4 * k + (3 - j)) + 256 * littleN ((b.drop (4 * k + (4 - j))).take j) := by
            have h1 : 4 * k + (3 - j) < b.length := by rw [HK.out.1]; omega
            rw [show 4 * k + (4 - (j + 1)) = 4 * k + (3 - j) by omega, List.drop_eq_getElem_cons h1, List.take_succ_cons, show 4 * k + (3 - j) + 1 = 4 * k + (4 - j) by omega, gI_lt h1]
            rfl
          have hy := B8.get HK.out.2 (4 * k + (3 - j))
          have hd := HB2.out.num (4 * k + (3 - j)) (by rw [HK.out.1]; omega)
          have hor : bits .or .u32 (littleN ((b.drop (4 * k + (4 - j))).take j) * 256) (gI b (4 * k + (3 - j))) = gI b (4 * k + (3 - j)) + 256 * littleN ((b.drop (4 * k + (4 - j))).take j) := by
            have := bits_join .u32 32 (by decide) wraps_u32 8 (littleN ((b.drop (4 * k + (4 - j))).take j) * 256) (gI b (4 * k + (3 - j))) (by omega) (Int.mul_emod_left _ _) (by omega) (by omega) (by omega) (by omega)
            omega
          rw [← hstep] at hor
          generalize gI b (4 * k + (3 - j)) = Y at hd hy hor
          generalize littleN ((b.drop (4 * k + (4 - j))).take j) = X at hc hX hor HB4
          clear hstep hXl
          have hX0 : 0 ≤ X := hX.1
          have hX1 : X ≤ 16777215 := by omega
          clear hX hp
          have HOR := Lib.hid hor
          clear hor
          have hf := HB4.out.free k
          generalize hq : 4 * k + (3 - j) = q at hd
          have hq1 : 4 * (k : Int) + (3 - (j : Int)) = (q : Int) := by omega
          have hq2 : (q : Int) < 32 := by omega
          have HQ := Lib.hid hq
          clear hq
          go_wp2_with fail
          go_region
          go_wp2_with fail
          go_roundw
          case rel =>
            have h4 := HB4.out.set k (.int .u32 (bits .or .u32 (X * 256) Y))
            rw [numsA_set, HOR.out, List.set_set] at h4
            rw [HOR.out]
            exact ⟨j + 1, by omega, by go_num, (HB1.out.far (by simp; omega) _).drewN 1, (HB2.out.far (by simp) _).drewN 1, (HB3.out.far (by simp) _).drewN 1, h4.drewN 1, (HX.out.set (by simp; omega) _).drew⟩
          case measure => simp [intOf]; omega
        · go_wp2_with fail
          go_roundw
          case rel =>
            obtain rfl : j = 4 := by omega
            have h4 := HB4.out
            rw [HM.out, show 4 * k + (4 - 4) = 4 * k by omega] at h4
            have := mapRange_set (word b) 8 k hlt
            unfold word at this h4
            rw [this] at h4
            exact ⟨k + 1, z, by omega, by go_num, hz, HB1.out, HB2.out, HB3.out, h4, HX.out⟩
          case measure => simp [intOf]; omega
    · obtain rfl : k = 8 := by omega
      go_wp2_with (first
        | (refine wpl_loadN HB1.out aggU32 HS.out rfl _ rfl rfl ?_)
        | (refine wpl_storeN (Blk.new wr _ _) aggU32 HS.out rfl rfl _ _ rfl rfl rfl rfl ?_))
      have h4 := HB4.out
      rw [Nat.sub_self, List.replicate_zero, List.append_nil, ← words_eq] at h4
      have h5 : Blk _ wr.heap.size 35 (numsA .u32 st) := (Blk.new wr 35 #[Value.int IntKind.u32 0, Value.int IntKind.u32 0, Value.int IntKind.u32 0, Value.int IntKind.u32 0, Value.int IntKind.u32 0, Value.int IntKind.u32 0, Value.int IntKind.u32 0, Value.int IntKind.u32 0]).setRow (numsA .u32 st)
      have lt4 := h4.lt
      have n1 : w.heap.size ≠ wr.heap.size := by omega
      have n3 : w.heap.size + 2 ≠ wr.heap.size := by omega
      have n4 : w.heap.size + 3 ≠ wr.heap.size := by omega
      have hgs : w.heap.size + 4 ≤ wr.heap.size := by omega
      have hx0 := (HX.out.alloc (.cells #[Value.int IntKind.u32 0, Value.int IntKind.u32 0, Value.int IntKind.u32 0, Value.int IntKind.u32 0, Value.int IntKind.u32 0, Value.int IntKind.u32 0, Value.int IntKind.u32 0, Value.int IntKind.u32 0] 35)).setRow HX.out.size (numsA .u32 st)
      have hb1 := (HB1.out.alloc (.cells #[Value.int IntKind.u32 0, Value.int IntKind.u32 0, Value.int IntKind.u32 0, Value.int IntKind.u32 0, Value.int IntKind.u32 0, Value.int IntKind.u32 0, Value.int IntKind.u32 0, Value.int IntKind.u32 0] 35)).row_far n1 (numsA .u32 st)
      have hb3 := (HB3.out.alloc (.cells #[Value.int IntKind.u32 0, Value.int IntKind.u32 0, Value.int IntKind.u32 0, Value.int IntKind.u32 0, Value.int IntKind.u32 0, Value.int IntKind.u32 0, Value.int IntKind.u32 0, Value.int IntKind.u32 0] 35)).row_far n3 (numsA .u32 st)
      have hb4 := (h4.alloc (.cells #[Value.int IntKind.u32 0, Value.int IntKind.u32 0, Value.int IntKind.u32 0, Value.int IntKind.u32 0, Value.int IntKind.u32 0, Value.int IntKind.u32 0, Value.int IntKind.u32 0, Value.int IntKind.u32 0] 35)).row_far n4 (numsA .u32 st)
      clear h4 lt4 HB1 HB2 HB3 HB4 HX n1 n3 n4
      generalize wr.heap.size = gs at *
      have HW := Lib.hid (words_eq b)
      go_loopw [9] (fun i wq => ∃ r : Nat, r ≤ 12 ∧ i = .int .i64 r ∧ Blk wq w.heap.size 35 (numsA .u32 st) ∧ Blk wq (w.heap.size + 2) 35 z ∧ Blk wq (w.heap.size + 3) 35 (numsA .u32 (words b)) ∧ Blk wq gs 35 (numsA .u32 (mixOut (words b) r st)) ∧ Ext w wq) (fun i _ => 12 - (intOf i).toNat)
      case atStart => exact ⟨0, by omega, rfl, hb1, hb3, hb4, by rw [mixOut_zero]; exact h5, hx0⟩
      case round =>
        clear hx0 hb1 hb3 hb4 h5
        obtain ⟨r, hr, rfl, hb1, hb3, hb4, hb5, hx⟩ := hrel
        have HX := Lib.hid hx
        have HB1 := Lib.hid hb1
        have HB3 := Lib.hid hb3
        have HB4 := Lib.hid hb4
        have HB5 := Lib.hid hb5
        clear hx hb1 hb3 hb4 hb5
        by_cases hlr : r < 12
        · go_wp2_with fail
          have hd12 : decide ((r : Int) < 12) = true := by simp; omega
          simp only [hd12]
          go_loopw [10] (fun i wq => ∃ k : Nat, k ≤ 8 ∧ i = .int .i64 k ∧ Blk wq w.heap.size 35 (numsA .u32 st) ∧ Blk wq (w.heap.size + 2) 35 z ∧ Blk wq (w.heap.size + 3) 35 (numsA .u32 (words b)) ∧ Blk wq gs 35 (numsA .u32 (mixIn (words b) r k (mixOut (words b) r st))) ∧ Ext w wq) (fun i _ => 8 - (intOf i).toNat)
          case atStart => exact ⟨0, by omega, rfl, HB1.out, HB3.out, HB4.out, by rw [mixIn_zero]; exact HB5.out, HX.out⟩
          case round =>
            clear HX HB1 HB3 HB4 HB5
            obtain ⟨k, hk, rfl, hb1, hb3, hb4, hb5, hx⟩ := hrel
            have HX := Lib.hid hx
            have HB1 := Lib.hid hb1
            have HB3 := Lib.hid hb3
            have HB4 := Lib.hid hb4
            have HB5 := Lib.hid hb5
            clear hx hb1 hb3 hb4 hb5
            by_cases hlk : k < 8
            · have hl := (mixIn_length (words b) r k (mixOut (words b) r st)).trans ((mixOut_length (words b) r st).trans HS.out)
              have hu := mixIn_ok (words b) r k _ (mixOut_ok (words b) r st HU.out)
              have HE := Lib.hid (mixIn_succ (words b) r k (mixOut (words b) r st))
              generalize mixIn (words b) r k (mixOut (words b) r st) = s at *
              have p1 : (k + 3 * r) % 8 < 8 := Nat.mod_lt _ (by decide)
              have p2 : (k + 1) % 8 < 8 := Nat.mod_lt _ (by decide)
              have p3 : (k + 5) % 8 < 8 := Nat.mod_lt _ (by decide)
              have c0 := HB5.out.num k (by omega)
              have c1 := HB4.out.num ((k + 3 * r) % 8) (by rw [words_length]; omega)
              have c2 := HB5.out.num ((k + 1) % 8) (by omega)
              have c3 := HB5.out.num ((k + 5) % 8) (by omega)
              have hf := HB5.out.free k
              have u0 := hu.get k
              have u2 := hu.get ((k + 1) % 8)
              have u3 := hu.get ((k + 5) % 8)
              have q1 : ((k : Int) + 3 * r) % 8 = (((k + 3 * r) % 8 : Nat) : Int) := by omega
              have q2 : ((k : Int) + 1) % 8 = (((k + 1) % 8 : Nat) : Int) := by omega
              have q3 : ((k : Int) + 5) % 8 = (((k + 5) % 8 : Nat) : Int) := by omega
              generalize hj1 : (k + 3 * r) % 8 = j1 at *
              generalize hj2 : (k + 1) % 8 = j2 at *
              generalize hj3 : (k + 5) % 8 = j3 at *
              have J1 := Lib.hid hj1
              have J2 := Lib.hid hj2
              have J3 := Lib.hid hj3
              clear hj1 hj2 hj3 hu
              go_wp2_with fail
              go_quiet (fail)
              replace c0 := (show (wr.drewN nq).cell? _ = _ from c0)
              replace c2 := (show (wr.drewN nq).cell? _ = _ from c2)
              replace c3 := (show (wr.drewN nq).cell? _ = _ from c3)
              replace hf := (show (wr.drewN nq).frozen? _ = _ from hf)
              replace HX := Lib.hid (HX.out.drewN nq)
              replace HB1 := Lib.hid (HB1.out.drewN nq)
              replace HB3 := Lib.hid (HB3.out.drewN nq)
              replace HB4 := Lib.hid (HB4.out.drewN nq)
              replace HB5 := Lib.hid (HB5.out.drewN nq)
              clear c1
              generalize wr.drewN nq = wx at *
              go_wp2_with fail
              go_quiet ((go_at_call 131; exact Calls.quiet_of ((l01Turn_7 _ _).mono fun e w' ⟨he, hw⟩ => ⟨he, 0, hw.symm⟩)))
              go_wp2_with (go_at_call 131; refine (l01Turn_13 _ _).mono ?_; rintro e w' ⟨rfl, rfl⟩)
              go_roundw
              case rel =>
                have h5 := (HB5.out.drewN nq).set k (.int .u32 ((bits .xor .u32 (turn7 ((gI s k + gI (words b) j1 + 2654435769 * (8 * (r : Int) + (k : Int) + 1)) % 4294967296)) (gI s j2) + turn13 (gI s j3)) % 4294967296))
                rw [numsA_set] at h5
                have he := HE.out
                unfold mixStep at he
                rw [J1.out, J2.out, J3.out] at he
                rw [← he] at h5
                exact ⟨k + 1, by omega, by go_num, (HB1.out.drewN _).far (by simp; omega) _, (HB3.out.drewN _).far (by simp; omega) _, (HB4.out.drewN _).far (by simp; omega) _, h5, (HX.out.drewN _).set (by simp; omega) _⟩
              case measure => simp [intOf]; omega
            · obtain rfl : k = 8 := by omega
              go_wp2_with fail
              go_roundw
              case rel => exact ⟨r + 1, by omega, by go_num, HB1.out, HB3.out, HB4.out, by rw [mixOut_succ]; exact HB5.out, HX.out⟩
              case measure => simp [intOf]; omega
        · obtain rfl : r = 12 := by omega
          go_wp2_with fail
          have HL := Lib.hid ((mixOut_length (words b) 12 st).trans HS.out)
          have HE := Lib.hid (show mixL st b = xorIn st 8 (mixOut (words b) 12 st) by rw [mixL])
          generalize mixOut (words b) 12 st = s at *
          go_loopw [13] (fun i wq => ∃ k : Nat, k ≤ 8 ∧ i = .int .i64 k ∧ Blk wq w.heap.size 35 (numsA .u32 st) ∧ Blk wq (w.heap.size + 2) 35 z ∧ Blk wq gs 35 (numsA .u32 (xorIn st k s)) ∧ Ext w wq) (fun i _ => 8 - (intOf i).toNat)
          case atStart => exact ⟨0, by omega, rfl, HB1.out, HB3.out, by rw [xorIn_zero]; exact HB5.out, HX.out⟩
          case round =>
            clear HX HB1 HB3 HB4 HB5
            obtain ⟨k, hk, rfl, hb1, hb3, hb5, hx⟩ := hrel
            have HX := Lib.hid hx
            have HB1 := Lib.hid hb1
            have HB3 := Lib.hid hb3
            have HB5 := Lib.hid hb5
            clear hx hb1 hb3 hb5
            have hl := (xorIn_length st k s).trans HL.out
            by_cases hlk : k < 8
            · have c0 := HB5.out.num k (by omega)
              have c1 := HB1.out.num k (by rw [HS.out]; omega)
              have hf := HB5.out.free k
              have HE2 := Lib.hid (xorIn_succ st k s)
              generalize xorIn st k s = s1 at *
              go_wp2_with fail
              go_region
              go_wp2_with fail
              go_roundw
              case rel =>
                have h5 := HB5.out.set k (.int .u32 (bits .xor .u32 (gI s1 k) (gI st k)))
                rw [numsA_set, ← HE2.out] at h5
                exact ⟨k + 1, by omega, by go_num, (HB1.out.far (by simp; omega) _).drewN 1, (HB3.out.far (by simp; omega) _).drewN 1, h5.drewN 1, (HX.out.set (by simp; omega) _).drew⟩
              case measure => simp [intOf]; omega
            · obtain rfl : k = 8 := by omega
              rw [← HE.out] at HB5 hl
              go_wp2_with (first
                | (refine wpl_loadN HB5.out aggU32 hl rfl _ rfl rfl ?_)
                | (refine wpl_storeN HB3.out aggU32 hl hz rfl _ _ rfl rfl rfl rfl ?_))
              refine bodyPost_ret (results_blk rfl _ rfl aggU32 hl (HB3.out.setRow _)) rfl ?_
              exact ⟨rfl, HX.out.setRow (by omega) _⟩

end Go.Proofs.Ytdjclllnmclocaa
/- The statements' key of bytes: the end. No condition. -/
namespace Go.Proofs.Ytdjclllnmclocaa
open Go.RowKit
set_option linter.unusedVariables false
set_option linter.unusedSimpArgs false

theorem len8 {s : List Int} (h : s.length = 8) : ∃ a0 a1 a2 a3 a4 a5 a6 a7, s = [a0, a1, a2, a3, a4, a5, a6, a7] := by
  match s, h with
  | [a0, a1, a2, a3, a4, a5, a6, a7], _ => exact ⟨a0, a1, a2, a3, a4, a5, a6, a7, rfl⟩

/-- eight words written into a block -/
def put8 (w : World) (g : Nat) (c0 c1 c2 c3 c4 c5 c6 c7 : Int) : World := ((((((((w.setCell ⟨g, 0, none⟩ (.int .u32 c0)).setCell ⟨g, 1, none⟩ (.int .u32 c1)).setCell ⟨g, 2, none⟩ (.int .u32 c2)).setCell ⟨g, 3, none⟩ (.int .u32 c3)).setCell ⟨g, 4, none⟩ (.int .u32 c4)).setCell ⟨g, 5, none⟩ (.int .u32 c5)).setCell ⟨g, 6, none⟩ (.int .u32 c6)).setCell ⟨g, 7, none⟩ (.int .u32 c7))
section
variable {w : World} {g : Nat} {c0 c1 c2 c3 c4 c5 c6 c7 : Int}
theorem put8_blk {t : TypeId} {a0 a1 a2 a3 a4 a5 a6 a7 : Int} (h : Blk w g t (numsA .u32 [a0, a1, a2, a3, a4, a5, a6, a7])) : Blk (put8 w g c0 c1 c2 c3 c4 c5 c6 c7) g t (numsA .u32 [c0, c1, c2, c3, c4, c5, c6, c7]) := by
  have := ((((((((h.set 0 (.int .u32 c0)).set 1 (.int .u32 c1)).set 2 (.int .u32 c2)).set 3 (.int .u32 c3)).set 4 (.int .u32 c4)).set 5 (.int .u32 c5)).set 6 (.int .u32 c6)).set 7 (.int .u32 c7))
  simp only [numsA_set, List.set_cons_zero, List.set_cons_succ] at this
  exact this
theorem put8_far {t g' : Nat} {cs : Array Value} (h : Blk w g' t cs) (hg : g' ≠ g) : Blk (put8 w g c0 c1 c2 c3 c4 c5 c6 c7) g' t cs := ((((((((h.far hg _).far hg _).far hg _).far hg _).far hg _).far hg _).far hg _).far hg _)
theorem put8_own {α : Type} {T : Ty α} {e : TypeId} {base : Nat} {v : Value} {xs : List α} (h : Own T e w base v xs) (hg : g < base) : Own T e (put8 w g c0 c1 c2 c3 c4 c5 c6 c7) base v xs := ((((((((h.set_below hg _).set_below hg _).set_below hg _).set_below hg _).set_below hg _).set_below hg _).set_below hg _).set_below hg _)
theorem put8_ext {a : World} (h : Ext a w) (hg : a.heap.size ≤ g) : Ext a (put8 w g c0 c1 c2 c3 c4 c5 c6 c7) := ((((((((h.set hg _).set hg _).set hg _).set hg _).set hg _).set hg _).set hg _).set hg _)
end

set_option maxHeartbeats 4000000 in
set_option maxRecDepth 100000 in
theorem l01End_any (st : List Int) (hs8 : st.length = 8) (hu : U32 st) (v : Value) (xs : List Int) (w : World) (S : Nat → Prop) (h : RdL tByte w S v xs) (hl : xs.length ≤ 70368744177664) (len : Int) (h0 : 0 ≤ len) (h1 : len ≤ 9223372036854775807) :
    Calls Try.prog 106 #[.agg (numsA .u32 st), v, .int .i64 len] w fun e w' => e = .returned (.agg (numsA .u8 (endL st xs len))) ∧ Ext w w' := by
  have H := Lib.hid h
  obtain ⟨A, cap, rfl, hcap, hlen, hz1, hz2⟩ := h
  clear hz1 hz2
  have HU := Lib.hid hu
  have HS8 := Lib.hid hs8
  clear hu hs8
  go_enter Try.func106, Try.ntmps106
  go_wp2_with fail
  refine (l01Padded_any _ xs _ S (H.out.ext (by decide) ((ext_alloc w _).alloc _)) hl len h0 h1).mono ?_
  rintro e w1 ⟨v1, rfl, ho, hx⟩
  have hb0 := hx.heap (show _ from ((Blk.new w _ _).alloc _ : Blk ((w.alloc (.cells (numsA .u32 st) 35)).alloc _) w.heap.size 35 (numsA .u32 st)))
  have hb1 := hx.heap (show _ from (Blk.new' (g := w.heap.size + 1) (by simp) _ _ : Blk ((w.alloc (.cells (numsA .u32 st) 35)).alloc _) (w.heap.size + 1) 28 _))
  have hxw := ((ext_alloc w (.cells (numsA .u32 st) 35)).alloc _).trans hx
  have ho' : Own tByte 5 w1 (w.heap.size + 2) v1 (xs ++ padL xs.length len) := ho.le (by simp)
  obtain ⟨B, bn, bc, rfl⟩ := ho'.shape3
  have hbn := ho'.len
  rw [List.length_append, padL_length] at hbn
  have hm0 := padded_mod xs.length
  have hpz : padZ xs.length ≤ 31 := by have := padZ_eq xs.length; omega
  have HE := Lib.hid (show endL st xs len = keyL (mixN (xs ++ padL xs.length len) st ((xs.length + padZ xs.length + 9) / 32)) by rw [endL])
  obtain ⟨m, hm⟩ : ∃ m, xs.length + padZ xs.length + 9 = 32 * m := ⟨(xs.length + padZ xs.length + 9) / 32, by omega⟩
  rw [show (xs.length + padZ xs.length + 9) / 32 = m by omega] at HE
  have hbm : bn = 32 * m := by omega
  have hmm : m ≤ 2199023255553 := by omega
  have hal : (xs ++ padL xs.length len).length = 32 * m := by rw [List.length_append, padL_length]; omega
  generalize xs ++ padL xs.length len = al at *
  subst hbm
  have HO := Lib.hid ho'
  have HXW := Lib.hid hxw
  have HB0 := Lib.hid (show Blk w1 w.heap.size 35 (numsA .u32 st) from hb0)
  have HB1 := Lib.hid (show Blk w1 (w.heap.size + 1) 28 _ from hb1)
  have HAL := Lib.hid hal
  clear ho ho' hx hxw hb0 hb1 hbn hm0 hm hpz hal H
  go_wp2_with fail
  go_loopw [8] (fun q wr => ∃ (i : Nat) (z : Array Value), i ≤ m ∧ z.size = 32 ∧ q = .int .i64 ((32 * i : Nat) : Int) ∧ Blk wr w.heap.size 35 (numsA .u32 (mixN al st i)) ∧ Blk wr (w.heap.size + 1) 28 z ∧ Own tByte 5 wr (w.heap.size + 2) (.slice B (32 * m) bc) al ∧ Ext w wr) (fun q _ => 32 * m + 32 - (intOf q).toNat)
  case atStart => exact ⟨0, _, by omega, rfl, rfl, by rw [mixN_zero]; exact HB0.out, HB1.out, HO.out, HXW.out⟩
  case round =>
    clear HO HXW HB0 HB1
    obtain ⟨i, z, him, hz, rfl, hb0, hb1, ho, hx⟩ := hrel
    have HO := Lib.hid ho
    have HX := Lib.hid hx
    have HB0 := Lib.hid hb0
    have HB1 := Lib.hid hb1
    clear ho hx hb0 hb1
    by_cases hlt : i < m
    · have hs := mixN_length al st i HS8.out
      have hu := mixN_ok al st i HU.out
      have HN := Lib.hid (mixN_succ al st i)
      generalize mixN al st i = s at *
      obtain ⟨a0, a1, a2, a3, a4, a5, a6, a7, rfl⟩ := len8 hs
      have hblk : ∀ W, Ext wr W → Calls Try.prog 124 #[.slice B (32 * m) bc, .int .i64 (32 * (i : Int))] W fun e w' => e = .returned (.agg (numsA .u8 (blockL al i))) ∧ Ext W w' := by
        intro W E
        have := l01Block_any (.slice B (32 * m) bc) al W _ ((HO.out.ext E).rd) i (by rw [HAL.out]; omega)
        rw [show ((32 * i : Nat) : Int) = 32 * (i : Int) by omega] at this
        exact this
      have hK := blockL_ok al i HO.out.2.2 (by rw [HAL.out]; omega)
      obtain ⟨c0, c1, c2, c3, c4, c5, c6, c7, hc⟩ := len8 (mixL_length [a0, a1, a2, a3, a4, a5, a6, a7] (blockL al i) rfl)
      have hmix : ∀ W, Calls Try.prog 123 #[.agg #[Value.int .u32 a0, Value.int .u32 a1, Value.int .u32 a2, Value.int .u32 a3, Value.int .u32 a4, Value.int .u32 a5, Value.int .u32 a6, Value.int .u32 a7], .agg (numsA .u8 (blockL al i))] W fun e w' => e = .returned (.agg #[Value.int .u32 c0, Value.int .u32 c1, Value.int .u32 c2, Value.int .u32 c3, Value.int .u32 c4, Value.int .u32 c5, Value.int .u32 c6, Value.int .u32 c7]) ∧ Ext W w' := by
        intro W
        have := l01Mix_any [a0, a1, a2, a3, a4, a5, a6, a7] (blockL al i) rfl hu hK W
        rw [hc] at this
        exact this
      rw [hc] at HN
      generalize blockL al i = blk at *
      have HBLK := Lib.hid hblk
      have HMIX := Lib.hid hmix
      have HB := HB0
      clear hblk hmix hs hu hK hc
      have k0 : ∀ W, Ext wr W → W.cell? ⟨w.heap.size, 0, none⟩ = some (.int .u32 a0) := fun W h => h.cell (HB.out.at_ 0 rfl)
      have k1 : ∀ W, Ext wr W → W.cell? ⟨w.heap.size, 1, none⟩ = some (.int .u32 a1) := fun W h => h.cell (HB.out.at_ 1 rfl)
      have k2 : ∀ W, Ext wr W → W.cell? ⟨w.heap.size, 2, none⟩ = some (.int .u32 a2) := fun W h => h.cell (HB.out.at_ 2 rfl)
      have k3 : ∀ W, Ext wr W → W.cell? ⟨w.heap.size, 3, none⟩ = some (.int .u32 a3) := fun W h => h.cell (HB.out.at_ 3 rfl)
      have k4 : ∀ W, Ext wr W → W.cell? ⟨w.heap.size, 4, none⟩ = some (.int .u32 a4) := fun W h => h.cell (HB.out.at_ 4 rfl)
      have k5 : ∀ W, Ext wr W → W.cell? ⟨w.heap.size, 5, none⟩ = some (.int .u32 a5) := fun W h => h.cell (HB.out.at_ 5 rfl)
      have k6 : ∀ W, Ext wr W → W.cell? ⟨w.heap.size, 6, none⟩ = some (.int .u32 a6) := fun W h => h.cell (HB.out.at_ 6 rfl)
      have k7 : ∀ W, Ext wr W → W.cell? ⟨w.heap.size, 7, none⟩ = some (.int .u32 a7) := fun W h => h.cell (HB.out.at_ 7 rfl)
      have f0 : ∀ W, Ext wr W → ∀ j, W.frozen? ⟨w.heap.size, j, none⟩ = false := fun W h j => (HB.out.ext h).free j
      have r0 := Ext.refl wr
      have r1 := (Ext.refl wr).drew
      go_wp2_with fail
      go_region_law (first
        | (go_simp; go_at_call 124; refine (HBLK.out _ (by assumption)).mono ?_; rintro e p1 ⟨rfl, hx1⟩; have y1 := Ext.trans (by assumption : Ext wr _) hx1)
        | (go_simp; go_at_call 123; refine (HMIX.out _).mono ?_; rintro e p2 ⟨rfl, hx2⟩; have y2 := y1.trans hx2))
      all_goals
        go_wp2_with fail
        go_roundw
        case rel => exact ⟨i + 1, z, by omega, hz, congrArg (Value.int .i64) (by omega), by rw [HN.out]; exact put8_blk (HB.out.ext y2), put8_far (HB1.out.ext y2) (by omega), put8_own (HO.out.ext y2) (by omega), put8_ext (HX.out.trans y2) (Nat.le_refl _)⟩
        case measure => simp [intOf]; omega
    · obtain rfl : i = m := by omega
      have hs := mixN_length al st i HS8.out
      have hu := mixN_ok al st i HU.out
      have hlt0 := HB1.out.lt
      generalize mixN al st i = s at *
      have HSL := Lib.hid hs
      clear hs
      go_wp2_with (refine wpl_storeN (k := .u8) (xs := List.replicate 32 0) (Blk.new wr _ _) aggKey (by simp) rfl rfl _ _ rfl rfl rfl rfl ?_)
      have hx0 := (HX.out.alloc (.cells #[Value.int .u8 0, Value.int .u8 0, Value.int .u8 0, Value.int .u8 0, Value.int .u8 0, Value.int .u8 0, Value.int .u8 0, Value.int .u8 0, Value.int .u8 0, Value.int .u8 0, Value.int .u8 0, Value.int .u8 0, Value.int .u8 0, Value.int .u8 0, Value.int .u8 0, Value.int .u8 0, Value.int .u8 0, Value.int .u8 0, Value.int .u8 0, Value.int .u8 0, Value.int .u8 0, Value.int .u8 0, Value.int .u8 0, Value.int .u8 0, Value.int .u8 0, Value.int .u8 0, Value.int .u8 0, Value.int .u8 0, Value.int .u8 0, Value.int .u8 0, Value.int .u8 0, Value.int .u8 0] 28)).setRow HX.out.size (numsA .u8 (List.replicate 32 0))
      have hb0 := (HB0.out.alloc (.cells #[Value.int .u8 0, Value.int .u8 0, Value.int .u8 0, Value.int .u8 0, Value.int .u8 0, Value.int .u8 0, Value.int .u8 0, Value.int .u8 0, Value.int .u8 0, Value.int .u8 0, Value.int .u8 0, Value.int .u8 0, Value.int .u8 0, Value.int .u8 0, Value.int .u8 0, Value.int .u8 0, Value.int .u8 0, Value.int .u8 0, Value.int .u8 0, Value.int .u8 0, Value.int .u8 0, Value.int .u8 0, Value.int .u8 0, Value.int .u8 0, Value.int .u8 0, Value.int .u8 0, Value.int .u8 0, Value.int .u8 0, Value.int .u8 0, Value.int .u8 0, Value.int .u8 0, Value.int .u8 0] 28)).row_far (by omega : w.heap.size ≠ wr.heap.size) (numsA .u8 (List.replicate 32 0))
      have hb1 := (HB1.out.alloc (.cells #[Value.int .u8 0, Value.int .u8 0, Value.int .u8 0, Value.int .u8 0, Value.int .u8 0, Value.int .u8 0, Value.int .u8 0, Value.int .u8 0, Value.int .u8 0, Value.int .u8 0, Value.int .u8 0, Value.int .u8 0, Value.int .u8 0, Value.int .u8 0, Value.int .u8 0, Value.int .u8 0, Value.int .u8 0, Value.int .u8 0, Value.int .u8 0, Value.int .u8 0, Value.int .u8 0, Value.int .u8 0, Value.int .u8 0, Value.int .u8 0, Value.int .u8 0, Value.int .u8 0, Value.int .u8 0, Value.int .u8 0, Value.int .u8 0, Value.int .u8 0, Value.int .u8 0, Value.int .u8 0] 28)).row_far (by omega : w.heap.size + 1 ≠ wr.heap.size) (numsA .u8 (List.replicate 32 0))
      have hb2 := (Blk.new wr 28 #[Value.int .u8 0, Value.int .u8 0, Value.int .u8 0, Value.int .u8 0, Value.int .u8 0, Value.int .u8 0, Value.int .u8 0, Value.int .u8 0, Value.int .u8 0, Value.int .u8 0, Value.int .u8 0, Value.int .u8 0, Value.int .u8 0, Value.int .u8 0, Value.int .u8 0, Value.int .u8 0, Value.int .u8 0, Value.int .u8 0, Value.int .u8 0, Value.int .u8 0, Value.int .u8 0, Value.int .u8 0, Value.int .u8 0, Value.int .u8 0, Value.int .u8 0, Value.int .u8 0, Value.int .u8 0, Value.int .u8 0, Value.int .u8 0, Value.int .u8 0, Value.int .u8 0, Value.int .u8 0]).setRow (numsA .u8 (List.replicate 32 0))
      have hgs : w.heap.size + 2 ≤ wr.heap.size := by omega
      generalize wr.heap.size = gs at *
      have hkl := keyL_length s
      have HKL := Lib.hid hkl
      go_loopw [10] (fun q wq => ∃ k : Nat, k ≤ 32 ∧ q = .int .i64 k ∧ Blk wq w.heap.size 35 (numsA .u32 s) ∧ Blk wq (w.heap.size + 1) 28 z ∧ Blk wq gs 28 (numsA .u8 ((keyL s).take k ++ List.replicate (32 - k) 0)) ∧ Ext w wq) (fun q _ => 32 - (intOf q).toNat)
      case atStart => exact ⟨0, by omega, rfl, hb0, hb1, by rw [List.take_zero, List.nil_append, Nat.sub_zero]; exact hb2, hx0⟩
      case round =>
        clear hb0 hb1 hb2 hx0 HO HX HB0 HB1 hlt0
        obtain ⟨k, hk, rfl, hb0, hb1, hb2, hx⟩ := hrel
        have HX := Lib.hid hx
        have HB0 := Lib.hid hb0
        have HB1 := Lib.hid hb1
        have HB2 := Lib.hid hb2
        clear hx hb0 hb1 hb2
        by_cases hk32 : k < 32
        · have c0 := HB0.out.num (k / 4) (by rw [HSL.out]; omega)
          have u0 := hu.get (k / 4)
          have hc := HB2.out.num k (by simp [keyL_length]; omega)
          have hf := HB2.out.free k
          have q1 : (k : Int) / 4 = ((k / 4 : Nat) : Int) := by omega
          have q2 : (k : Int) % 4 = ((k % 4 : Nat) : Int) := by omega
          have p1 : k / 4 < 8 := by omega
          have p2 : k % 4 < 4 := by omega
          generalize hj1 : k / 4 = j1 at *
          generalize hj2 : k % 4 = j2 at *
          have hn := fill_step (keyL s) 32 k hk32 HKL.out
          rw [keyL_at s k hk32, hj1, hj2] at hn
          have HN := Lib.hid hn
          have J1 := Lib.hid hj1
          have J2 := Lib.hid hj2
          clear hn hj1 hj2 hkl
          go_wp2_with fail
          go_roundw
          case rel =>
            have h2 := HB2.out.set k (.int .u8 (gI s j1 / 2 ^ (8 * j2) % 256))
            rw [numsA_set, HN.out] at h2
            exact ⟨k + 1, by omega, by go_num, HB0.out.far (by simp; omega) _, HB1.out.far (by simp; omega) _, h2, HX.out.set (by simp; omega) _⟩
          case measure => simp [intOf]; omega
        · obtain rfl : k = 32 := by omega
          have hb := HB2.out
          rw [Nat.sub_self, List.replicate_zero, List.append_nil, List.take_of_length_le (by omega), ← HE.out] at hb
          have hl32 : (endL st xs len).length = 32 := by rw [HE.out]; exact HKL.out
          have HB3 := Lib.hid hb
          clear hb
          go_wp2_with (first
            | (refine wpl_loadN HB3.out aggKey hl32 rfl _ rfl rfl ?_)
            | (refine wpl_storeN HB1.out aggKey hl32 hz rfl _ _ rfl rfl rfl rfl ?_))
          refine bodyPost_ret (results_blk rfl _ rfl aggKey hl32 (HB1.out.setRow _)) rfl ?_
          exact ⟨rfl, HX.out.setRow (by omega) _⟩

end Go.Proofs.Ytdjclllnmclocaa
/- The statements' key of bytes. No condition. -/
namespace Go.Proofs.Ytdjclllnmclocaa
open Go.RowKit
set_option linter.unusedVariables false
set_option linter.unusedSimpArgs false

set_option maxHeartbeats 1000000 in
set_option maxRecDepth 100000 in
theorem l01Hash_any (tag : Int) (ht : 0 ≤ tag ∧ tag ≤ 255) (v : Value) (xs : List Int) (w : World) (S : Nat → Prop) (h : RdL tByte w S v xs) (hl : xs.length ≤ 70368744177664) :
    Calls Try.prog 90 #[.int .u8 tag, v] w fun e w' => e = .returned (.agg (numsA .u8 (hashL tag xs))) ∧ Ext w w' := by
  have H := Lib.hid h
  obtain ⟨A, cap, rfl, hcap, hlen, hz1, hz2⟩ := h
  clear hz1 hz2
  have hk := (hashL_ok tag xs).1
  have he : hashL tag xs = endL (startL tag) xs xs.length := by rw [hashL]
  rw [he] at hk ⊢
  clear he
  go_enter Try.func90, Try.ntmps90
  go_wp2_with fail
  refine (l01Start_any tag ht _).mono ?_
  rintro e w1 ⟨rfl, hx1⟩
  have HX1 := Lib.hid hx1
  clear hx1
  go_wp2_with fail
  refine (l01End_any (startL tag) (startL_length tag) (startL_ok tag ht) _ xs w1 S (H.out.ext (by decide) ((ext_alloc w _).trans HX1.out)) hl xs.length (by omega) (by omega)).mono ?_
  rintro e w2 ⟨rfl, hx2⟩
  have HB := Lib.hid (((Blk.new w 28 _).ext HX1.out).ext hx2)
  have HX := Lib.hid (((ext_alloc w _).trans HX1.out).trans hx2)
  clear hx2 HX1
  go_wp2_with (refine wpl_storeN HB.out aggKey hk rfl rfl _ _ rfl rfl rfl rfl ?_)
  refine bodyPost_ret (results_blk rfl _ rfl aggKey hk (HB.out.setRow _)) rfl ?_
  exact ⟨rfl, HX.out.setRow (Nat.le_refl _) _⟩

end Go.Proofs.Ytdjclllnmclocaa
/- Functions that are one key of bytes. No condition. -/
namespace Go.Proofs.Ytdjclllnmclocaa
open Go.RowKit
set_option linter.unusedVariables false
set_option linter.unusedSimpArgs false

theorem rd_none (w : World) (S : Nat → Prop) : RdL tByte w S (.slice none 0 0) [] := ⟨none, 0, rfl, Nat.le_refl _, by simp, Rd.nil _ _ _ _, by simp⟩
theorem Own.empty' {α : Type} (T : Ty α) {g : Nat} {w : World} (hg : g = w.heap.size) (e base : Nat) (hb : base ≤ w.heap.size) : Own T e (w.alloc (.cells #[] e)) base (.slice (some ⟨g, 0, none⟩) 0 0) ([] : List α) := by
  subst hg
  exact Own.empty T w e base hb
/-- the key of the empty map -/
def emptyL : List Int := hashL 5 []
theorem emptyL_ok : K32 emptyL := hashL_ok _ _
/-- functions whose whole result is one key -/
theorem ret_key {fn : Func} {c : Tmp} {t g : Nat} {xs : List Int} {w : World} {cur : Array Value} {P : Program} (hr : fn.results = #[.cell c t]) (tmps : Array Value) (hp : tmps.getD c undef = .pointer (some ⟨g, 0, none⟩)) (ht : Agg P t 32) (hn : xs.length = 32) (hb : Blk w g t cur) :
    (results fn tmps).run P (w.setRow g (numsA .u8 xs)) = .ok (.agg (numsA .u8 xs)) (w.setRow g (numsA .u8 xs)) := results_blk hr tmps hp ht hn (hb.setRow _)
end Go.Proofs.Ytdjclllnmclocaa
/- Regions that draw their order and end in a few operations L that wait for all others: behind these the region's condition is not asked. No condition. -/
namespace Go.Proofs.Ytdjclllnmclocaa
open Go.RowKit
set_option linter.unusedVariables false
set_option linter.unusedSimpArgs false

section
variable {P : Program} {ops : Array Oper} {Q : Exit → Act → World → Prop} {md : Region.Mode} {S : World → Prop} {f : Nat} {L : List Nat}
/-- j waits for i, directly or by others, so many steps -/
def needB (md : Region.Mode) (ops : Array Oper) : Nat → Nat → Nat → Bool
  | 0, _, _ => false
  | k + 1, i, j => match ops[j]? with
    | none => false
    | some o => o.after.toList.any fun e => Region.binds md e && (e.on == i || needB md ops k i e.on)
/-- whatever has come up, all that it waits for has come up -/
def closedB (md : Region.Mode) (ops : Array Oper) (l : Array Bool) : Bool :=
  (List.range ops.size).all fun j => match ops[j]? with
    | none => true
    | some o => !(l.getD j false) || o.after.toList.all fun e => !(Region.binds md e) || l.getD e.on false
theorem closed_dep {l : Array Bool} (h : closedB md ops l = true) {j : Nat} {o : Oper} (ho : ops[j]? = some o) (hj : l.getD j false = true) : ∀ e ∈ o.after, Region.binds md e = true → l.getD e.on false = true := by
  intro e he hb
  have hlt : j < ops.size := (Array.getElem?_eq_some_iff.1 ho).1
  have h1 := List.all_eq_true.1 h j (List.mem_range.2 hlt)
  rw [ho] at h1
  simp only [hj, Bool.not_true, Bool.false_or, List.all_eq_true] at h1
  have h2 := h1 e (Array.mem_toList_iff.2 he)
  rw [hb] at h2
  simpa using h2
theorem need_listed {l : Array Bool} (h : closedB md ops l = true) : ∀ (k i j : Nat) (o : Oper), ops[j]? = some o → (∀ e ∈ o.after, Region.binds md e = true → l.getD e.on false = true) → needB md ops k i j = true → l.getD i false = true
  | 0, _, _, _, _, _, hn => by cases hn
  | k + 1, i, j, o, ho, hd, hn => by
    rw [needB, ho] at hn
    obtain ⟨e, he0, hbe⟩ := List.any_eq_true.1 hn
    have he := Array.mem_toList_iff.1 he0
    rw [Bool.and_eq_true, Bool.or_eq_true] at hbe
    have hl := hd e he hbe.1
    rcases hbe.2 with h1 | h1
    · rw [beq_iff_eq] at h1
      rw [← h1]
      exact hl
    · cases h3 : ops[e.on]? with
      | none =>
        cases k with
        | zero => cases h1
        | succ k => rw [needB, h3] at h1; cases h1
      | some o' => exact need_listed h k i e.on o' h3 (closed_dep h h3 hl) h1
theorem closed_set {l : Array Bool} (h : closedB md ops l = true) {j : Nat} (hj : j ∈ Region.ready md ops l) : closedB md ops (l.setIfInBounds j true) = true := by
  refine List.all_eq_true.2 fun q hq => ?_
  cases ho : ops[q]? with
  | none => rfl
  | some o =>
    simp only [Bool.or_eq_true, Bool.not_eq_true', List.all_eq_true]
    by_cases e : q = j
    · subst e
      obtain ⟨_, o', ho', hall⟩ := mem_ready.1 hj
      rw [ho] at ho'
      injection ho' with ho'
      subst ho'
      refine .inr fun e he0 => ?_
      have he := Array.mem_toList_iff.1 he0
      cases hb : Region.binds md e
      · exact .inl rfl
      · exact .inr (getD_set_true (hall e he hb))
    · cases hl : (l.setIfInBounds j true).getD q false with
      | false => exact .inl rfl
      | true =>
        rw [getD_set_ne false (Ne.symm e)] at hl
        refine .inr fun e he0 => ?_
        have he := Array.mem_toList_iff.1 he0
        cases hb : Region.binds md e
        · exact .inl rfl
        · exact .inr (getD_set_true (closed_dep h ho hl e he hb))
theorem need_not_ready {l : Array Bool} (h : closedB md ops l = true) {k i : Nat} (hn : needB md ops k i f = true) (hi : i ∈ Region.ready md ops l) : ¬ f ∈ Region.ready md ops l := fun hf => by
  obtain ⟨_, o, ho, hall⟩ := mem_ready.1 hf
  have h1 := need_listed h k i f o ho hall hn
  have h0 := (mem_ready.1 hi).1
  rcases Nat.lt_or_ge i l.size with h' | h'
  · simp [h'] at h0 h1; rw [h0] at h1; cases h1
  · simp [Array.getElem?_eq_none h'] at h1
/-- behind every operation but those of L, the last ones, the condition holds -/
def wpF (P : Program) (md : Region.Mode) (ops : Array Oper) (Q : Exit → Act → World → Prop) (S : World → Prop) (L : List Nat) : Nat → Array Bool → Act → World → Prop
  | 0, l, a, w => Region.ready md ops l = [] ∧ Q .normal a w
  | n + 1, l, a, w => (Region.ready md ops l = [] → Q .normal a w) ∧ ∀ i ∈ Region.ready md ops l, wpOp P ops Q i (fun a' w' => (i ∉ L → S w → S w') ∧ wpF P md ops Q S L n (l.setIfInBounds i true) a' w') a w
theorem wpF_any : ∀ (n : Nat) (l : Array Bool) (a : Act) (w : World), wpF P md ops Q S L n l a w → wpAny P md ops Q n l a w
  | 0, _, _, _, h => h
  | n + 1, l, a, w, h => ⟨h.1, fun i hi => wpOp_mono (fun a' w' k => wpF_any n _ a' w' k.2) (h.2 i hi)⟩
theorem not_on {l : Array Bool} {i j : Nat} {oj : Oper} (hr : i ∈ Region.ready md ops l) (hall : ∀ e ∈ oj.after, Region.binds md e = true → l.getD e.on false = true) : ∀ e ∈ oj.after, Region.binds md e = true → e.on ≠ i := fun e he hb heq => by
  have h1 := hall e he hb
  have h0 := (mem_ready.1 hr).1
  rw [heq] at h1
  rcases Nat.lt_or_ge i l.size with h' | h'
  · simp [h'] at h0 h1; rw [h0] at h1; cases h1
  · simp [Array.getElem?_eq_none h'] at h1
theorem wpF_first {i k : Nat} {oi : Oper} {v : Value} (hi : ops[i]? = some oi) (hsel : ∀ (j : Nat) (o : Oper) cs b, ops[j]? = some o → o.op ≠ .select cs b) (hQ : ∀ c a w, Q (.panic c) (a.put oi.dst v) w → Q (.panic c) a w) (hif : ∀ f ∈ L, needB md ops k i f = true) :
    ∀ (n : Nat) (l : Array Bool) (a : Act) (w : World), closedB md ops l = true → (∀ j oj, ops[j]? = some oj → j ≠ i → l.getD j true = false → (∀ e ∈ oj.after, Region.binds md e = true → e.on ≠ i) → oi.apart ops oj = true) → i ∈ Region.ready md ops l → YieldsIf P ops S oi v a → S w →
      wpF P md ops Q S L n (l.setIfInBounds i true) (a.put oi.dst v) w → wpF P md ops Q S L (n + 1) l a w := by
  intro n
  induction n with
  | zero =>
    intro l a w hcl _ hr hy hS H
    refine ⟨fun h => (by rw [h] at hr; cases hr), fun j hj => ?_⟩
    by_cases e : j = i
    · subst e; exact hy.wpOp hi hS ⟨fun _ h => h, H⟩
    · have := ready_mono hj e
      rw [H.1] at this
      cases this
  | succ n ih =>
    intro l a w hcl hfree hr hy hS H
    refine ⟨fun h => (by rw [h] at hr; cases hr), fun j hj => ?_⟩
    by_cases e : j = i
    · subst e; exact hy.wpOp hi hS ⟨fun _ h => h, H⟩
    · have hjf : j ∉ L := fun h => need_not_ready hcl (hif j h) hr hj
      have h1 := H.2 j (ready_mono hj e)
      obtain ⟨hjun, oj, hoj, hall⟩ := mem_ready.1 hj
      have hnot := not_on (i := i) (oj := oj) (j := j) hr hall
      have h2 := wpOp_putIf hoj (hfree j oj hoj e hjun hnot) (fun cs b => hsel i oi cs b hi) (fun cs b => hsel j oj cs b hoj) hQ hy h1
      have hfree' : ∀ k ok, ops[k]? = some ok → k ≠ i → (l.setIfInBounds j true).getD k true = false → (∀ e ∈ ok.after, Region.binds md e = true → e.on ≠ i) → oi.apart ops ok = true := fun k ok hk hki hun hno => by
        refine hfree k ok hk hki ?_ hno
        by_cases hjk : j = k
        · subst hjk; exact hjun
        · rw [getD_set_ne true hjk] at hun; exact hun
      refine wpOp_mono (fun a' w' h3 => ⟨fun _ _ => h3.2.1 hjf hS, ih (l.setIfInBounds j true) a' w' (closed_set hcl hj) hfree' (ready_mono hr (Ne.symm e)) h3.1 (h3.2.1 hjf hS) ?_⟩) h2
      rw [Array.setIfInBounds_comm _ _ e]
      exact h3.2.2
/-- one that yields alike in every world may come up at any time -/
theorem wpF_late1 {i : Nat} {oi : Oper} {v : Value} (hi : ops[i]? = some oi) (hsel : ∀ (j : Nat) (o : Oper) cs b, ops[j]? = some o → o.op ≠ .select cs b) (hQ : ∀ c a w, Q (.panic c) (a.put oi.dst v) w → Q (.panic c) a w) :
    ∀ (n : Nat) (l : Array Bool) (a : Act) (w : World), (∀ j oj, ops[j]? = some oj → j ≠ i → l.getD j true = false → (∀ e ∈ oj.after, Region.binds md e = true → e.on ≠ i) → oi.apart ops oj = true) → i ∈ Region.ready md ops l → YieldsIf P ops (fun _ => True) oi v a →
      wpF P md ops Q S L n (l.setIfInBounds i true) (a.put oi.dst v) w → wpF P md ops Q S L (n + 1) l a w := by
  intro n
  induction n with
  | zero =>
    intro l a w _ hr hy H
    refine ⟨fun h => (by rw [h] at hr; cases hr), fun j hj => ?_⟩
    by_cases e : j = i
    · subst e; exact hy.wpOp hi trivial ⟨fun _ h => h, H⟩
    · have := ready_mono hj e
      rw [H.1] at this
      cases this
  | succ n ih =>
    intro l a w hfree hr hy H
    refine ⟨fun h => (by rw [h] at hr; cases hr), fun j hj => ?_⟩
    by_cases e : j = i
    · subst e; exact hy.wpOp hi trivial ⟨fun _ h => h, H⟩
    · have h1 := H.2 j (ready_mono hj e)
      obtain ⟨hjun, oj, hoj, hall⟩ := mem_ready.1 hj
      have hnot := not_on (i := i) (oj := oj) (j := j) hr hall
      have h2 := wpOp_putIf hoj (hfree j oj hoj e hjun hnot) (fun cs b => hsel i oi cs b hi) (fun cs b => hsel j oj cs b hoj) hQ hy h1
      have hfree' : ∀ k ok, ops[k]? = some ok → k ≠ i → (l.setIfInBounds j true).getD k true = false → (∀ e ∈ ok.after, Region.binds md e = true → e.on ≠ i) → oi.apart ops ok = true := fun k ok hk hki hun hno => by
        refine hfree k ok hk hki ?_ hno
        by_cases hjk : j = k
        · subst hjk; exact hjun
        · rw [getD_set_ne true hjk] at hun; exact hun
      refine wpOp_mono (fun a' w' h3 => ⟨h3.2.1, ih (l.setIfInBounds j true) a' w' hfree' (ready_mono hr (Ne.symm e)) h3.1 ?_⟩) h2
      rw [Array.setIfInBounds_comm _ _ e]
      exact h3.2.2
/-- operation i is taken first -/
theorem wpF_take {i : Nat} {oi : Oper} {v : Value} {n : Nat} {l : Array Bool} {a : Act} {w : World} (hi : ops[i]? = some oi) (hs : Region.noSelect ops = true) (hf : Region.free md ops l i = true) (hr : (Region.ready md ops l).contains i = true) (hc : (L.all (fun f => needB md ops ops.size i f) && closedB md ops l) = true)
    (hQ : ∀ c a w, Q (.panic c) (a.put oi.dst v) w → Q (.panic c) a w) (hy : YieldsIf P ops S oi v a) (hS : S w) (h : wpF P md ops Q S L n (l.setIfInBounds i true) (a.put oi.dst v) w) : wpF P md ops Q S L (n + 1) l a w := by
  rw [Bool.and_eq_true] at hc
  exact wpF_first hi (Region.noSelect_spec hs) hQ (List.all_eq_true.1 hc.1) n l a w hc.2 (Region.free_spec hi hf) (by simpa using hr) hy hS h
theorem wpF_late {i : Nat} {oi : Oper} {v : Value} {n : Nat} {l : Array Bool} {a : Act} {w : World} (hi : ops[i]? = some oi) (hs : Region.noSelect ops = true) (hf : Region.free md ops l i = true) (hr : (Region.ready md ops l).contains i = true)
    (hQ : ∀ c a w, Q (.panic c) (a.put oi.dst v) w → Q (.panic c) a w) (hy : YieldsIf P ops (fun _ => True) oi v a) (h : wpF P md ops Q S L n (l.setIfInBounds i true) (a.put oi.dst v) w) : wpF P md ops Q S L (n + 1) l a w :=
  wpF_late1 hi (Region.noSelect_spec hs) hQ n l a w (Region.free_spec hi hf) (by simpa using hr) hy h
def AllF (P : Program) (md : Region.Mode) (ops : Array Oper) (Q : Exit → Act → World → Prop) (S : World → Prop) (L : List Nat) (n : Nat) (l : Array Bool) (a : Act) (w : World) (rs : List Nat) : Prop :=
  ∀ i ∈ rs, wpOp P ops Q i (fun a' w' => (i ∉ L → S w → S w') ∧ wpF P md ops Q S L n (l.setIfInBounds i true) a' w') a w
theorem AllF.nil {n : Nat} {l : Array Bool} {a : Act} {w : World} : AllF P md ops Q S L n l a w [] := fun _ h => by cases h
theorem AllF.cons {n : Nat} {l : Array Bool} {a : Act} {w : World} {i : Nat} {o : Oper} {rs : List Nat} (ho : ops[i]? = some o)
    (h : ∀ K' : Act → World → Prop, Shut (∀ a' w', (i ∉ L → S w → S w') → wpF P md ops Q S L n (l.setIfInBounds i true) a' w' → K' a' w') → if Region.wanted o (yielded ops a.tmps) = true then Oper.wp P o a w K' Q else K' (a.put o.dst undef) w)
    (hs : AllF P md ops Q S L n l a w rs) : AllF P md ops Q S L n l a w (i :: rs) := fun j hj => by
  rcases List.mem_cons.1 hj with rfl | hj
  · exact wpOp_step ho (fun K' hK => h K' (fun a' w' hS hW => hK a' w' ⟨hS, hW⟩))
  · exact hs j hj
theorem wpF_ready {rs : List Nat} {n : Nat} {l : Array Bool} {a : Act} {w : World} (hr : Region.ready md ops l = rs) (hne : rs ≠ []) (h : AllF P md ops Q S L n l a w rs) : wpF P md ops Q S L (n + 1) l a w := ⟨fun h0 => absurd (hr ▸ h0) hne, hr ▸ h⟩
theorem wpF_done {l : Array Bool} {a : Act} {w : World} (hr : Region.ready md ops l = []) (h : Q .normal a w) : ∀ n, wpF P md ops Q S L n l a w
  | 0 => ⟨hr, h⟩
  | _ + 1 => ⟨fun _ => h, by rw [hr]; simp⟩
/-- the beginning -/
theorem wp_region_f (L : List Nat) {id : Nat} {a : Act} {w : World} (hm : P.follows .mixedOrders = true) (hS : S w.drew) (h : S w.drew → wpF P .any ops Q S L ops.size (Array.replicate ops.size false) a w.drew) : (Code.region id ops true).wp P Q a w :=
  wp_region_any hm (wpF_any _ _ _ _ (h hS))
end
/-- a slice literal of one element, a struct or an array: one step of a region -/
theorem run_one {α : Type} {P : Program} {T : Ty α} {t e : TypeId} {bytes : Nat} (R : Row P T t e bytes) (hb : T.sz ≤ 16777216) (x : α) (hx : T.ok x) (w : World) :
    (Instr.buildSlice t 1 #[(0, .agg (T.enc x).toArray)]).run P w = .ok (.slice (some ⟨w.heap.size, 0, none⟩) 1 1) (w.alloc (.cells (T.enc x).toArray e)) := by
  obtain ⟨i, z, hi, hz, hs, hby, hzs⟩ := R.info
  have hp := R.sz
  refine run_buildSlice w t e 1 _ _ i z R.ht hi hz (by rw [hs]; omega) (by rw [hs]; omega) ?_
  have h := Great.fill_whole (s := i.size) (by rw [hs]; exact hp) [.agg (T.enc x).toArray] ((Array.range (1 * i.size)).map (z.cells[· % z.cells.size]!)) (fun v hv => by rw [List.mem_singleton.1 hv]; simp [Value.cells, T.len x hx, hs]) (by simp)
  simpa [Value.cells] using h
theorem stp_one {α : Type} {P : Program} {T : Ty α} {t e : TypeId} {bytes : Nat} (R : Row P T t e bytes) (hb : T.sz ≤ 16777216) (x : α) (hx : T.ok x) {ops : Array Oper} {o : Oper} {a : Act} {w : World} {K : Act → World → Prop} {Q : Exit → Act → World → Prop} {E : Prop} (hgd : o.guard = none) (y : Operand)
    (ho : o.op = .buildSlice t 1 #[(0, y)]) (hy : a.eval y = .agg (T.enc x).toArray) (h : K (a.put o.dst (.slice (some ⟨w.heap.size, 0, none⟩) 1 1)) (w.alloc (.cells (T.enc x).toArray e))) :
    if Region.wanted o (yielded ops a.tmps) = true then Oper.wp P o a w K Q else E := by
  have hw : Region.wanted o (yielded ops a.tmps) = true := by simp [Region.wanted, hgd]
  rw [if_pos hw]
  have hrun := run_one R hb x hx w
  unfold Oper.wp execOp
  simp only [ho, Sem.run_bind, List.map_toArray, List.map_cons, List.map_nil, hy, hrun, Result.andThen_ok]
  exact h
theorem wpl_one {α : Type} {P : Program} {T : Ty α} {t e : TypeId} {bytes : Nat} (R : Row P T t e bytes) (hb : T.sz ≤ 16777216) (x : α) (hx : T.ok x) {ops : Array Oper} {rest : List Oper} {o : Oper} {a : Act} {w : World} {Q : Exit → Act → World → Prop} (hgd : o.guard = none) (y : Operand)
    (ho : o.op = .buildSlice t 1 #[(0, y)]) (hy : a.eval y = .agg (T.enc x).toArray) (h : wpList P ops Q rest (a.put o.dst (.slice (some ⟨w.heap.size, 0, none⟩) 1 1)) (w.alloc (.cells (T.enc x).toArray e))) : wpList P ops Q (o :: rest) a w := by
  refine wpList_plain hgd fun K hK => ?_
  have hrun := run_one R hb x hx w
  unfold Oper.wp execOp
  simp only [ho, Sem.run_bind, List.map_toArray, List.map_cons, List.map_nil, hy, hrun, Result.andThen_ok]
  exact hK _ _ h
end Go.Proofs.Ytdjclllnmclocaa
/- Names and valid entries. No condition. -/
namespace Go.Proofs.Ytdjclllnmclocaa
open Go.RowKit
set_option linter.unusedVariables false
set_option linter.unusedSimpArgs false

/-- a text that is a name -/
@[irreducible] def nameB (s : ByteArray) : Bool := decide (1 ≤ (s.size : Int)) && decide ((s.size : Int) ≤ 24)
theorem nameB_eq (s : ByteArray) : nameB s = (decide (1 ≤ (s.size : Int)) && decide ((s.size : Int) ≤ 24)) := by rw [nameB]
/-- a valid entry -/
@[irreducible] def entB (n v : ByteArray) : Bool := nameB n && decide (v.size ≤ 64)
theorem entB_eq (n v : ByteArray) : entB n v = (nameB n && decide (v.size ≤ 64)) := by rw [entB]
theorem nameB_le {n : ByteArray} (h : nameB n = true) : 1 ≤ n.size ∧ n.size ≤ 24 := by
  rw [nameB_eq] at h
  simp at h
  omega
theorem entB_le {n v : ByteArray} (h : entB n v = true) : 1 ≤ n.size ∧ n.size ≤ 24 ∧ v.size ≤ 64 := by
  rw [entB_eq] at h
  simp at h
  have := nameB_le h.1
  omega
end Go.Proofs.Ytdjclllnmclocaa
/- Names, and their priorities. No condition. -/
namespace Go.Proofs.Ytdjclllnmclocaa
open Go.RowKit
set_option linter.unusedVariables false
set_option linter.unusedSimpArgs false

def prioL (s : ByteArray) : List Int := hashL 4 (strL s)
theorem prioL_ok (s : ByteArray) : K32 (prioL s) := hashL_ok _ _
theorem prioL_eq (s : ByteArray) : prioL s = hashL 4 (strL s) := rfl
attribute [irreducible] prioL
/-- the priority and the code -/
def prioR (s : ByteArray) : List Int × Int := if nameB s then (prioL s, 0) else (List.replicate 32 0, 1)
theorem zero_ok : K32 (List.replicate 32 0) := ⟨by simp, replicate_ok _⟩
theorem prioR_ok (s : ByteArray) : K32 (prioR s).1 := by unfold prioR; split; exact prioL_ok s; exact zero_ok
end Go.Proofs.Ytdjclllnmclocaa
/- The bytes and the key of a node. No condition. -/
namespace Go.Proofs.Ytdjclllnmclocaa
open Go.RowKit
set_option linter.unusedVariables false
set_option linter.unusedSimpArgs false

theorem rd_of {w : World} {S : Nat → Prop} {A : Option Addr} {n c : Nat} {xs : List Int} (h : RdL tByte w S (.slice A n c) xs) : Rd w S tByte.sz A xs.length (xs.flatMap tByte.enc) ∧ (∀ y ∈ xs, tByte.ok y) ∧ n = xs.length := by
  obtain ⟨A2, cap2, e, _, _, h1, h2⟩ := h
  injection e with e1 e2 e3
  subst e1
  exact ⟨h1, h2, e2⟩
/-- the bytes of a node -/
@[irreducible] def nodeL (x : Nd) : List Int := x.l ++ x.r ++ [(x.n.size : Int) % 256] ++ strL x.n ++ strL x.v
theorem nodeL_eq (x : Nd) : nodeL x = x.l ++ x.r ++ [(x.n.size : Int) % 256] ++ strL x.n ++ strL x.v := by rw [nodeL]
theorem nodeL_length {x : Nd} (h : x.ok) : (nodeL x).length = 65 + x.n.size + x.v.size := by
  rw [nodeL]; simp only [List.length_append, strL_length, h.1.1, h.2.1.1, List.length_cons, List.length_nil]
/-- the key of a node, and the code -/
def nodeKR (x : Nd) : List Int × Int := if entB x.n x.v then (hashL 5 (nodeL x), 0) else (List.replicate 32 0, 1)
theorem nodeKR_ok (x : Nd) : K32 (nodeKR x).1 := by unfold nodeKR; split; exact hashL_ok _ _; exact zero_ok
end Go.Proofs.Ytdjclllnmclocaa
/- Any number of slices of bytes put together. No condition. -/
namespace Go.Proofs.Ytdjclllnmclocaa
open Go.RowKit
set_option linter.unusedVariables false
set_option linter.unusedSimpArgs false

/-- all bytes of the first k -/
@[irreducible] def catL (L : List (Value × List Int)) (k : Nat) : List Int := (L.take k).flatMap (·.2)
theorem catL_zero (L : List (Value × List Int)) : catL L 0 = [] := by rw [catL]; simp
theorem catL_succ (L : List (Value × List Int)) (k : Nat) (h : k < L.length) : catL L (k + 1) = catL L k ++ L[k].2 := by
  rw [catL, catL, List.take_succ_eq_append_getElem h, List.flatMap_append, List.flatMap_cons, List.flatMap_nil, List.append_nil]
theorem catL_le (L : List (Value × List Int)) (k : Nat) (h : k ≤ L.length) : (catL L k).length ≤ (catL L L.length).length := by
  rw [catL, catL]
  conv => rhs; rw [← Nat.add_sub_cancel' h, List.take_add]
  simp
set_option maxHeartbeats 1000000 in
set_option maxRecDepth 100000 in
theorem concat_any (g o c : Nat) (L : List (Value × List Int)) (w : World) (S : Nat → Prop) (hrd : ∀ i (h : i < L.length), RdL tByte w S L[i].1 L[i].2) (hc : ∀ i (h : i < L.length), w.cell? ⟨g, o + i, none⟩ = some L[i].1)
    (hL : L.length ≤ 1000) (h0 : 0 < (catL L L.length).length) (hn : (catL L L.length).length ≤ 70368744177664) :
    Calls Try.prog 49 #[.slice (some ⟨g, o, none⟩) L.length c] w fun e w' => ∃ v', e = .returned v' ∧ Own tByte 5 w' w.heap.size v' (catL L L.length) ∧ Ext w w' := by
  have HRD := Lib.hid hrd
  have HC := Lib.hid hc
  have HZ := Lib.hid (catL_zero L)
  clear hrd hc
  go_enter Try.func49, Try.ntmps49
  go_wp2_with fail
  go_loop [3, 11] (fun s i => ∃ k : Nat, k ≤ L.length ∧ i = .int .i64 k ∧ s = .int .i64 (catL L k).length) (fun _ i => L.length - (intOf i).toNat)
  case atStart => exact ⟨0, by omega, rfl, by rw [HZ.out]; rfl⟩
  case round =>
    obtain ⟨k, hk, rfl, rfl⟩ := hrel
    have hle := catL_le L k hk
    by_cases hlt : k < L.length
    · have hle2 := catL_le L (k + 1) hlt
      have HS := Lib.hid (catL_succ L k hlt)
      have hcell := HC.out k hlt
      obtain ⟨A, cap, e, hcap, hlen, _⟩ := HRD.out k hlt
      rw [e] at hcell
      rw [HS.out, List.length_append] at hle2
      have hi : (0 : Int) ≤ (k : Int) := by omega
      go_wp2_with fail
      go_round
      case rel => exact ⟨k + 1, by omega, by go_num, by rw [HS.out, List.length_append]; go_num⟩
      case measure => simp [intOf]; omega
    · obtain rfl : k = L.length := by omega
      have G := grow_any (catL L L.length).length h0 hn w
      have HG := Lib.hid G
      clear G
      go_wp2_with fail
      refine HG.out.mono ?_
      rintro e w1 ⟨v1, rfl, ho, hx⟩
      have HO := Lib.hid ho
      have HX := Lib.hid hx
      clear ho hx
      go_wp2_with fail
      go_loopw [6, 27] (fun v i wr => ∃ k : Nat, k ≤ L.length ∧ i = .int .i64 k ∧ Own tByte 5 wr w.heap.size v (catL L k) ∧ Ext w wr) (fun _ i _ => L.length - (intOf i).toNat)
      case atStart => exact ⟨0, by omega, rfl, by rw [HZ.out]; exact HO.out, HX.out⟩
      case round =>
        clear HO HX hk hle hlt
        obtain ⟨k, hk, rfl, ho, hx⟩ := hrel
        have HX := Lib.hid hx
        have HO := Lib.hid ho
        obtain ⟨B, bn, bc, rfl⟩ := ho.shape3
        have hle := catL_le L k hk
        clear ho hx
        by_cases hlt : k < L.length
        · have hle2 := catL_le L (k + 1) hlt
          have HS := Lib.hid (catL_succ L k hlt)
          have hcell := HX.out.cell (HC.out k hlt)
          obtain ⟨A, cap, e, hcap, hlen, hr1, hok1⟩ := (HRD.out k hlt).ext (by decide) HX.out
          rw [e] at hcell
          rw [HS.out, List.length_append] at hle2
          have HR := Lib.hid hr1
          have HK := Lib.hid hok1
          have hi : (0 : Int) ≤ (k : Int) := by omega
          clear hr1 hok1
          go_wp2_with (at_builtin; refine wpl_append rowByte rfl _ _ rfl (v := .slice B bn bc) rfl HO.out _ _ rfl (ys := L[k].2) (A := A) (S := S) rfl HR.out HK.out (by omega) HX.out.size ?_; intro v1 w1 ho1 hg1 hat1; have HO1 := Lib.hid ho1; have HX1 := Lib.hid (HO.out.ext_app HX.out hg1); clear ho1 hg1 hat1)
          go_roundw
          case rel => exact ⟨k + 1, by omega, by go_num, by rw [HS.out]; exact HO1.out, HX1.out⟩
          case measure => simp [intOf]; omega
        · obtain rfl : k = L.length := by omega
          go_wp2_with fail
          go_ret
          exact ⟨_, rfl, HO.out, HX.out⟩

end Go.Proofs.Ytdjclllnmclocaa
/- The program's bytes and key of a node. No condition. -/
namespace Go.Proofs.Ytdjclllnmclocaa
open Go.RowKit
set_option linter.unusedVariables false
set_option linter.unusedSimpArgs false

/-- the bytes of a text, in new memory: one step of a region that draws its order -/
theorem stp_conv {P : Program} {ops : Array Oper} {o : Oper} {a : Act} {w : World} {K : Act → World → Prop} {Q : Exit → Act → World → Prop} {E : Prop} {src dst e : TypeId} {s : ByteArray}
    (hs : P.underlying src = some .string) (hd : P.underlying dst = some (.slice e)) (he : P.underlying e = some (.int .u8)) (hgd : o.guard = none) (x : Operand) (ho : o.op = .convert src dst x) (hx : a.eval x = .string s) (hl : s.size ≤ 140737488351232)
    (h : ∀ A c w', RdL tByte w' (fun _ => True) (.slice A s.size c) (strL s) → Ext w w' → K (a.put o.dst (.slice A s.size c)) w') : if Region.wanted o (yielded ops a.tmps) = true then Oper.wp P o a w K Q else E := by
  have hw : Region.wanted o (yielded ops a.tmps) = true := by simp [Region.wanted, hgd]
  rw [if_pos hw]
  unfold Oper.wp execOp
  simp only [ho, hx, Sem.run_bind, Sem.run_pure, Result.andThen_ok, Lib.run_convert_string_bytes w src dst e s hs hd he]
  exact h _ _ _ ((bytesWorld_rd w e s hl).mono fun _ _ => trivial) (bytesWorld_ext w e s)
/-- bytes that lie in a variable -/
theorem rdl_blk {w : World} {g t off n : Nat} {cs : Array Value} {xs : List Int} (hb : Blk w g t cs) (hp : ∀ j u, (numsA .u8 xs)[j]? = some u → cs[off + j]? = some u) (hn : xs.length = n) (h1 : B8 xs) (h2 : n ≤ 1000) (c : Nat) (hc : n ≤ c) : RdL tByte w (fun _ => True) (.slice (some ⟨g, off, none⟩) n c) xs := by
  subst hn
  refine ⟨_, _, rfl, hc, by omega, ⟨by rw [flat_bytes, nums_length]; exact (Nat.mul_one _).symm, fun _ => ⟨g, off, rfl, trivial, fun j u hu => ?_⟩⟩, h1⟩
  rw [hb.cell]
  exact hp j u (by rw [flat_bytes] at hu; simpa [numsA] using hu)
theorem rdl_one {w : World} {g : Nat} {x : Int} (hx : 0 ≤ x ∧ x ≤ 255) (hc : w.cell? ⟨g, 0, none⟩ = some (.int .u8 x)) (c : Nat) (h : 1 ≤ c) : RdL tByte w (fun _ => True) (.slice (some ⟨g, 0, none⟩) 1 c) [x] := by
  refine ⟨_, _, rfl, h, by simp, ⟨by simp [tByte], fun _ => ⟨g, 0, rfl, trivial, fun j u hu => ?_⟩⟩, okOne hx⟩
  simp [tByte] at hu
  obtain ⟨rfl, rfl⟩ : j = 0 ∧ u = .int .u8 x := by
    cases j with
    | zero => simp at hu; exact ⟨rfl, hu.symm⟩
    | succ j => simp at hu
  exact hc
end Go.Proofs.Ytdjclllnmclocaa
/- Keys compared. No condition. -/
namespace Go.Proofs.Ytdjclllnmclocaa
open Go.RowKit
set_option linter.unusedVariables false
set_option linter.unusedSimpArgs false

/-- which of two lists comes first -/
@[irreducible] def cmpL : List Int → List Int → Int
  | x :: a, y :: b => if x = y then cmpL a b else if x < y then -1 else 1
  | _, _ => 0
theorem cmpL_self (a : List Int) : cmpL a a = 0 := by
  induction a with
  | nil => rw [cmpL]; intro x a y b h; cases h
  | cons x r ih => rw [cmpL, if_pos rfl, ih]
theorem cmpL_at (a b : List Int) (k : Nat) (ha : k < a.length) (hb : k < b.length) (h : a.take k = b.take k) (hne : gI a k ≠ gI b k) : cmpL a b = if gI a k < gI b k then -1 else 1 := by
  induction k generalizing a b with
  | zero =>
    match a, b, ha, hb with
    | x :: a, y :: b, _, _ => 
      have hne' : x ≠ y := by simpa [gI] using hne
      rw [cmpL, if_neg hne']; simp [gI]
  | succ k ih =>
    match a, b, ha, hb with
    | x :: a, y :: b, ha, hb =>
      simp only [List.take_succ_cons, List.cons.injEq] at h
      rw [cmpL, if_pos h.1]
      have := ih a b (by simpa using ha) (by simpa using hb) h.2 (by simpa [gI] using hne)
      rw [this]; simp [gI]
set_option maxHeartbeats 1000000 in
set_option maxRecDepth 100000 in
theorem isNaNB_any (x : Int) (w : World) : Calls Try.prog 125 #[.int .u8 x] w fun e w' => e = .returned (.bool false) ∧ w = w' := by
  have h : (x != x) = false := by simp
  go_enter Try.func125, Try.ntmps125
  go_wp2
  go_ret
  exact ⟨rfl, rfl⟩
set_option maxHeartbeats 1000000 in
set_option maxRecDepth 100000 in
theorem cmpB_any (x y : Int) (w : World) : Calls Try.prog 109 #[.int .u8 x, .int .u8 y] w fun e w' => e = .returned (.int .i64 (if x = y then 0 else if x < y then -1 else 1)) ∧ w = w' := by
  rcases Int.lt_trichotomy x y with h | h | h
  · rw [if_neg (by omega), if_pos h]
    go_enter Try.func109, Try.ntmps109
    go_wp2_with (go_at_call 125; refine (isNaNB_any _ _).mono ?_; rintro e w' ⟨rfl, rfl⟩)
    go_ret
    exact ⟨rfl, rfl⟩
  · subst h
    rw [if_pos rfl]
    go_enter Try.func109, Try.ntmps109
    go_wp2_with (go_at_call 125; refine (isNaNB_any _ _).mono ?_; rintro e w' ⟨rfl, rfl⟩)
    go_ret
    exact ⟨rfl, rfl⟩
  · have h2 : ¬ x < y := by omega
    rw [if_neg (by omega), if_neg h2]
    go_enter Try.func109, Try.ntmps109
    go_wp2_with (go_at_call 125; refine (isNaNB_any _ _).mono ?_; rintro e w' ⟨rfl, rfl⟩)
    go_ret
    exact ⟨rfl, rfl⟩
set_option maxHeartbeats 1000000 in
set_option maxRecDepth 100000 in
theorem slCompare_any (v u : Value) (a b : List Int) (w : World) (S S' : Nat → Prop) (h : RdL tByte w S v a) (h' : RdL tByte w S' u b) (hl : a.length = b.length) :
    Calls Try.prog 93 #[v, u] w fun e w' => e = .returned (.int .i64 (cmpL a b)) ∧ Ext w w' := by
  obtain ⟨A, cap, rfl, hcap, hlen, hrd, hok⟩ := h
  obtain ⟨A', cap', rfl, hcap', hlen', hrd', hok'⟩ := h'
  have Hrd := Lib.hid (show Rd w S 1 A a.length (nums .u8 a) by rw [← flat_bytes]; exact hrd)
  have Hrd' := Lib.hid (show Rd w S' 1 A' b.length (nums .u8 b) by rw [← flat_bytes]; exact hrd')
  have Hl := Lib.hid hl
  clear hrd hrd' hl
  go_enter Try.func93, Try.ntmps93
  go_wp2
  go_loopw [11] (fun i wr => ∃ k : Nat, k ≤ a.length ∧ i = .int .i64 k ∧ a.take k = b.take k ∧ Ext w wr) (fun i _ => a.length - (intOf i).toNat)
  case atStart => exact ⟨0, by omega, rfl, by simp, Ext.refl _⟩
  case round =>
    obtain ⟨k, hk, rfl, ht, hx⟩ := hrel
    have Ht := Lib.hid ht
    have HX := Lib.hid hx
    clear ht hx
    have hbl : (b.length : Int) = a.length := by rw [Hl.out]
    by_cases hlt : k < a.length
    · have hlt' : k < b.length := by rw [← Hl.out]; exact hlt
      obtain ⟨g, o, rfl, hs, hc⟩ := (Hrd.out).byte k hlt
      obtain ⟨g', o', rfl, hs', hc'⟩ := (Hrd'.out).byte k hlt'
      have hd := HX.out.cell hc
      have hd' := HX.out.cell hc'
      have hi : (0 : Int) ≤ (k : Int) := by omega
      have hi2 : (k : Int) < (a.length : Int) := by omega
      have hi3 : (k : Int) < (b.length : Int) := by omega
      clear hc hc' hbl
      have hcm := fun W => cmpB_any (gI a k) (gI b k) W
      by_cases he : gI a k = gI b k
      · have He := Lib.hid he
        simp only [if_pos he] at hcm
        clear he
        go_wp2_with fail
        refine (hcm _).mono ?_
        rintro e w' ⟨rfl, rfl⟩
        go_wp2
        go_roundw
        case rel => exact ⟨k + 1, by omega, by go_num, take_eq_step hlt hlt' Ht.out He.out, HX.out⟩
        case measure => simp [intOf]; omega
      · have HC := Lib.hid (cmpL_at a b k hlt hlt' Ht.out he)
        simp only [if_neg he] at hcm
        clear he
        by_cases hlx : gI a k < gI b k
        · have Hlx := Lib.hid hlx
          simp only [if_pos hlx] at hcm
          clear hlx
          go_wp2_with fail
          refine (hcm _).mono ?_
          rintro e w' ⟨rfl, rfl⟩
          go_wp2
          go_ret
          exact ⟨by rw [HC.out, if_pos Hlx.out]; rfl, HX.out⟩
        · have Hlx := Lib.hid (Int.not_lt.1 hlx)
          simp only [if_neg hlx] at hcm
          clear hlx
          go_wp2_with fail
          refine (hcm _).mono ?_
          rintro e w' ⟨rfl, rfl⟩
          go_wp2
          go_ret
          exact ⟨by rw [HC.out, if_neg (Int.not_lt.2 Hlx.out)]; rfl, HX.out⟩
    · have hq : ¬ (a.length : Int) < (b.length : Int) := by omega
      clear hbl
      go_wp2
      go_ret
      obtain rfl : k = a.length := by omega
      refine ⟨?_, HX.out⟩
      have e := Ht.out
      rw [List.take_of_length_le (by omega), List.take_of_length_le (by rw [← Hl.out]; omega)] at e
      subst e; rw [cmpL_self]; rfl
theorem numsA_full {xs : List Int} (j : Nat) (u : Value) (hu : (numsA .u8 xs)[j]? = some u) : (numsA .u8 xs)[0 + j]? = some u := by rw [Nat.zero_add]; exact hu
set_option maxHeartbeats 1000000 in
set_option maxRecDepth 100000 in
theorem compareKeys_any (a b : List Int) (ha : K32 a) (hb : K32 b) (w : World) :
    Calls Try.prog 64 #[.agg (numsA .u8 a), .agg (numsA .u8 b)] w fun e w' => e = .returned (.int .i64 (cmpL a b)) ∧ Ext w w' := by
  have HA := Lib.hid ha
  have HB := Lib.hid hb
  clear ha hb
  go_enter Try.func64, Try.ntmps64
  go_wp2_with fail
  go_region_held3 (fun W => Ext ((w.alloc (.cells (numsA .u8 a) 28)).alloc (.cells (numsA .u8 b) 28)) W) (first | exact Ext.refl _ | exact (Ext.refl _).drew | exact Ext.trans (by assumption) (by assumption))
    (first
    | (go_at_call 93; refine (slCompare_any _ _ a b _ _ _ (rdl_blk (((Blk.new w 28 (numsA .u8 a)).alloc _).ext ((Ext.refl _).drew)) numsA_full HA.out.1 HA.out.2 (by decide) 32 (Nat.le_refl _)) (rdl_blk ((Blk.new' (g := w.heap.size + 1) (w := w.alloc (.cells (numsA .u8 a) 28)) (by simp) 28 (numsA .u8 b)).ext ((Ext.refl _).drew)) numsA_full HB.out.1 HB.out.2 (by decide) 32 (Nat.le_refl _)) (by rw [HA.out.1, HB.out.1])).mono ?_; rintro e p1 ⟨rfl, hx⟩))
  go_wp2
  go_ret
  exact ⟨rfl, ((ext_alloc w _).alloc _).trans (by assumption)⟩

end Go.Proofs.Ytdjclllnmclocaa
/- Texts in order; their comparison. No condition. -/
namespace Go.Proofs.Ytdjclllnmclocaa
open Go.RowKit
set_option linter.unusedVariables false
set_option linter.unusedSimpArgs false

theorem less_irrefl (a : List UInt8) : Op.bytesLess a a = false := by
  induction a with
  | nil => rfl
  | cons x r ih => simp [Op.bytesLess, ih]
theorem less_trans : ∀ (a b c : List UInt8), Op.bytesLess a b = true → Op.bytesLess b c = true → Op.bytesLess a c = true
  | [], [], _, h, _ => by simp [Op.bytesLess] at h
  | _ :: _, [], _, h, _ => by simp [Op.bytesLess] at h
  | _, _ :: _, [], _, h => by simp [Op.bytesLess] at h
  | [], _ :: _, _ :: _, _, _ => by simp [Op.bytesLess]
  | x :: a, y :: b, z :: c, h, k => by
    simp only [Op.bytesLess, Bool.or_eq_true, decide_eq_true_eq, Bool.and_eq_true, beq_iff_eq] at h k ⊢
    rcases h with h | ⟨rfl, h⟩
    · rcases k with k | ⟨rfl, k⟩
      · exact .inl (UInt8.lt_trans h k)
      · exact .inl h
    · rcases k with k | ⟨rfl, k⟩
      · exact .inl k
      · exact .inr ⟨rfl, less_trans a b c h k⟩
theorem less_total : ∀ (a b : List UInt8), Op.bytesLess a b = false → Op.bytesLess b a = false → a = b
  | [], [], _, _ => rfl
  | _ :: _, [], _, h => by simp [Op.bytesLess] at h
  | [], _ :: _, h, _ => by simp [Op.bytesLess] at h
  | x :: a, y :: b, h, k => by
    simp only [Op.bytesLess, Bool.or_eq_false_iff, decide_eq_false_iff_not, Bool.and_eq_false_iff, beq_eq_false_iff_ne] at h k
    have e : x = y := by
      have h1 := h.1
      have k1 := k.1
      exact UInt8.le_antisymm (UInt8.not_lt.1 k1) (UInt8.not_lt.1 h1)
    subst e
    rw [less_total a b (h.2.resolve_left (fun q => q rfl)) (k.2.resolve_left (fun q => q rfl))]
/-- a comes ahead of b -/
@[irreducible] def ltB (a b : ByteArray) : Bool := Op.bytesLess a.toList b.toList
theorem ltB_eq (a b : ByteArray) : Op.bytesLess a.toList b.toList = ltB a b := by rw [ltB]
theorem toList_inj {a b : ByteArray} (h : a.toList = b.toList) : a = b := by
  rw [ByteArray.toList_eq, ByteArray.toList_eq] at h
  exact ByteArray.ext (Array.toList_inj.1 h)
theorem ltB_irrefl (a : ByteArray) : ltB a a = false := by rw [ltB]; exact less_irrefl _
theorem ltB_trans {a b c : ByteArray} (h : ltB a b = true) (k : ltB b c = true) : ltB a c = true := by rw [ltB] at h k ⊢; exact less_trans _ _ _ h k
theorem ltB_total {a b : ByteArray} (h : ltB a b = false) (k : ltB b a = false) : a = b := by rw [ltB] at h k; exact toList_inj (less_total _ _ h k)
theorem ltB_asymm {a b : ByteArray} (h : ltB a b = true) : ltB b a = false := by
  cases k : ltB b a with
  | false => rfl
  | true => have := ltB_trans h k; rw [ltB_irrefl] at this; cases this
theorem ltB_ne {a b : ByteArray} (h : ltB a b = true) : a ≠ b := fun e => by subst e; rw [ltB_irrefl] at h; cases h
/-- the comparison of two texts -/
@[irreducible] def cmpS (a b : ByteArray) : Int := if ltB a b then -1 else if ltB b a then 1 else 0
theorem cmpS_eq (a b : ByteArray) : cmpS a b = if ltB a b then -1 else if ltB b a then 1 else 0 := by rw [cmpS]
theorem cmpS_lt (a b : ByteArray) : cmpS a b < 0 ↔ ltB a b = true := by
  rw [cmpS]
  split
  · simp [*]
  · split <;> simp [*]
theorem cmpS_zero (a b : ByteArray) : cmpS a b = 0 ↔ a = b := by
  rw [cmpS]
  constructor
  · intro h
    split at h
    · cases h
    · rename_i h1
      split at h
      · cases h
      · rename_i h2
        exact ltB_total (by simpa using h1) (by simpa using h2)
  · rintro rfl
    simp [ltB_irrefl]
end Go.Proofs.Ytdjclllnmclocaa
/- Which lists of entries are maps: the reference and the program. No condition. -/
namespace Go.Proofs.Ytdjclllnmclocaa
open Go.RowKit
set_option linter.unusedVariables false
set_option linter.unusedSimpArgs false

def gE (L : List En) (i : Nat) : En := L.getD i (⟨#[]⟩, ⟨#[]⟩)
theorem gE_lt {L : List En} {i : Nat} (h : i < L.length) : gE L i = L[i] := by simp [gE, List.getD_eq_getElem?_getD, h]
def incC (L : List En) (i : Nat) : Bool := entB (gE L i).1 (gE L i).2 && (i == 0 || ltB (gE L (i - 1)).1 (gE L i).1)
/-- the first n are valid and in order -/
@[irreducible] def incs (L : List En) (n : Nat) : Bool := (List.range n).all (incC L)
theorem incs_zero (L : List En) : incs L 0 = true := by rw [incs]; rfl
theorem incs_succ (L : List En) (n : Nat) : incs L (n + 1) = (incs L n && incC L n) := by rw [incs, incs, List.range_succ, List.all_append]; simp
theorem incs_bad (L : List En) (k n : Nat) (h : k < n) (hb : incC L k = false) : incs L n = false := by
  rw [incs, List.all_eq_false]
  exact ⟨k, List.mem_range.2 h, by simp [hb]⟩
/-- a map -/
@[irreducible] def okE (L : List En) : Bool := incs L L.length && decide (L.length ≤ 64)
theorem okE_eq (L : List En) : okE L = (incs L L.length && decide (L.length ≤ 64)) := by rw [okE]
end Go.Proofs.Ytdjclllnmclocaa
/- The tree of a map, plainly. No condition. -/
namespace Go.Proofs.Ytdjclllnmclocaa
open Go.RowKit
set_option linter.unusedVariables false
set_option linter.unusedSimpArgs false

inductive Tr where
  | leaf : Tr
  | node : Nd → Tr → Tr → Tr
def Tr.key : Tr → List Int
  | .leaf => emptyL
  | .node x _ _ => hashL 5 (nodeL x)
def Tr.all : Tr → List Nd
  | .leaf => []
  | .node x l r => x :: (l.all ++ r.all)
def Tr.ok : Tr → Prop
  | .leaf => True
  | .node x l r => x.ok ∧ entB x.n x.v = true ∧ x.l = l.key ∧ x.r = r.key ∧ l.ok ∧ r.ok
theorem Tr.key_ok (T : Tr) : K32 T.key := by
  cases T with
  | leaf => exact emptyL_ok
  | node x l r => exact hashL_ok _ _
theorem Tr.all_ok (T : Tr) (h : T.ok) : ∀ x ∈ T.all, x.ok ∧ entB x.n x.v = true := by
  induction T with
  | leaf => intro x hx; simp [Tr.all] at hx
  | node y l r il ir =>
    obtain ⟨h1, h2, _, _, h5, h6⟩ := h
    intro x hx
    simp only [Tr.all, List.mem_cons, List.mem_append] at hx
    rcases hx with rfl | hx | hx
    · exact ⟨h1, h2⟩
    · exact il h5 x hx
    · exact ir h6 x hx
/-- the place of the greatest of the first k priorities -/
def gK (ps : List (List Int)) (k : Nat) : List Int := ps.getD k []
theorem gK_lt {ps : List (List Int)} {k : Nat} (h : k < ps.length) : gK ps k = ps[k] := by simp [gK, List.getD_eq_getElem?_getD, h]
def topS (ps : List (List Int)) (k t : Nat) : Nat := if 0 < cmpL (gK ps k) (gK ps t) then k else t
def topI (ps : List (List Int)) : Nat → Nat
  | 0 => 0
  | k + 1 => topS ps k (topI ps k)
theorem topI_zero (ps : List (List Int)) : topI ps 0 = 0 := rfl
theorem topI_succ (ps : List (List Int)) (k : Nat) : topI ps (k + 1) = if 0 < cmpL (gK ps k) (gK ps (topI ps k)) then k else topI ps k := rfl
attribute [irreducible] topI
theorem topI_one (ps : List (List Int)) : topI ps 1 = 0 := by rw [topI_succ, topI_zero, cmpL_self]; simp
theorem topI_lt (ps : List (List Int)) (k : Nat) (h : 0 < k) : topI ps k < k := by
  induction k with
  | zero => omega
  | succ k ih =>
    rw [topI_succ]
    split
    · omega
    · rcases Nat.eq_zero_or_pos k with rfl | hk
      · rw [topI_zero]; omega
      · have := ih hk; omega
def prios (L : List En) : List (List Int) := L.map fun e => prioL e.1
theorem prios_length (L : List En) : (prios L).length = L.length := by simp [prios]
theorem prios_at (L : List En) (k : Nat) (h : k < L.length) : gK (prios L) k = prioL L[k].1 := by rw [gK_lt (by rw [prios_length]; exact h)]; simp [prios]
theorem prios_ok (L : List En) : ∀ p ∈ prios L, K32 p := by
  intro p hp
  simp only [prios, List.mem_map] at hp
  obtain ⟨e, _, rfl⟩ := hp
  exact prioL_ok _
theorem prios_take (L : List En) (k : Nat) : prios (L.take k) = (prios L).take k := by simp [prios]
theorem prios_drop (L : List En) (k : Nat) : prios (L.drop k) = (prios L).drop k := by simp [prios]
def topE (L : List En) : Nat := topI (prios L) L.length
theorem topE_lt {L : List En} (h : 0 < L.length) : topE L < L.length := topI_lt _ _ h
/-- the tree -/
def trS (L : List En) (l r : Tr) : Tr := if L.length = 0 then .leaf else .node ⟨l.key, r.key, (gE L (topE L)).1, (gE L (topE L)).2⟩ l r
def trF : Nat → List En → Tr
  | 0, _ => .leaf
  | f + 1, L => trS L (trF f (L.take (topE L))) (trF f (L.drop (topE L + 1)))
theorem trF_zero (L : List En) : trF 0 L = .leaf := rfl
theorem trF_succ (f : Nat) (L : List En) : trF (f + 1) L = trS L (trF f (L.take (topE L))) (trF f (L.drop (topE L + 1))) := rfl
attribute [irreducible] trF
theorem trF_nil (f : Nat) (L : List En) (h : L.length = 0) : trF f L = .leaf := by
  cases f with
  | zero => rw [trF_zero]
  | succ f => rw [trF_succ, trS, if_pos h]
theorem trF_cons (f : Nat) (L : List En) (h : ¬ L.length = 0) : trF (f + 1) L = .node ⟨(trF f (L.take (topE L))).key, (trF f (L.drop (topE L + 1))).key, (gE L (topE L)).1, (gE L (topE L)).2⟩ (trF f (L.take (topE L))) (trF f (L.drop (topE L + 1))) := by rw [trF_succ, trS, if_neg h]
/-- entries that a map may hold -/
def good (L : List En) : Prop := ∀ e ∈ L, tEnt.ok e ∧ entB e.1 e.2 = true
theorem good_of {L : List En} (h : okE L = true) (hok : ∀ e ∈ L, tEnt.ok e) : good L := by
  intro e he
  refine ⟨hok e he, ?_⟩
  rw [okE_eq, Bool.and_eq_true, incs, List.all_eq_true] at h
  obtain ⟨i, hi, rfl⟩ := List.getElem_of_mem he
  have := h.1 i (List.mem_range.2 hi)
  simp only [incC, Bool.and_eq_true] at this
  rw [gE_lt hi] at this
  exact this.1
theorem good.take {L : List En} (h : good L) (k : Nat) : good (L.take k) := fun e he => h e (List.mem_of_mem_take he)
theorem good.drop {L : List En} (h : good L) (k : Nat) : good (L.drop k) := fun e he => h e (List.mem_of_mem_drop he)
theorem good.at_ {L : List En} (h : good L) {k : Nat} (hk : k < L.length) : tEnt.ok (gE L k) ∧ entB (gE L k).1 (gE L k).2 = true := by rw [gE_lt hk]; exact h _ (List.getElem_mem hk)
theorem trF_ok (f : Nat) (L : List En) (h : good L) : (trF f L).ok := by
  induction f generalizing L with
  | zero => rw [trF_zero]; trivial
  | succ f ih =>
    by_cases h0 : L.length = 0
    · rw [trF_nil _ _ h0]; trivial
    · rw [trF_cons _ _ h0]
      have hg := h.at_ (topE_lt (L := L) (by omega))
      exact ⟨⟨Tr.key_ok _, Tr.key_ok _, hg.1.1, hg.1.2⟩, hg.2, rfl, rfl, ih _ (h.take _), ih _ (h.drop _)⟩
theorem trF_len (f : Nat) (L : List En) : (trF f L).all.length ≤ L.length := by
  induction f generalizing L with
  | zero => rw [trF_zero]; simp [Tr.all]
  | succ f ih =>
    by_cases h0 : L.length = 0
    · rw [trF_nil _ _ h0]; simp [Tr.all]
    · rw [trF_cons _ _ h0]
      have h1 := ih (L.take (topE L))
      have h2 := ih (L.drop (topE L + 1))
      have h3 := topE_lt (L := L) (by omega)
      simp only [Tr.all, List.length_cons, List.length_append]
      rw [List.length_take] at h1
      rw [List.length_drop] at h2
      omega
def tNd : Ty Nd := ⟨66, Nd.enc, Nd.ok, fun _ h => Nd.enc_length h, fun x => Nd.enc_one x⟩
theorem Rd.cutL {α : Type} {T : Ty α} {w : World} {S : Nat → Prop} {A : Option Addr} {xs : List α} (h : Rd w S T.sz A xs.length (xs.flatMap T.enc)) (hok : ∀ x ∈ xs, T.ok x) {k cap : Nat} (hk : k ≤ xs.length) (hc : xs.length ≤ cap) :
    Rd w S T.sz (if cap = k then A else A.map (·.add (k * T.sz))) (xs.drop k).length ((xs.drop k).flatMap T.enc) := by
  have h1 := h.cut hk hc
  have e : (xs.flatMap T.enc).drop (k * T.sz) = (xs.drop k).flatMap T.enc := by
    conv => lhs; rw [← List.take_append_drop k xs, List.flatMap_append]
    rw [List.drop_append_of_le_length (by rw [flat_length T _ (fun x hx => hok x (List.mem_of_mem_take hx)), List.length_take, Nat.min_eq_left hk]; exact Nat.le_refl _), List.drop_eq_nil_of_le (by rw [flat_length T _ (fun x hx => hok x (List.mem_of_mem_take hx)), List.length_take, Nat.min_eq_left hk]; exact Nat.le_refl _), List.nil_append]
  rw [e, ← List.length_drop] at h1
  exact h1
theorem Rd.headL {α : Type} {T : Ty α} {w : World} {S : Nat → Prop} {A : Option Addr} {xs : List α} (h : Rd w S T.sz A xs.length (xs.flatMap T.enc)) (hok : ∀ x ∈ xs, T.ok x) {k : Nat} (hk : k ≤ xs.length) :
    Rd w S T.sz A (xs.take k).length ((xs.take k).flatMap T.enc) := by
  have h1 := h.head hk
  have e : (xs.flatMap T.enc).take (k * T.sz) = (xs.take k).flatMap T.enc := by
    conv => lhs; rw [← List.take_append_drop k xs, List.flatMap_append]
    rw [List.take_append_of_le_length (by rw [flat_length T _ (fun x hx => hok x (List.mem_of_mem_take hx)), List.length_take, Nat.min_eq_left hk]; exact Nat.le_refl _), List.take_of_length_le (by rw [flat_length T _ (fun x hx => hok x (List.mem_of_mem_take hx)), List.length_take, Nat.min_eq_left hk]; exact Nat.le_refl _)]
  have hl : (xs.take k).length = k := by rw [List.length_take]; omega
  rw [e] at h1
  rw [hl]
  exact h1
/-- the first k of a list that is read -/
theorem RdL.head {α : Type} {T : Ty α} {w : World} {S : Nat → Prop} {A : Option Addr} {xs : List α} {cap : Nat} (h : RdL T w S (.slice A xs.length cap) xs) {k : Nat} (hk : k ≤ xs.length) : RdL T w S (.slice A k cap) (xs.take k) := by
  obtain ⟨A', cap', e, h1, h2, h3, h4⟩ := h
  injection e with e1 _ e3
  subst e1 e3
  have hl : (xs.take k).length = k := by rw [List.length_take]; omega
  exact ⟨A, cap, by rw [hl], by omega, by omega, h3.headL h4 hk, fun x hx => h4 x (List.mem_of_mem_take hx)⟩
theorem RdL.cut {α : Type} {T : Ty α} {w : World} {S : Nat → Prop} {A : Option Addr} {xs : List α} {cap : Nat} (h : RdL T w S (.slice A xs.length cap) xs) {k : Nat} (hk : k ≤ xs.length) :
    RdL T w S (.slice (if cap = k then A else A.map (·.add (k * T.sz))) (xs.length - k) (cap - k)) (xs.drop k) := by
  obtain ⟨A', cap', e, h1, h2, h3, h4⟩ := h
  injection e with e1 _ e3
  subst e1 e3
  exact ⟨_, cap - k, by rw [List.length_drop], by rw [List.length_drop]; omega, by rw [List.length_drop]; omega, h3.cutL h4 hk h1, fun x hx => h4 x (List.mem_of_mem_drop hx)⟩
end Go.Proofs.Ytdjclllnmclocaa
/- A name's place in a map: the reference and the program. No condition. -/
namespace Go.Proofs.Ytdjclllnmclocaa
open Go.RowKit
set_option linter.unusedVariables false
set_option linter.unusedSimpArgs false

theorem incs_get {L : List En} {n : Nat} (h : incs L n = true) (k : Nat) (hk : k < n) : incC L k = true := by
  rw [incs, List.all_eq_true] at h
  exact h k (List.mem_range.2 hk)
theorem incs_lt {L : List En} {n : Nat} (h : incs L n = true) (p q : Nat) (hpq : p < q) (hq : q < n) : ltB (gE L p).1 (gE L q).1 = true := by
  induction q with
  | zero => omega
  | succ q ih =>
    have h1 := incs_get h (q + 1) hq
    rw [incC] at h1
    simp only [Bool.and_eq_true, Bool.or_eq_true, Nat.add_sub_cancel] at h1
    have h2 : ltB (gE L q).1 (gE L (q + 1)).1 = true := by
      rcases h1.2 with h | h
      · simp at h
      · exact h
    by_cases e : p = q
    · subst e; exact h2
    · exact ltB_trans (ih (by omega) (by omega)) h2
/-- how many names come ahead -/
@[irreducible] def posE (L : List En) (s : ByteArray) : Nat := (L.takeWhile fun e => ltB e.1 s).length
theorem posE_eq (L : List En) (s : ByteArray) (i : Nat) (hi : i ≤ L.length) (h1 : ∀ p, p < i → ltB (gE L p).1 s = true) (h2 : i < L.length → ltB (gE L i).1 s = false) : posE L s = i := by
  rw [posE]
  induction L generalizing i with
  | nil => simp at hi; simp [hi]
  | cons e r ih =>
    cases i with
    | zero =>
      have := h2 (by simp)
      simp only [gE, List.getD_cons_zero] at this
      simp [List.takeWhile_cons, this]
    | succ i =>
      have h0 := h1 0 (by omega)
      simp only [gE, List.getD_cons_zero] at h0
      rw [List.takeWhile_cons, if_pos h0, List.length_cons, ih i (by simpa using hi) (fun p hp => by have := h1 (p + 1) (by omega); simpa [gE] using this) (fun h => by have := h2 (by simpa using h); simpa [gE] using this)]
theorem posE_of {L : List En} {s : ByteArray} (h : incs L L.length = true) (i : Nat) (hi : i ≤ L.length) (h1 : i = 0 ∨ ltB (gE L (i - 1)).1 s = true) (h2 : i = L.length ∨ ltB (gE L i).1 s = false) : posE L s = i := by
  refine posE_eq L s i hi (fun p hp => ?_) (fun hlt => ?_)
  · rcases h1 with rfl | h1
    · omega
    · by_cases e : p = i - 1
      · rw [e]; exact h1
      · exact ltB_trans (incs_lt h p (i - 1) (by omega) (by omega)) h1
  · rcases h2 with rfl | h2
    · omega
    · exact h2
theorem posE_hit {L : List En} {s : ByteArray} (h : incs L L.length = true) (k : Nat) (hk : k < L.length) (e : (gE L k).1 = s) : posE L s = k := by
  refine posE_eq L s k (by omega) (fun p hp => ?_) (fun _ => by rw [e]; exact ltB_irrefl s)
  rw [← e]
  exact incs_lt h p k hp hk
/-- is the name there? -/
@[irreducible] def hasE (L : List En) (s : ByteArray) : Bool := decide (posE L s < L.length ∧ (gE L (posE L s)).1 = s)
theorem hasE_eq (L : List En) (s : ByteArray) : hasE L s = decide (posE L s < L.length ∧ (gE L (posE L s)).1 = s) := by rw [hasE]
@[irreducible] def findI (L : List En) (s : ByteArray) : Int := if hasE L s then posE L s else -1
theorem findI_eq (L : List En) (s : ByteArray) : findI L s = if hasE L s then (posE L s : Int) else -1 := by rw [findI]
theorem findI_hit {L : List En} {s : ByteArray} (h : incs L L.length = true) (k : Nat) (hk : k < L.length) (e : (gE L k).1 = s) : findI L s = k := by
  have hp := posE_hit h k hk e
  rw [findI, hasE_eq, hp, decide_eq_true ⟨hk, e⟩]; rfl
theorem findI_miss {L : List En} {s : ByteArray} (h : ∀ p, p < L.length → (gE L p).1 ≠ s) : findI L s = -1 := by
  rw [findI, hasE_eq, decide_eq_false (fun q => h _ q.1 q.2)]; rfl
end Go.Proofs.Ytdjclllnmclocaa
/- The entries of a range: the reference. No condition. -/
namespace Go.Proofs.Ytdjclllnmclocaa
open Go.RowKit
set_option linter.unusedVariables false
set_option linter.unusedSimpArgs false

@[irreducible] def inR (lo hi : ByteArray) (e : En) : Bool := !ltB e.1 lo && ltB e.1 hi
theorem inR_eq (lo hi : ByteArray) (e : En) : inR lo hi e = (!ltB e.1 lo && ltB e.1 hi) := by rw [inR]
def rangeR (L : List En) (lo hi : ByteArray) : List En × Int := if okE L then (L.filter (inR lo hi), 0) else ([], 1)
theorem okE_incs' {L : List En} (h : okE L = true) : incs L L.length = true ∧ L.length ≤ 64 := by
  rw [okE_eq] at h
  simpa using h
theorem rd_ent (w : World) (e : En) (t : TypeId) : Rd (w.alloc (.cells #[.string e.1, .string e.2] t)) (fun g => g = w.heap.size) tEnt.sz (some ⟨w.heap.size, 0, none⟩) [e].length ([e].flatMap tEnt.enc) := by
  refine ⟨rfl, fun _ => ⟨_, 0, rfl, rfl, fun j u hu => ?_⟩⟩
  rw [Nat.zero_add, (Blk.new w t _).cell]
  simpa [tEnt] using hu
theorem filter_next (p : En → Bool) (L : List En) (k : Nat) (h : k < L.length) : (L.take (k + 1)).filter p = (L.take k).filter p ++ (if p L[k] then [L[k]] else []) := by
  rw [List.take_succ_eq_append_getElem h, List.filter_append]
  cases hp : p L[k] <;> simp [hp]
end Go.Proofs.Ytdjclllnmclocaa
/- Rows of entries, entry by entry: read out of an owned row, written, shut again. No condition. -/
namespace Go.Proofs.Ytdjclllnmclocaa
open Go.RowKit
set_option linter.unusedVariables false
set_option linter.unusedSimpArgs false

def AtE (cur : Array Value) (i : Nat) (e : En) : Prop := cur[i * 2]? = some (.string e.1) ∧ cur[i * 2 + 1]? = some (.string e.2)
theorem flat_ent (xs : List En) (i : Nat) (hi : i < xs.length) : (xs.flatMap tEnt.enc)[i * 2]? = some (.string xs[i].1) ∧ (xs.flatMap tEnt.enc)[i * 2 + 1]? = some (.string xs[i].2) := by
  induction xs generalizing i with
  | nil => simp at hi
  | cons x r ih =>
    cases i with
    | zero => exact ⟨rfl, rfl⟩
    | succ i =>
      simp only [List.length_cons] at hi
      have := ih i (by omega)
      rw [show (i + 1) * 2 = i * 2 + 1 + 1 by omega]
      exact this
theorem flat_len (xs : List En) : (xs.flatMap tEnt.enc).length = xs.length * 2 := by
  induction xs with
  | nil => rfl
  | cons x r ih => rw [List.flatMap_cons, List.length_append, ih, List.length_cons]; show 2 + _ = _; omega
theorem own_of_at {w : World} {g t cap base : Nat} {cur : Array Value} {xs : List En} (hb : Blk w g t cur) (hg : base ≤ g) (hs : cur.size = cap * 2) (hn : xs.length ≤ cap) (hc : cap ≤ maxLen) (hl : xs.length ≤ 140737488355328) (hok : ∀ x ∈ xs, tEnt.ok x) (hat : ∀ i (hi : i < xs.length), AtE cur i xs[i]) :
    Own tEnt t w base (.slice (some ⟨g, 0, none⟩) xs.length cap) xs := by
  refine ⟨⟨flat_len xs, .inr ⟨g, cap, cur, rfl, hg, hb, hn, hc, hs, ?_⟩⟩, hl, hok⟩
  apply List.ext_getElem?
  intro q
  show (List.take (xs.length * 2) cur.toList)[q]? = _
  by_cases hq : q < xs.length * 2
  · rw [List.getElem?_take_of_lt hq, Array.getElem?_toList]
    have hi : q / 2 < xs.length := by omega
    have h1 := hat _ hi
    have h2 := flat_ent xs _ hi
    rcases Nat.mod_two_eq_zero_or_one q with h0 | h0
    · rw [show q = q / 2 * 2 by omega, h1.1, h2.1]
    · rw [show q = q / 2 * 2 + 1 by omega, h1.2, h2.2]
  · rw [List.getElem?_eq_none (by simp; omega), List.getElem?_eq_none (by rw [flat_len]; omega)]
theorem at_of_own {w : World} {t base : Nat} {v : Value} {xs : List En} (h : Own tEnt t w base v xs) (h0 : 0 < xs.length) :
    ∃ g cap cur, v = .slice (some ⟨g, 0, none⟩) xs.length cap ∧ base ≤ g ∧ g < w.heap.size ∧ Blk w g t cur ∧ cur.size = cap * 2 ∧ xs.length ≤ cap ∧ cap ≤ maxLen ∧ ∀ i (hi : i < xs.length), AtE cur i xs[i] := by
  have hbl := h.base_le
  obtain ⟨⟨hl, hx⟩, h2, h3⟩ := h
  rcases hx with ⟨rfl, hz⟩ | ⟨g, cap, cur, rfl, hb, hg, hc, hm, hs, ht⟩
  · omega
  · refine ⟨g, cap, cur, rfl, hb, (hbl g rfl).2, hg, hs, hc, hm, fun i hi => ?_⟩
    have h2 := flat_ent xs i hi
    rw [← ht] at h2
    have hz : i * 2 + 1 < xs.length * tEnt.sz := by show i * 2 + 1 < xs.length * 2; omega
    rw [List.getElem?_take_of_lt (by omega), List.getElem?_take_of_lt hz, Array.getElem?_toList, Array.getElem?_toList] at h2
    exact h2
theorem splice_size (cur : Array Value) (o : Nat) (vs : List Value) (h : o + vs.length ≤ cur.size) : (splice cur o vs).size = cur.size := by
  unfold splice
  simp
  omega
theorem splice_out (cur : Array Value) (o : Nat) (vs : List Value) (h : o + vs.length ≤ cur.size) (q : Nat) (hq : q < o ∨ o + vs.length ≤ q) : (splice cur o vs)[q]? = cur[q]? := by
  unfold splice
  rw [List.getElem?_toArray, List.append_assoc]
  rcases hq with hq | hq
  · rw [List.getElem?_append_left (by simp; omega), List.getElem?_take_of_lt hq, Array.getElem?_toList]
  · rw [List.getElem?_append_right (by simp; omega), List.getElem?_append_right (by simp; omega), List.getElem?_drop, Array.getElem?_toList]
    congr 1
    simp
    omega
theorem splice_in (cur : Array Value) (o : Nat) (vs : List Value) (h : o + vs.length ≤ cur.size) (q : Nat) (hq : q < vs.length) : (splice cur o vs)[o + q]? = vs[q]? := by
  unfold splice
  rw [List.getElem?_toArray, List.append_assoc, List.getElem?_append_right (by simp; omega), List.getElem?_append_left (by simp; omega)]
  congr 1
  simp
  omega
theorem at_put (cur : Array Value) (i : Nat) (e : En) (h : i * 2 + 2 ≤ cur.size) : AtE (splice cur (i * 2) [.string e.1, .string e.2]) i e :=
  ⟨splice_in cur (i * 2) [.string e.1, .string e.2] h 0 (by simp), splice_in cur (i * 2) [.string e.1, .string e.2] h 1 (by simp)⟩
theorem at_far {cur : Array Value} {i p : Nat} {e f : En} (h : i * 2 + 2 ≤ cur.size) (hp : p ≠ i) (ha : AtE cur p f) : AtE (splice cur (i * 2) [.string e.1, .string e.2]) p f :=
  ⟨by rw [splice_out _ _ _ h _ (by simp; omega)]; exact ha.1, by rw [splice_out _ _ _ h _ (by simp; omega)]; exact ha.2⟩
theorem grown_row {w w' : World} {g : Nat} (h : w.grownBy w' (some g)) (cs : Array Value) : w.grownBy (w'.setRow g cs) (some g) :=
  grown_trans h ⟨rfl, rfl, rfl, by simp, fun k hk hne => setRow_other w' g k cs (fun e => hne (by rw [e]))⟩
theorem grown_cell {w w' : World} {g p : Nat} {u : Value} (h : w.grownBy w' (some g)) (hp : p ≠ g) (hc : w.cell? ⟨p, 0, none⟩ = some u) : w'.cell? ⟨p, 0, none⟩ = some u := by
  rw [← hc]
  exact World.cell?_of_block (h.block p (World.block_lt_of_cell? w _ hc) (fun e => hp (Option.some.inj e)))
end Go.Proofs.Ytdjclllnmclocaa
/- Steps of regions that make and fill variables; structs built of parts. No condition. -/
namespace Go.Proofs.Ytdjclllnmclocaa
open Go.RowKit
set_option linter.unusedVariables false
set_option linter.unusedSimpArgs false

section
variable {P : Program} {ops : Array Oper} {o : Oper} {a : Act} {w : World} {K : Act → World → Prop} {Q : Exit → Act → World → Prop} {E : Prop}
/-- a new variable: one step of a region -/
theorem stp_alloc {t : TypeId} (z : Array Value) (hz : (P.info? t).map (·.zero) = some (some (.agg z))) (hgd : o.guard = none) (ho : o.op = .alloc t)
    (h : K (a.put o.dst (.pointer (some ⟨w.heap.size, 0, none⟩))) (w.alloc (.cells z t))) : if Region.wanted o (yielded ops a.tmps) = true then Oper.wp P o a w K Q else E := by
  have hw : Region.wanted o (yielded ops a.tmps) = true := by simp [Region.wanted, hgd]
  rw [if_pos hw]
  cases hq : P.info? t with
  | none => simp [hq] at hz
  | some i =>
    have hz' : i.zero = some (.agg z) := by simpa [hq] using hz
    have hrun : (Instr.alloc t true (.tuple #[])).run P w = .ok (.pointer (some ⟨w.heap.size, 0, none⟩)) (w.alloc (.cells z t)) := by
      simp [Instr.alloc, zeroValue, typeInfo, hq, hz', newVar, newRow, Value.cells]
    unfold Oper.wp execOp
    simp only [ho, Sem.run_bind, hrun, Result.andThen_ok, Sem.run_pure]
    exact h
/-- a variable of a struct's type, made full: one step of a region -/
theorem stp_box {t : TypeId} {cs : Array Value} (hgd : o.guard = none) (x : Operand) (ho : o.op = .box t x) (hx : a.eval x = .agg cs)
    (h : K (a.put o.dst (.pointer (some ⟨w.heap.size, 0, none⟩))) (w.alloc (.cells cs t))) : if Region.wanted o (yielded ops a.tmps) = true then Oper.wp P o a w K Q else E := by
  have hw : Region.wanted o (yielded ops a.tmps) = true := by simp [Region.wanted, hgd]
  rw [if_pos hw]
  have hrun : (Instr.box t (.agg cs)).run P w = .ok (.pointer (some ⟨w.heap.size, 0, none⟩)) (w.alloc (.cells cs t)) := by
    simp [Instr.box, newVar, newRow, Value.cells]
  unfold Oper.wp execOp
  simp only [ho, hx, Sem.run_bind, hrun, Result.andThen_ok, Sem.run_pure]
  exact h
/-- a struct is stored: one step of a region -/
theorem stp_storeP {t g e n off : Nat} {cs cur : Array Value} (hb : Blk w g e cur) (ht : Agg P t n) (hs : St n cs) (hl : off + n ≤ cur.size) (hgd : o.guard = none) (x y : Operand) (ho : o.op = .store t x y)
    (hx : a.eval x = .pointer (some ⟨g, off, none⟩)) (hy : a.eval y = .agg cs) (hd : o.dst = none) (h : K a (w.setRow g (splice cur off cs.toList))) :
    if Region.wanted o (yielded ops a.tmps) = true then Oper.wp P o a w K Q else E := by
  have hw : Region.wanted o (yielded ops a.tmps) = true := by simp [Region.wanted, hgd]
  rw [if_pos hw]
  have hsz : cs.toList.length = n := by rw [Array.length_toList, hs.size]
  have hrun := run_storeCells_at P g off e cs.toList 0 cur w hb (by rw [hsz]; simpa using hl) hs.one
  simp only [Nat.add_zero] at hrun
  have ht2 := ht.2
  cases hq : P.info? t with
  | none => simp [hq] at ht2
  | some i =>
    have hs' : i.size = cs.toList.length := by rw [hsz]; simpa [hq] using ht2
    unfold Oper.wp execOp
    simp only [ho, hx, hy, Instr.storeAt, Instr.sureAddr, Sem.run_bind, Sem.run_pure, Result.andThen_ok]
    have hst : (storeVar t ⟨g, off, none⟩ (.agg cs)).run P w = .ok () (w.setRow g (splice cur off cs.toList)) := by
      simp only [storeVar, Sem.run_bind, sizeOf, typeInfo]
      simp only [Array.length_toList] at hs'
      simp [hq, hs', Value.cells, hrun, splice]
    rw [hst]
    simp only [Result.andThen_ok, Sem.run_pure]
    simpa [hd, Act.put, Oper.upon] using h
theorem yields_build {S : World → Prop} {t : TypeId} {parts : Array (Nat × Operand)} {cells : Array Value} (hw : Region.wanted o (yielded ops a.tmps) = true) (ho : o.op = .build t parts)
    (hb : P.built t (parts.toList.map fun p => (p.1, a.eval p.2)) = some cells) : YieldsIf P ops S o (.agg cells) a := Or.inl ⟨hw, fun W hW => by
  replace hb : P.built t (parts.map fun (i, x) => (i, a.eval x)).toList = some cells := by rw [Array.toList_map]; exact hb
  unfold execOp
  simp only [ho, Sem.run_bind, run_build (P := P) W t _ cells hb, Result.andThen_ok, Sem.run_pure]⟩
theorem wpl_buildN {rest : List Oper} {t : TypeId} {parts : Array (Nat × Operand)} {cells : Array Value} (hgd : o.guard = none) (ho : o.op = .build t parts)
    (hb : P.built t (parts.toList.map fun p => (p.1, a.eval p.2)) = some cells) (h : wpList P ops Q rest (a.put o.dst (.agg cells)) w) : wpList P ops Q (o :: rest) a w := by
  replace hb : P.built t (parts.map fun (i, x) => (i, a.eval x)).toList = some cells := by rw [Array.toList_map]; exact hb
  refine wpList_plain hgd fun K hK => ?_
  refine wp_build t parts ho (by rw [hb]; rfl) ?_
  rw [hb]
  exact hK _ _ h
end
theorem fill_at (l : List Value) (n off : Nat) (Z : Array Value) (h : off + n + l.length ≤ Z.size) : ((l.zipIdx n).foldl (fun cs x => cs.setIfInBounds (off + x.2) x.1) Z) = splice Z (off + n) l := by
  induction l generalizing n Z with
  | nil =>
    simp only [List.zipIdx_nil, List.foldl_nil, splice, List.length_nil, Nat.add_zero, List.append_nil, List.take_append_drop, Array.toArray_toList]
  | cons x r ih =>
    simp only [List.length_cons] at h
    simp only [List.zipIdx_cons, List.foldl_cons]
    rw [ih (n + 1) _ (by simp; omega)]
    have e := list_seg_step Z.toList (off + n) x r (by simp; omega)
    unfold splice
    rw [Array.toList_setIfInBounds, List.length_cons]
    rw [show off + (n + 1) = off + n + 1 by omega, e]
theorem fill_one (place : Nat → Option (Nat × Nat)) (Z : Array Value) (i off n : Nat) (v : Value) (rest : List (Nat × Value)) (hp : place i = some (off, n)) (hv : v.cells.size = n) (hl : off + n ≤ Z.size) :
    Instr.fill place Z ((i, v) :: rest) = Instr.fill place (splice Z off v.cells.toList) rest := by
  have hf := fill_at v.cells.toList 0 off Z (by rw [Array.length_toList, hv]; omega)
  have hz : v.cells.zipIdx.foldl (fun cs x => cs.setIfInBounds (off + x.2) x.1) Z = splice Z off v.cells.toList := by
    rw [← Array.foldl_toList, Array.toList_zipIdx]
    simpa using hf
  rw [Instr.fill, hp]
  simp only [hv]
  rw [if_neg (by simp; omega)]
  exact congrArg (fun z => Instr.fill place z rest) hz
def zNd : List Value := List.replicate 64 (Value.int .u8 0) ++ [Value.string ⟨#[]⟩, Value.string ⟨#[]⟩]
theorem fold_fillA (cs Z : Array Value) (n : Nat) (hn : cs.size = n) (h : Z.size = n) : Array.foldl (fun cs x => cs.setIfInBounds x.2 x.1) Z cs.zipIdx 0 n = cs := by
  subst hn
  have e := fold_fill cs.toList Z (by simpa using h)
  rw [← Array.toList_zipIdx, Array.foldl_toList] at e
  simpa using e
/-- a number and a whole array in a variable are the results -/
theorem results_tb {P : Program} {w : World} {fn : Func} {c d : Tmp} {t g e n : Nat} {cs : Array Value} (hr : fn.results = #[.tmp d, .cell c t]) (tmps : Array Value) (hp : tmps.getD c undef = .pointer (some ⟨g, 0, none⟩)) (ht : Agg P t n) (hn : cs.size = n) (hb : Blk w g e cs) {v : Value} (hv : tmps.getD d undef = v) :
    (results fn tmps).run P w = .ok (.tuple #[v, .agg cs]) w := by
  have hl := run_loadB (P := P) hb ht hn
  have hp' : tmps[c]?.getD undef = .pointer (some ⟨g, 0, none⟩) := by simpa using hp
  have hv' : tmps[d]?.getD undef = v := by simpa using hv
  simp [results, hr, hp', hv', asAddr, hl]
theorem rd_nd {w : World} {S : Nat → Prop} {A : Option Addr} {c n : Nat} {xs : List Nd} (h : RdL tNd w S (.slice A n c) xs) : Rd w S tNd.sz A xs.length (xs.flatMap tNd.enc) := by
  obtain ⟨A', cap, e, h1, h2, h3, h4⟩ := h
  injection e with e1 e2 e3
  subst e1
  exact h3
theorem ok_nd {w : World} {S : Nat → Prop} {v : Value} {xs : List Nd} (h : RdL tNd w S v xs) : ∀ y ∈ xs, tNd.ok y := by
  obtain ⟨A', cap, e, h1, h2, h3, h4⟩ := h
  exact h4
end Go.Proofs.Ytdjclllnmclocaa
/- Commits: copied, counted, held against each other. No condition. -/
namespace Go.Proofs.Ytdjclllnmclocaa
open Go.RowKit
set_option linter.unusedVariables false
set_option linter.unusedSimpArgs false

structure Cm where
  root : List Int
  par : List (List Int)
  num : Int
  note : ByteArray
def Cm.cells (x : Cm) (v : Value) : Array Value := (nums .u8 x.root ++ [v, .int .i64 x.num, .string x.note]).toArray
/-- the cells of a commit -/
def RCommit (w : World) (S : Nat → Prop) (cs : Array Value) (x : Cm) : Prop :=
  ∃ v, cs = x.cells v ∧ RdL tKey w S v x.par ∧ K32 x.root ∧ (Lit.int .i64 x.num).wf = true ∧ x.note.size ≤ 140737488351232
section
variable {w w' : World} {S : Nat → Prop} {cs : Array Value} {x : Cm}
theorem RCommit.ext (h : RCommit w S cs x) (e : Ext w w') : RCommit w' S cs x := by
  obtain ⟨v, h1, h2, h3⟩ := h
  exact ⟨v, h1, h2.ext (by decide) e, h3⟩
theorem Cm.st (hr : K32 x.root) (A : Option Addr) (n c : Nat) : St 35 (x.cells (.slice A n c)) := by
  refine ⟨by simp [Cm.cells, nums_length, hr.1], fun u hu => ?_⟩
  rw [Cm.cells, List.toList_toArray] at hu
  rcases List.mem_append.1 hu with hu | hu
  · exact one_nums _ _ u hu
  · simp at hu; rcases hu with rfl | rfl | rfl <;> rfl
theorem RCommit.st (h : RCommit w S cs x) : St 35 cs := by
  obtain ⟨v, rfl, ⟨A, cap, rfl, _⟩, h3, _⟩ := h
  exact Cm.st h3 _ _ _
theorem Cm.at_ (hr : K32 x.root) (v : Value) : (x.cells v)[32]? = some v ∧ (x.cells v)[33]? = some (.int .i64 x.num) ∧ (x.cells v)[34]? = some (.string x.note) := by
  have := hr.1
  refine ⟨?_, ?_, ?_⟩ <;> rw [Cm.cells, List.getElem?_toArray, List.getElem?_append_right (by rw [nums_length]; omega), nums_length, this] <;> rfl
theorem Cm.root_at (v : Value) (j : Nat) (u : Value) (hu : (numsA .u8 x.root)[j]? = some u) : (x.cells v)[0 + j]? = some u := by
  have hj : j < x.root.length := by have := (Array.getElem?_eq_some_iff.1 hu).1; simpa [numsA, nums] using this
  rw [Nat.zero_add, Cm.cells, List.getElem?_toArray, List.getElem?_append_left (by rw [nums_length]; exact hj)]
  simpa [numsA] using hu
end
theorem Own.setRow_below {α : Type} {T : Ty α} {e : TypeId} {w : World} {base g : Nat} {v : Value} {xs : List α} (h : Own T e w base v xs) (hg : g < base) (row : Array Value) : Own T e (w.setRow g row) base v xs :=
  h.kept (row := some g) ⟨rfl, rfl, rfl, by simp, fun k _ hk => setRow_other _ _ _ _ (fun e => hk (by rw [e]))⟩ (.inr fun e => by have := (h.base_le _ e).1; omega)
end Go.Proofs.Ytdjclllnmclocaa
/- Marks laid on lists of keys, and read. No condition. -/
namespace Go.Proofs.Ytdjclllnmclocaa
open Go.RowKit
set_option linter.unusedVariables false
set_option linter.unusedSimpArgs false

/-- the keys of v hold the marks m, m + 1, .. -/
def MarkedK (w : World) (S : Nat → Prop) (v : Value) (n : Nat) (m : Int) : Prop :=
  ∃ A cap, v = .slice A n cap ∧ n ≤ 140737488355328 ∧ (0 < n → ∃ g o, A = some ⟨g, o, none⟩ ∧ S g ∧ ∀ j, j < n * 32 → w.cell? ⟨g, o + j, none⟩ = some (.int .u8 ((m + j) % 256)))
theorem MarkedK.ext {w w' : World} {S : Nat → Prop} {v : Value} {n : Nat} {m : Int} (h : MarkedK w S v n m) (e : Ext w w') : MarkedK w' S v n m := by
  obtain ⟨A, cap, h1, h2, h3⟩ := h
  refine ⟨A, cap, h1, h2, fun hn => ?_⟩
  obtain ⟨g, o, h4, h5, h6⟩ := h3 hn
  exact ⟨g, o, h4, h5, fun j hj => e.cell (h6 j hj)⟩
theorem Own.far_of_lt {α : Type} {T : Ty α} {e : TypeId} {w : World} {base g : Nat} {v : Value} {xs : List α} (h : Own T e w base v xs) (hg : g < base) : some g ≠ v.ownBlock := fun e => by have := (h.base_le _ e.symm).1; omega
theorem Own.far_of_ge {α : Type} {T : Ty α} {e : TypeId} {w : World} {base g : Nat} {v : Value} {xs : List α} (h : Own T e w base v xs) (hg : w.heap.size ≤ g) : some g ≠ v.ownBlock := fun e => by have := (h.base_le _ e.symm).2; omega
end Go.Proofs.Ytdjclllnmclocaa
/- Data and keys that are drawn from a source; numbers out of bytes. No condition. -/
namespace Go.Proofs.Ytdjclllnmclocaa
open Go.RowKit
set_option linter.unusedVariables false
set_option linter.unusedSimpArgs false

theorem grownR {a b c : World} {row r2 : Option Nat} (h : a.grownBy b row) (hg : b.grownBy c r2) (hk : ∀ k, r2 = some k → a.heap.size ≤ k) : a.grownBy c row :=
  ⟨hg.os.trans h.os, hg.tape.trans h.tape, hg.output.trans h.output, Nat.le_trans h.size hg.size, fun i hi hn => (hg.block i (Nat.lt_of_lt_of_le hi h.size) (fun e => by have := hk i e.symm; omega)).trans (h.block i hi hn)⟩
theorem Own.ne_sA {α : Type} {T : Ty α} {e : TypeId} {w : World} {base : Nat} {v : Value} {xs : List α} {g : Nat} (h : Own T e w base v xs) (hg : g < base) : v.ownBlock = none ∨ v.ownBlock ≠ some g := by
  refine .inr fun q => ?_
  have := (h.base_le g q).1
  omega
theorem rowByteA : Row Try.prog tByte 22 5 1 := Row.mk' Try.underlying22 (.int .u8 0) (by kernel_rfl) rfl (by decide) (by decide)
theorem rowKeyA : Row Try.prog tKey 47 28 32 := Row.mk' Try.underlying47 (.agg (numsA .u8 (List.replicate 32 0))) (by kernel_rfl) rfl (by decide) (by decide)
theorem built_zeroA : Try.prog.built 28 [] = some (numsA .u8 (List.replicate 32 0)) := by kernel_rfl
theorem u8_in (x : Int) (h0 : 0 ≤ x) (h1 : x ≤ 255) : IntKind.u8.wrap x = x := by simp [IntKind.wrap, IntKind.bits, IntKind.signed]; omega
set_option maxHeartbeats 1000000 in
set_option maxRecDepth 100000 in
theorem a2Long_any (A A' : Option Addr) (n m c c' : Nat) (w : World) (b : Bool) (hb : (decide (3000 < n) || decide (3000 < m)) = b) :
    Calls Try.prog 8 #[.slice A n c, .slice A' m c'] w fun e w' => e = .returned (.bool b) ∧ w = w' := by
  by_cases h1 : 3000 < n
  · have h1' : (3000 : Int) < (n : Int) := by omega
    have e : b = true := by rw [← hb, decide_eq_true h1]; rfl
    subst e
    clear hb
    go_enter Try.func8, Try.ntmps8
    go_wp2
    go_ret
    exact ⟨rfl, rfl⟩
  · have h1' : ¬ (3000 : Int) < (n : Int) := by omega
    by_cases h2 : 3000 < m
    · have h2' : (3000 : Int) < (m : Int) := by omega
      have e : b = true := by rw [← hb, decide_eq_true h2]; simp
      subst e
      clear hb
      go_enter Try.func8, Try.ntmps8
      go_wp2
      go_ret
      exact ⟨rfl, rfl⟩
    · have h2' : ¬ (3000 : Int) < (m : Int) := by omega
      have e : b = false := by rw [← hb, decide_eq_false h1, decide_eq_false h2]; rfl
      subst e
      clear hb
      go_enter Try.func8, Try.ntmps8
      go_wp2
      go_ret
      exact ⟨rfl, rfl⟩
set_option maxHeartbeats 1000000 in
set_option maxRecDepth 100000 in
theorem a2At_any (v : Value) (xs : List Int) (i : Nat) (n : Int) (hn : n ≤ 4611686018427387904) (w : World) (S : Nat → Prop) (h : RdL tByte w S v xs) (hi : i ≤ 1000) :
    Calls Try.prog 11 #[v, .int .i64 i, .int .i64 n] w fun e w' => ∃ r : Int, e = .returned (.int .i64 r) ∧ 0 ≤ r ∧ (r < n ∨ r = 0) ∧ w = w' := by
  obtain ⟨A, cap, rfl, hcap, hlen, hrd, hok⟩ := h
  have hrd' : Rd w S 1 A xs.length (nums .u8 xs) := by rw [← flat_bytes]; exact hrd
  clear hrd
  by_cases h1 : i < xs.length
  · have h1' : ¬ (xs.length : Int) ≤ (i : Int) := by omega
    have h1'' : (i : Int) < (xs.length : Int) := by omega
    have hi0 : (0 : Int) ≤ (i : Int) := by omega
    by_cases h2 : n < 1
    · go_enter Try.func11, Try.ntmps11
      go_wp2
      go_ret
      exact ⟨0, rfl, by omega, .inr rfl, rfl⟩
    · obtain ⟨g, o, rfl, hs, hc⟩ := hrd'.byte i h1
      have hb := B8.get hok i
      have hn0 : ¬ n = 0 := by omega
      obtain ⟨z, hz⟩ : ∃ z, gI xs i = z := ⟨_, rfl⟩
      rw [hz] at hc hb
      have hw : IntKind.i64.wrap z = z := IntWalk.i64_in _ (by omega)
      have hm := Int.tmod_nonneg n (a := z) hb.1
      have hm2 := Int.tmod_lt_of_pos z (b := n) (by omega)
      clear hok hrd' hz
      go_enter Try.func11, Try.ntmps11
      go_wp2
      go_ret
      first
        | exact ⟨_, rfl, Int.emod_nonneg _ (by omega), .inl (Int.emod_lt_of_pos _ (by omega)), rfl⟩
        | exact ⟨_, rfl, hm, .inl hm2, rfl⟩
  · have h1' : (xs.length : Int) ≤ (i : Int) := by omega
    go_enter Try.func11, Try.ntmps11
    go_wp2
    go_ret
    exact ⟨0, rfl, by omega, .inr rfl, rfl⟩
set_option maxHeartbeats 1000000 in
set_option maxRecDepth 100000 in
theorem a2Join_any (v u : Value) (xs ys : List Int) (hl : xs.length + ys.length ≤ 1000000) (w : World) (S S' : Nat → Prop) (h : RdL tByte w S v xs) (h' : RdL tByte w S' u ys) :
    Calls Try.prog 9 #[v, u] w fun e w' => ∃ v', e = .returned v' ∧ Own tByte 5 w' w.heap.size v' (xs ++ ys) ∧ Ext w w' := by
  obtain ⟨A, cap, rfl, hcap, hlen, hrd, hok⟩ := h
  obtain ⟨A', cap', rfl, hcap', hlen', hrd', hok'⟩ := h'
  have H1 := Lib.hid hrd
  have H2 := Lib.hid hrd'
  have K1 := Lib.hid hok
  have K2 := Lib.hid hok'
  clear hrd hok hrd' hok'
  go_enter Try.func9, Try.ntmps9
  go_wp2_with (first
    | (at_builtin; refine wpl_append rowByteA rfl _ _ rfl rfl (Own.empty tByte w 5 w.heap.size (Nat.le_refl _)) _ _ rfl rfl (H1.out.ext (by decide) (ext_alloc _ _)) K1.out (by simp; omega) (by simp) ?_; intro v1 w1 ho1 hg1 hat1; obtain ⟨A1, n1, c1, rfl⟩ := ho1.shape3; have X1 := Lib.hid ((ext_alloc w _).grown hg1 (fun k hk => Nat.le_of_eq (Option.some.inj hk))); have HO := Lib.hid ho1; clear ho1 hg1 hat1)
    | (at_builtin; refine wpl_append rowByteA rfl _ _ rfl (v := .slice A1 n1 c1) rfl HO.out _ _ rfl rfl (H2.out.ext (by decide) X1.out) K2.out (by simp; omega) X1.out.size ?_; intro v2 w2 ho2 hg2 hat2; obtain ⟨A2, n2, c2, rfl⟩ := ho2.shape3; have X2 := Lib.hid (HO.out.ext_app X1.out hg2); have HO2 := Lib.hid ho2; clear ho2 hg2 hat2))
  go_ret
  exact ⟨_, rfl, by simpa using HO2.out, X2.out⟩
set_option maxHeartbeats 4000000 in
set_option maxRecDepth 100000 in
theorem l01Data_any (g : Nat) (b : Int) (hb : b ≤ 4611686018427380000) (most : Nat) (hm : most ≤ 100) (w : World) (h : Src w g b) :
    Calls Try.prog 45 #[.pointer (some ⟨g, 0, none⟩), .int .i64 most] w fun e w' => ∃ v' xs, e = .returned v' ∧ Own tByte 5 w' w.heap.size v' xs ∧ xs.length ≤ most ∧ Src w' g (b + 404) ∧ w.grownBy w' (some g) := by
  have hgl := h.lt
  have hm1 : (most : Int) + 1 ≤ 4611686018427387904 := by omega
  have hw1 : IntKind.i64.wrap ((most : Int) + 1) = (most : Int) + 1 := IntWalk.i64_in _ (by omega)
  go_enter Try.func45, Try.ntmps45
  go_wp2_with fail
  refine (srcOne_any g b (by omega) 2 (by omega) _ (h.ext (ext_alloc _ _))).mono ?_
  rintro e w1 ⟨few, rfl, hs, hg⟩
  have HO := Lib.hid ((Own.empty tByte w 5 w.heap.size (Nat.le_refl _)).kept hg ((Own.empty tByte w 5 w.heap.size (Nat.le_refl _)).ne_sA hgl))
  have HS := Lib.hid hs
  have HG := Lib.hid (grown_trans (ext_grown (some g) (ext_alloc w (Obj.cells #[] 5))) hg)
  clear hs hg h
  go_wp2_with fail
  refine (srcPick_any g (b + 2) (by omega) (most + 1) (by omega) _ HS.out).mono ?_
  rintro e w2 ⟨n, rfl, hn0, hn1, hs, hg⟩
  obtain ⟨n, rfl⟩ := Int.eq_ofNat_of_zero_le hn0
  have hn2 : n ≤ most := by omega
  replace HO := Lib.hid (HO.out.kept hg (HO.out.ne_sA hgl))
  replace HS := Lib.hid hs
  replace HG := Lib.hid (grown_trans HG.out hg)
  clear hs hg hw1
  go_wp2
  go_loopw [5, 7, 8] (fun a i _ wr => ∃ (k : Nat) (xs : List Int), k ≤ n ∧ i = .int .i64 k ∧ Own tByte 5 wr w.heap.size a xs ∧ xs.length + k ≤ most ∧ Src wr g (b + 4 + 4 * (n - k)) ∧ w.grownBy wr (some g)) (fun _ i _ _ => (intOf i).toNat)
  case atStart => exact ⟨n, [], by omega, rfl, HO.out, by simp; omega, HS.out.le (by omega), HG.out⟩
  case round =>
    obtain ⟨k, xs, hk, rfl, ho, hl, hs, hg⟩ := hrel
    obtain ⟨C, cn, cc, rfl⟩ := ho.shape3
    clear HO HS HG
    have HO := Lib.hid ho
    have HS := Lib.hid hs
    have HG := Lib.hid hg
    have HL := Lib.hid hl
    clear ho hs hg hl
    by_cases h0 : 0 < k
    · have hi : (0 : Int) < (k : Int) := by omega
      go_wp2_with fail
      refine (srcPick_any g _ (by omega) 256 (by omega) _ HS.out).mono ?_
      rintro e w3 ⟨x, rfl, hx0, hx1, hs, hg⟩
      have hx2 : x ≤ 255 := by omega
      replace HO := Lib.hid (HO.out.kept hg (HO.out.ne_sA hgl))
      replace HS := Lib.hid hs
      replace HG := Lib.hid (grown_trans HG.out hg)
      have hu := u8_in x hx0 hx2
      clear hs hg hx1
      cases few with
      | false =>
        have hxok : tByte.ok x := ⟨hx0, hx2⟩
        go_wp2_with (at_builtin; refine wpl_append rowByteA rfl _ _ rfl (v := .slice C cn cc) rfl (HO.out.alloc (.cells #[.int .u8 x] 5)) _ _ rfl (A := some ⟨w3.heap.size, 0, none⟩) (ys := [x]) rfl (rd_one (T := tByte) w3 x hxok _) (by intro y hy; obtain rfl := List.mem_singleton.1 hy; exact hxok) (by have := HL.out; simp; omega) (by have := HG.out.size; simp; omega) ?_; intro v5 w5 ho5 hg5 hat5; have HS5 := Lib.hid ((HS.out.ext (ext_alloc w3 (.cells #[.int .u8 x] 5))).later hg5 (fun q hq => Nat.lt_of_lt_of_le hgl (HO.out.base_le q hq).1)); have HG5 := Lib.hid (grownR (grown_ext HG.out (ext_alloc w3 (.cells #[.int .u8 x] 5))) hg5 (fun q hq => (HO.out.base_le q hq).1)); have HO5 := Lib.hid ho5; obtain ⟨C5, n5, c5, rfl⟩ := ho5.shape3; clear ho5 hg5 hat5)
        go_roundw
        case rel => exact ⟨k - 1, _, by omega, by go_num, HO5.out, by have := HL.out; simp; omega, HS5.out.le (by omega), HG5.out⟩
        case measure => simp [intOf]; omega
      | true =>
        go_wp2_with fail
        refine (srcPick_any g _ (by omega) 3 (by omega) _ HS.out).mono ?_
        rintro e w4 ⟨y, rfl, hy0, hy1, hs, hg⟩
        have hy2 : y ≤ 255 := by omega
        replace HO := Lib.hid (HO.out.kept hg (HO.out.ne_sA hgl))
        replace HS := Lib.hid hs
        replace HG := Lib.hid (grown_trans HG.out hg)
        have hu2 := u8_in y hy0 hy2
        have hxok : tByte.ok y := ⟨hy0, hy2⟩
        clear hs hg hy1 hu
        go_wp2_with (at_builtin; refine wpl_append rowByteA rfl _ _ rfl (v := .slice C cn cc) rfl (HO.out.alloc (.cells #[.int .u8 y] 5)) _ _ rfl (A := some ⟨w4.heap.size, 0, none⟩) (ys := [y]) rfl (rd_one (T := tByte) w4 y hxok _) (by intro q hq; obtain rfl := List.mem_singleton.1 hq; exact hxok) (by have := HL.out; simp; omega) (by have := HG.out.size; simp; omega) ?_; intro v5 w5 ho5 hg5 hat5; have HS5 := Lib.hid ((HS.out.ext (ext_alloc w4 (.cells #[.int .u8 y] 5))).later hg5 (fun q hq => Nat.lt_of_lt_of_le hgl (HO.out.base_le q hq).1)); have HG5 := Lib.hid (grownR (grown_ext HG.out (ext_alloc w4 (.cells #[.int .u8 y] 5))) hg5 (fun q hq => (HO.out.base_le q hq).1)); have HO5 := Lib.hid ho5; obtain ⟨C5, n5, c5, rfl⟩ := ho5.shape3; clear ho5 hg5 hat5)
        go_roundw
        case rel => exact ⟨k - 1, _, by omega, by go_num, HO5.out, by have := HL.out; simp; omega, HS5.out.le (by omega), HG5.out⟩
        case measure => simp [intOf]; omega
    · obtain rfl : k = 0 := by omega
      go_wp2
      go_ret
      exact ⟨_, xs, rfl, HO.out, by have := HL.out; omega, HS.out.le (by omega), HG.out⟩
set_option maxHeartbeats 1000000 in
set_option maxRecDepth 100000 in
theorem a2Data_any (v : Value) (code : List Int) (most : Nat) (hm : most ≤ 100) (w : World) (S : Nat → Prop) (h : RdL tByte w S v code) :
    Calls Try.prog 10 #[v, .int .i64 most] w fun e w' => ∃ v' xs, e = .returned v' ∧ Own tByte 5 w' w.heap.size v' xs ∧ xs.length ≤ most ∧ Ext w w' := by
  obtain ⟨A, cap, rfl, _⟩ := id h
  go_enter Try.func10, Try.ntmps10
  go_wp2_with fail
  refine (l00From_any _ code _ _ h).mono ?_
  rintro e w1 ⟨rfl, hs, hx⟩
  go_wp2_with fail
  refine (l01Data_any _ 0 (by decide) most hm _ hs).mono ?_
  rintro e w2 ⟨v2, xs, rfl, ho, hl, _, hg⟩
  obtain ⟨A2, n2, c2, rfl⟩ := ho.shape3
  have HX := Lib.hid (hx.grown hg (fun k e => by injection e with e; omega))
  have HO := Lib.hid (ho.le hx.size)
  clear ho hg hs hx
  go_wp2
  go_ret
  exact ⟨_, xs, rfl, HO.out, hl, HX.out⟩
end Go.Proofs.Ytdjclllnmclocaa
/- Slices whose elements hold slices themselves: how they read. No condition. -/
namespace Go.Proofs.Ytdjclllnmclocaa
open Go.RowKit
set_option linter.unusedVariables false
set_option linter.unusedSimpArgs false

/-- how the cells of an element read -/
structure NR (α : Type) where
  sz : Nat
  R : World → (Nat → Prop) → Array Value → α → Prop
  pos : 0 < sz
  keep : ∀ {w w' : World} {S : Nat → Prop} {cs : Array Value} {x : α}, R w S cs x → (∀ g, S g → w'.heap[g]? = w.heap[g]?) → R w' S cs x
  ext : ∀ {w w' : World} {S : Nat → Prop} {cs : Array Value} {x : α}, R w S cs x → Ext w w' → R w' S cs x
  mono : ∀ {w : World} {S S' : Nat → Prop} {cs : Array Value} {x : α}, R w S cs x → (∀ g, S g → S' g) → R w S' cs x
  st : ∀ {w : World} {S : Nat → Prop} {cs : Array Value} {x : α}, R w S cs x → St sz cs
/-- the value v is a slice whose elements read as xs -/
def RdN {α : Type} (N : NR α) (w : World) (S : Nat → Prop) (v : Value) (xs : List α) : Prop :=
  ∃ A cap, v = .slice A xs.length cap ∧ xs.length ≤ cap ∧ xs.length ≤ 140737488355328 ∧
    (0 < xs.length → ∃ g o, A = some ⟨g, o, none⟩ ∧ S g ∧ ∀ i (h : i < xs.length), ∃ es : List Value, es.length = N.sz ∧ (∀ j u, es[j]? = some u → w.cell? ⟨g, o + i * N.sz + j, none⟩ = some u) ∧ N.R w S es.toArray xs[i])
section
variable {α : Type} {N : NR α} {w w' : World} {S S' : Nat → Prop} {v : Value} {xs : List α}
theorem RdN.ext (h : RdN N w S v xs) (e : Ext w w') : RdN N w' S v xs := by
  obtain ⟨A, cap, h1, h2, h3, h4⟩ := h
  refine ⟨A, cap, h1, h2, h3, fun hn => ?_⟩
  obtain ⟨g, o, h5, h6, h7⟩ := h4 hn
  refine ⟨g, o, h5, h6, fun i hi => ?_⟩
  obtain ⟨es, h8, h9, h10⟩ := h7 i hi
  exact ⟨es, h8, fun j u hu => e.cell (h9 j u hu), N.ext h10 e⟩
theorem RdN.keep (h : RdN N w S v xs) (e : ∀ g, S g → w'.heap[g]? = w.heap[g]?) : RdN N w' S v xs := by
  obtain ⟨A, cap, h1, h2, h3, h4⟩ := h
  refine ⟨A, cap, h1, h2, h3, fun hn => ?_⟩
  obtain ⟨g, o, h5, h6, h7⟩ := h4 hn
  refine ⟨g, o, h5, h6, fun i hi => ?_⟩
  obtain ⟨es, h8, h9, h10⟩ := h7 i hi
  exact ⟨es, h8, fun j u hu => (World.cell?_of_block (w := w) (e g h6)).trans (h9 j u hu), N.keep h10 e⟩
theorem RdN.far (h : RdN N w S v xs) {p : Addr} (hp : ∀ g, S g → g ≠ p.block) (u : Value) : RdN N (w.setCell p u) S v xs := h.keep fun g hg => Below.heap_setCell w p u g (hp g hg)
theorem RdN.mono (h : RdN N w S v xs) (e : ∀ g, S g → S' g) : RdN N w S' v xs := by
  obtain ⟨A, cap, h1, h2, h3, h4⟩ := h
  refine ⟨A, cap, h1, h2, h3, fun hn => ?_⟩
  obtain ⟨g, o, h5, h6, h7⟩ := h4 hn
  refine ⟨g, o, h5, e g h6, fun i hi => ?_⟩
  obtain ⟨es, h8, h9, h10⟩ := h7 i hi
  exact ⟨es, h8, h9, N.mono h10 e⟩
theorem RdN.shape (h : RdN N w S v xs) : ∃ A cap, v = .slice A xs.length cap ∧ xs.length ≤ cap ∧ xs.length ≤ 140737488355328 := by
  obtain ⟨A, cap, h1, h2, h3, _⟩ := h
  exact ⟨A, cap, h1, h2, h3⟩
/-- element i -/
theorem RdN.elem {A : Option Addr} {cap : Nat} (h : RdN N w S (.slice A xs.length cap) xs) (i : Nat) (hi : i < xs.length) :
    ∃ g o, A = some ⟨g, o, none⟩ ∧ S g ∧ ∃ es : List Value, es.length = N.sz ∧ (∀ j u, es[j]? = some u → w.cell? ⟨g, o + i * N.sz + j, none⟩ = some u) ∧ N.R w S es.toArray xs[i] := by
  obtain ⟨A', cap', h1, h2, h3, h4⟩ := h
  injection h1 with h1 _ _
  subst h1
  obtain ⟨g, o, h5, h6, h7⟩ := h4 (by omega)
  exact ⟨g, o, h5, h6, h7 i hi⟩
theorem RdN.nil (N : NR α) (w : World) (S : Nat → Prop) : RdN N w S (.slice none 0 0) [] := ⟨none, 0, rfl, Nat.le_refl _, by simp, fun h => absurd h (by simp)⟩
end
theorem flatN_at {sz : Nat} (CS : List (List Value)) (h : ∀ es ∈ CS, es.length = sz) (i : Nat) (es : List Value) (hi : CS[i]? = some es) (j : Nat) (hj : j < sz) : CS.flatten[i * sz + j]? = es[j]? := by
  induction CS generalizing i with
  | nil => simp at hi
  | cons x r ih =>
    have hl := h x (by simp)
    cases i with
    | zero =>
      simp at hi
      subst hi
      simp only [Nat.zero_mul, Nat.zero_add, List.flatten_cons]
      rw [List.getElem?_append_left (by omega)]
    | succ i =>
      simp only [List.flatten_cons]
      rw [List.getElem?_append_right (by rw [hl, Nat.add_mul]; omega), hl, ← ih (fun y hy => h y (by simp [hy])) i (by simpa using hi)]
      congr 1
      rw [Nat.add_mul]
      omega
theorem flatN_length {sz : Nat} (CS : List (List Value)) (h : ∀ es ∈ CS, es.length = sz) : CS.flatten.length = CS.length * sz := by
  induction CS with
  | nil => simp
  | cons x r ih =>
    simp only [List.flatten_cons, List.length_append, List.length_cons, h x (by simp), ih (fun y hy => h y (by simp [hy])), Nat.add_mul]
    omega
/-- the first of the elements of a row have been filled in -/
structure FillN {α : Type} (N : NR α) (w : World) (g e : Nat) (S : Nat → Prop) (xs : List α) (CS : List (List Value)) (m : Nat) : Prop where
  fill : Fill w g e CS.flatten m
  rel : ∀ (i : Nat) (es : List Value) (x : α), CS[i]? = some es → xs[i]? = some x → es.length = N.sz ∧ N.R w S es.toArray x
  lens : ∀ es ∈ CS, es.length = N.sz
section
variable {α : Type} {N : NR α} {w w' : World} {g e m : Nat} {S : Nat → Prop} {xs : List α} {CS : List (List Value)}
theorem FillN.ext (h : FillN N w g e S xs CS m) (x : Ext w w') : FillN N w' g e S xs CS m := ⟨h.fill.ext x, fun i es y h1 h2 => ⟨(h.rel i es y h1 h2).1, N.ext (h.rel i es y h1 h2).2 x⟩, h.lens⟩
theorem FillN.next (h : FillN N w g e S xs CS m) {cs : Array Value} {x : α} {m' : Nat} (hx : xs[CS.length]? = some x) (hR : N.R w S cs x) (hS : ∀ q, S q → q ≠ g) (row : Array Value) (hf : Fill (w.setRow g row) g e (CS.flatten ++ cs.toList) m') : FillN N (w.setRow g row) g e S xs (CS ++ [cs.toList]) m' := by
  have keep : ∀ q, S q → (w.setRow g row).heap[q]? = w.heap[q]? := fun q hq => setRow_other w g q row (hS q hq)
  have hsz := (N.st hR).size
  refine ⟨by simpa using hf, fun i es y h1 h2 => ?_, fun es hes => ?_⟩
  · rcases Nat.lt_trichotomy i CS.length with hlt | rfl | hgt
    · rw [List.getElem?_append_left hlt] at h1
      obtain ⟨h3, h4⟩ := h.rel i es y h1 h2
      exact ⟨h3, N.keep h4 keep⟩
    · rw [hx] at h2
      injection h2 with h2
      subst h2
      rw [List.getElem?_append_right (Nat.le_refl _), Nat.sub_self] at h1
      simp at h1
      subst h1
      exact ⟨by rw [Array.length_toList, hsz], by simpa using N.keep hR keep⟩
    · rw [List.getElem?_eq_none (by simp; omega)] at h1
      cases h1
  · rcases List.mem_append.1 hes with hes | hes
    · exact h.lens es hes
    · simp at hes; subst hes; rw [Array.length_toList, hsz]
theorem FillN.done (h : FillN N w g e S xs CS 0) (hl : CS.length = xs.length) (h47 : xs.length ≤ 140737488355328) (S' : Nat → Prop) (hS : ∀ q, S q → S' q) (hg : S' g) : RdN N w S' (.slice (some ⟨g, 0, none⟩) xs.length xs.length) xs := by
  refine ⟨_, _, rfl, Nat.le_refl _, h47, fun hn => ⟨g, 0, rfl, hg, fun i hi => ?_⟩⟩
  have hi' : i < CS.length := by omega
  obtain ⟨h1, h2⟩ := h.rel i CS[i] xs[i] (List.getElem?_eq_getElem hi') (List.getElem?_eq_getElem hi)
  refine ⟨CS[i], h1, fun j u hu => ?_, N.mono h2 hS⟩
  have hj : j < N.sz := by rw [← h1]; exact (List.getElem?_eq_some_iff.1 hu).1
  rw [Nat.zero_add, h.fill.done.cell, List.getElem?_toArray, flatN_at CS h.lens i _ (List.getElem?_eq_getElem hi') j hj, hu]
end
/-- a whole struct or array is stored into the variable that has just been made, its place as the walk shows it -/
theorem wpl_storeNewG {P : Program} {ops : Array Oper} {rest : List Oper} {o : Oper} {a : Act} {w : World} {Q : Exit → Act → World → Prop} {t e n g : Nat} {cs cur : Array Value} (hg : w.heap.size = g) (ht : Agg P t n) (hs : St n cs) (hl : cur.size = n) (hgd : o.guard = none) (x y : Operand) (ho : o.op = .store t x y) (hx : a.eval x = .pointer (some ⟨g, 0, none⟩))
    (hy : a.eval y = .agg cs) (hd : o.dst = none) (h : wpList P ops Q rest a (w.alloc (.cells cs e))) : wpList P ops Q (o :: rest) a (w.alloc (.cells cur e)) := by
  subst hg
  exact wpl_storeNewB ht hs hl hgd x y ho hx hy hd h
/-- all elements of two lists are the same -/
def allSame {α : Type} (f : α → α → Bool) : List α → List α → Bool
  | [], [] => true
  | x :: xs, y :: ys => f x y && allSame f xs ys
  | _, _ => false
theorem allSame_len {α : Type} {f : α → α → Bool} : ∀ {xs ys : List α}, xs.length ≠ ys.length → allSame f xs ys = false
  | [], [], h => absurd rfl h
  | [], y :: ys, _ => rfl
  | x :: xs, [], _ => rfl
  | x :: xs, y :: ys, h => by
    rw [allSame, allSame_len (fun e => h (by simp [e]))]
    simp
theorem allSame_yes {α : Type} {f : α → α → Bool} : ∀ {xs ys : List α}, xs.length = ys.length → (∀ i (h : i < xs.length) (h' : i < ys.length), f xs[i] ys[i] = true) → allSame f xs ys = true
  | [], [], _, _ => rfl
  | x :: xs, y :: ys, h, k => by
    rw [allSame, allSame_yes (by simpa using h) (fun i h1 h2 => by have := k (i + 1) (by simpa using h1) (by simpa using h2); simpa using this)]
    have := k 0 (by simp) (by simp)
    simpa using this
theorem allSame_no {α : Type} {f : α → α → Bool} : ∀ {xs ys : List α} (i : Nat) (h : i < xs.length) (h' : i < ys.length), f xs[i] ys[i] = false → allSame f xs ys = false
  | x :: xs, y :: ys, 0, _, _, k => by
    rw [allSame]
    have : f x y = false := by simpa using k
    rw [this]
    rfl
  | x :: xs, y :: ys, i + 1, h, h', k => by
    rw [allSame, allSame_no i (by simpa using h) (by simpa using h') (by simpa using k)]
    simp
/-- what the elements weigh, the first k of them -/
def sumW {α : Type} (f : α → Nat) (l : List α) (k : Nat) : Nat := ((l.take k).map f).sum
theorem sumW_zero {α : Type} (f : α → Nat) (l : List α) : sumW f l 0 = 0 := by simp [sumW]
theorem sumW_succ {α : Type} (f : α → Nat) (l : List α) (k : Nat) (h : k < l.length) : sumW f l (k + 1) = sumW f l k + f l[k] := by
  unfold sumW
  rw [List.take_succ_eq_append_getElem h, List.map_append, List.sum_append]; simp
theorem sumW_le {α : Type} (f : α → Nat) (l : List α) (k : Nat) : sumW f l k ≤ (l.map f).sum := by
  unfold sumW
  conv => rhs; rw [← List.take_append_drop k l, List.map_append, List.sum_append]
  omega
theorem sumW_mem {α : Type} (f : α → Nat) (l : List α) (x : α) (h : x ∈ l) : f x ≤ (l.map f).sum := by
  induction l with
  | nil => cases h
  | cons y r ih =>
    simp only [List.map_cons, List.sum_cons]
    rcases List.mem_cons.1 h with rfl | h
    · omega
    · have := ih h; omega
/-- how much a list takes -/
@[irreducible] def szW {α : Type} (f : α → Nat) (l : List α) : Nat := l.length + (l.map f).sum
theorem szW_eq {α : Type} (f : α → Nat) (l : List α) : szW f l = l.length + (l.map f).sum := by rw [szW]
theorem szW_mem {α : Type} (f : α → Nat) (l : List α) (x : α) (h : x ∈ l) : f x ≤ szW f l := by rw [szW_eq]; have := sumW_mem f l x h; omega
end Go.Proofs.Ytdjclllnmclocaa
/- Lists of keys as trees: their keys, proofs of their leaves, their peaks. Plain. No condition. -/
namespace Go.Proofs.Ytdjclllnmclocaa
open Go.RowKit
set_option linter.unusedVariables false
set_option linter.unusedSimpArgs false

/-- the key of a node -/
@[irreducible] def ndK (a b : List Int) : List Int := hashL 2 (a ++ b)
theorem ndK_eq (a b : List Int) : ndK a b = hashL 2 (a ++ b) := by rw [ndK]
theorem ndK_ok (a b : List Int) : K32 (ndK a b) := by rw [ndK_eq]; exact hashL_ok _ _
/-- how many leaves are on the left -/
@[irreducible] def half (n : Nat) : Nat := 2 ^ Nat.log2 (n - 1)
theorem half_eq (n : Nat) : half n = 2 ^ Nat.log2 (n - 1) := by rw [half]
theorem half_lt {n : Nat} (h : 2 ≤ n) : 0 < half n ∧ half n < n ∧ n ≤ 2 * half n := by
  rw [half_eq]
  have h1 := Nat.log2_self_le (n := n - 1) (by omega)
  have h2 := Nat.lt_log2_self (n := n - 1)
  have h3 : 0 < 2 ^ Nat.log2 (n - 1) := Nat.two_pow_pos _
  rw [Nat.pow_succ] at h2
  omega
def lkF : Nat → List (List Int) → List Int
  | 0, _ => hashL 3 []
  | f + 1, xs => if xs.length = 0 then hashL 3 [] else if xs.length = 1 then xs.headD [] else ndK (lkF f (xs.take (half xs.length))) (lkF f (xs.drop (half xs.length)))
theorem lkF_more : ∀ (f g : Nat) (xs : List (List Int)), xs.length ≤ f → xs.length ≤ g → lkF f xs = lkF g xs
  | 0, 0, _, _, _ => rfl
  | 0, g + 1, xs, h, _ => by rw [lkF, lkF, if_pos (by omega)]
  | f + 1, 0, xs, _, h => by rw [lkF, lkF, if_pos (by omega)]
  | f + 1, g + 1, xs, h1, h2 => by
    rw [lkF, lkF]
    by_cases h0 : xs.length = 0
    · rw [if_pos h0, if_pos h0]
    rw [if_neg h0, if_neg h0]
    by_cases h3 : xs.length = 1
    · rw [if_pos h3, if_pos h3]
    rw [if_neg h3, if_neg h3]
    have h4 := half_lt (n := xs.length) (by omega)
    rw [lkF_more f g (xs.take (half xs.length)) (by rw [List.length_take]; omega) (by rw [List.length_take]; omega), lkF_more f g (xs.drop (half xs.length)) (by rw [List.length_drop]; omega) (by rw [List.length_drop]; omega)]
/-- the key of a list -/
@[irreducible] def lk (xs : List (List Int)) : List Int := lkF xs.length xs
theorem lk_nil : lk [] = hashL 3 [] := by rw [lk]; rfl
theorem lk_one {xs : List (List Int)} (h : xs.length = 1) : lk xs = xs[0]'(by omega) := by
  have e : lk xs = lkF 1 xs := by rw [lk, h]
  rw [e, lkF, if_neg (by omega), if_pos h]
  cases xs with
  | nil => simp at h
  | cons x r => rfl
theorem lk_step {xs : List (List Int)} (h : 2 ≤ xs.length) : lk xs = ndK (lk (xs.take (half xs.length))) (lk (xs.drop (half xs.length))) := by
  have h4 := half_lt h
  rw [lk, lk, lk]
  obtain ⟨f, hf⟩ : ∃ f, xs.length = f + 1 := ⟨xs.length - 1, by omega⟩
  conv => lhs; rw [hf]
  rw [lkF, if_neg (by omega), if_neg (by omega)]
  rw [lkF_more f (xs.take (half xs.length)).length _ (by rw [List.length_take]; omega) (Nat.le_refl _), lkF_more f (xs.drop (half xs.length)).length _ (by rw [List.length_drop]; omega) (Nat.le_refl _)]
theorem lk_ok {xs : List (List Int)} (h : ∀ x ∈ xs, K32 x) : K32 (lk xs) := by
  by_cases h0 : xs.length = 0
  · rw [List.eq_nil_of_length_eq_zero h0, lk_nil]; exact hashL_ok _ _
  by_cases h1 : xs.length = 1
  · rw [lk_one h1]; exact h _ (List.getElem_mem _)
  rw [lk_step (by omega)]; exact ndK_ok _ _

/-! ### The proof of a leaf -/
def prfF : Nat → List (List Int) → Nat → List (List Int)
  | 0, _, _ => []
  | f + 1, xs, i => if xs.length ≤ 1 then [] else if i < half xs.length then prfF f (xs.take (half xs.length)) i ++ [lk (xs.drop (half xs.length))] else prfF f (xs.drop (half xs.length)) (i - half xs.length) ++ [lk (xs.take (half xs.length))]
theorem prfF_more : ∀ (f g : Nat) (xs : List (List Int)) (i : Nat), xs.length ≤ f + 1 → xs.length ≤ g + 1 → prfF f xs i = prfF g xs i
  | 0, 0, _, _, _, _ => rfl
  | 0, g + 1, xs, i, h, _ => by rw [prfF, prfF, if_pos (by omega)]
  | f + 1, 0, xs, i, _, h => by rw [prfF, prfF, if_pos (by omega)]
  | f + 1, g + 1, xs, i, h1, h2 => by
    rw [prfF, prfF]
    by_cases h0 : xs.length ≤ 1
    · rw [if_pos h0, if_pos h0]
    rw [if_neg h0, if_neg h0]
    have h4 := half_lt (n := xs.length) (by omega)
    rw [prfF_more f g (xs.take (half xs.length)) i (by rw [List.length_take]; omega) (by rw [List.length_take]; omega), prfF_more f g (xs.drop (half xs.length)) _ (by rw [List.length_drop]; omega) (by rw [List.length_drop]; omega)]
@[irreducible] def prf (xs : List (List Int)) (i : Nat) : List (List Int) := prfF xs.length xs i
theorem prf_one {xs : List (List Int)} (h : xs.length ≤ 1) (i : Nat) : prf xs i = [] := by
  rw [prf]
  cases hx : xs.length with
  | zero => rfl
  | succ f => rw [prfF, if_pos h]
theorem prf_step {xs : List (List Int)} (h : 2 ≤ xs.length) (i : Nat) : prf xs i = if i < half xs.length then prf (xs.take (half xs.length)) i ++ [lk (xs.drop (half xs.length))] else prf (xs.drop (half xs.length)) (i - half xs.length) ++ [lk (xs.take (half xs.length))] := by
  have h4 := half_lt h
  rw [prf, prf, prf]
  obtain ⟨f, hf⟩ : ∃ f, xs.length = f + 1 := ⟨xs.length - 1, by omega⟩
  conv => lhs; rw [hf]
  rw [prfF, if_neg (by omega)]
  rw [prfF_more f (xs.take (half xs.length)).length _ i (by rw [List.length_take]; omega) (by omega), prfF_more f (xs.drop (half xs.length)).length _ _ (by rw [List.length_drop]; omega) (by omega)]
theorem prf_all {xs : List (List Int)} (hk : ∀ x ∈ xs, K32 x) : ∀ (n : Nat) (ys : List (List Int)) (i : Nat), ys.length ≤ n → (∀ x ∈ ys, K32 x) → (∀ k ∈ prf ys i, K32 k) ∧ (prf ys i).length ≤ n
  | 0, ys, i, h, _ => by rw [prf_one (by omega)]; simp
  | n + 1, ys, i, h, hy => by
    by_cases h1 : ys.length ≤ 1
    · rw [prf_one h1]; simp
    have h4 := half_lt (n := ys.length) (by omega)
    rw [prf_step (by omega)]
    have ha := prf_all hk n (ys.take (half ys.length)) i (by rw [List.length_take]; omega) (fun x hx => hy x (List.mem_of_mem_take hx))
    have hb := prf_all hk n (ys.drop (half ys.length)) (i - half ys.length) (by rw [List.length_drop]; omega) (fun x hx => hy x (List.mem_of_mem_drop hx))
    have ka := lk_ok (xs := ys.take (half ys.length)) (fun x hx => hy x (List.mem_of_mem_take hx))
    have kb := lk_ok (xs := ys.drop (half ys.length)) (fun x hx => hy x (List.mem_of_mem_drop hx))
    split
    · refine ⟨fun k hk => ?_, by rw [List.length_append]; simp; omega⟩
      rcases List.mem_append.1 hk with h | h
      · exact ha.1 k h
      · rw [List.mem_singleton] at h; rw [h]; exact kb
    · refine ⟨fun k hk => ?_, by rw [List.length_append]; simp; omega⟩
      rcases List.mem_append.1 hk with h | h
      · exact hb.1 k h
      · rw [List.mem_singleton] at h; rw [h]; exact ka
theorem prf_ok {xs : List (List Int)} (h : ∀ x ∈ xs, K32 x) (i : Nat) : ∀ k ∈ prf xs i, K32 k := (prf_all h _ xs i (Nat.le_refl _) h).1
theorem prf_le {xs : List (List Int)} (h : ∀ x ∈ xs, K32 x) (i : Nat) : (prf xs i).length ≤ xs.length := (prf_all h _ xs i (Nat.le_refl _) h).2
/-- on which sides a leaf stands, from the root down -/
def sdF : Nat → Nat → Nat → List Bool
  | 0, _, _ => []
  | f + 1, n, i => if n ≤ 1 then [] else if half n ≤ i then true :: sdF f (n - half n) (i - half n) else false :: sdF f (half n) i
theorem sdF_more : ∀ (f g n i : Nat), n ≤ f + 1 → n ≤ g + 1 → sdF f n i = sdF g n i
  | 0, 0, _, _, _, _ => rfl
  | 0, g + 1, n, i, h, _ => by rw [sdF, sdF, if_pos (by omega)]
  | f + 1, 0, n, i, _, h => by rw [sdF, sdF, if_pos (by omega)]
  | f + 1, g + 1, n, i, h1, h2 => by
    rw [sdF, sdF]
    by_cases h0 : n ≤ 1
    · rw [if_pos h0, if_pos h0]
    rw [if_neg h0, if_neg h0]
    have h4 := half_lt (n := n) (by omega)
    rw [sdF_more f g (n - half n) _ (by omega) (by omega), sdF_more f g (half n) _ (by omega) (by omega)]
@[irreducible] def sd (n i : Nat) : List Bool := sdF n n i
theorem sd_one {n : Nat} (h : n ≤ 1) (i : Nat) : sd n i = [] := by
  rw [sd]
  cases n with
  | zero => rfl
  | succ f => rw [sdF, if_pos h]
theorem sd_step {n : Nat} (h : 2 ≤ n) (i : Nat) : sd n i = if half n ≤ i then true :: sd (n - half n) (i - half n) else false :: sd (half n) i := by
  have h4 := half_lt h
  rw [sd, sd, sd]
  obtain ⟨f, rfl⟩ : ∃ f, n = f + 1 := ⟨n - 1, by omega⟩
  rw [sdF, if_neg (by omega)]
  rw [sdF_more f (f + 1 - half (f + 1)) _ _ (by omega) (by omega), sdF_more f (half (f + 1)) _ _ (by omega) (by omega)]
/-- what a leaf and a proof lead to -/
def chk : List Int → List (List Int) → List Bool → List Int
  | a, k :: ks, b :: bs => chk (if b then ndK k a else ndK a k) ks bs
  | a, _, _ => a
theorem chk_snoc : ∀ (ks : List (List Int)) (bs : List Bool) (a k : List Int) (b : Bool), ks.length = bs.length → chk a (ks ++ [k]) (bs ++ [b]) = if b then ndK k (chk a ks bs) else ndK (chk a ks bs) k
  | [], [], a, k, b, _ => rfl
  | [], _ :: _, _, _, _, h => by simp at h
  | _ :: _, [], _, _, _, h => by simp at h
  | k0 :: ks, b0 :: bs, a, k, b, h => by
    show chk _ (ks ++ [k]) (bs ++ [b]) = _
    rw [chk_snoc ks bs _ k b (by simpa using h)]
    rfl
theorem chk_nil (a : List Int) (bs : List Bool) : chk a [] bs = a := by cases bs <;> rfl
theorem chk_ok : ∀ (ks : List (List Int)) (bs : List Bool) (a : List Int), K32 a → K32 (chk a ks bs)
  | [], bs, a, h => by rw [chk_nil]; exact h
  | k :: ks, [], a, h => h
  | k :: ks, b :: bs, a, h => by
    show K32 (chk _ ks bs)
    refine chk_ok ks bs _ ?_
    split <;> exact ndK_ok _ _
theorem chk_take {ks : List (List Int)} {bs : List Bool} (a : List Int) (j : Nat) (h : ks.length = bs.length) (hj : j < ks.length) :
    chk a (ks.take (j + 1)) (bs.take (j + 1)) = if bs[j]'(by omega) then ndK ks[j] (chk a (ks.take j) (bs.take j)) else ndK (chk a (ks.take j) (bs.take j)) ks[j] := by
  rw [List.take_succ_eq_append_getElem hj, List.take_succ_eq_append_getElem (by omega : j < bs.length), chk_snoc _ _ _ _ _ (by rw [List.length_take, List.length_take]; omega)]
theorem prf_len : ∀ (n : Nat) (xs : List (List Int)) (i : Nat), xs.length = n → (prf xs i).length = (sd n i).length := by
  intro n
  induction n using Nat.strongRecOn with
  | ind n ih =>
    intro xs i h
    by_cases h1 : n ≤ 1
    · rw [prf_one (by omega), sd_one h1]
      rfl
    have h4 := half_lt (n := n) (by omega)
    rw [prf_step (xs := xs) (by omega), sd_step (by omega), h]
    by_cases h2 : i < half n
    · rw [if_pos h2, if_neg (by omega), List.length_append, ih (half n) (by omega) (xs.take (half n)) i (by rw [List.length_take]; omega)]
      simp
    · rw [if_neg h2, if_pos (by omega), List.length_append, ih (n - half n) (by omega) (xs.drop (half n)) _ (by rw [List.length_drop]; omega)]
      simp
theorem prf_chk : ∀ (n : Nat) (xs : List (List Int)) (i : Nat) (hn : xs.length = n) (h : i < xs.length), chk xs[i] (prf xs i) (sd n i).reverse = lk xs := by
  intro n
  induction n using Nat.strongRecOn with
  | ind n ih =>
    intro xs i hn h
    by_cases h1 : n ≤ 1
    · rw [prf_one (by omega), chk_nil, lk_one (by omega)]
      congr 1
      omega
    have h4 := half_lt (n := n) (by omega)
    rw [prf_step (xs := xs) (by omega), sd_step (by omega), lk_step (xs := xs) (by omega), hn]
    by_cases h2 : i < half n
    · have hl : (xs.take (half n)).length = half n := by rw [List.length_take]; omega
      rw [if_pos h2, if_neg (by omega), List.reverse_cons, chk_snoc _ _ _ _ _ (by rw [List.length_reverse]; exact prf_len _ _ _ hl)]
      have := ih (half n) (by omega) (xs.take (half n)) i hl (by omega)
      rw [List.getElem_take] at this
      simp [this]
    · have hl : (xs.drop (half n)).length = n - half n := by rw [List.length_drop]; omega
      rw [if_neg h2, if_pos (by omega), List.reverse_cons, chk_snoc _ _ _ _ _ (by rw [List.length_reverse]; exact prf_len _ _ _ hl)]
      have := ih (n - half n) (by omega) (xs.drop (half n)) (i - half n) hl (by omega)
      rw [List.getElem_drop] at this
      have e : half n + (i - half n) = i := by omega
      simp only [e] at this
      simp [this]

/-! ### Peaks -/
def pkF : Nat → List (List Int) → List (List Int)
  | 0, _ => []
  | f + 1, xs => if xs.length = 0 then [] else lk (xs.take (2 ^ Nat.log2 xs.length)) :: pkF f (xs.drop (2 ^ Nat.log2 xs.length))
theorem top_le {n : Nat} (h : n ≠ 0) : 0 < 2 ^ Nat.log2 n ∧ 2 ^ Nat.log2 n ≤ n ∧ n < 2 * 2 ^ Nat.log2 n := by
  have h1 := Nat.log2_self_le h
  have h2 := Nat.lt_log2_self (n := n)
  rw [Nat.pow_succ] at h2
  have := Nat.two_pow_pos (Nat.log2 n)
  omega
theorem pkF_more : ∀ (f g : Nat) (xs : List (List Int)), xs.length ≤ f → xs.length ≤ g → pkF f xs = pkF g xs
  | 0, 0, _, _, _ => rfl
  | 0, g + 1, xs, h, _ => by rw [pkF, pkF, if_pos (by omega)]
  | f + 1, 0, xs, _, h => by rw [pkF, pkF, if_pos (by omega)]
  | f + 1, g + 1, xs, h1, h2 => by
    rw [pkF, pkF]
    by_cases h0 : xs.length = 0
    · rw [if_pos h0, if_pos h0]
    rw [if_neg h0, if_neg h0]
    have h4 := top_le h0
    rw [pkF_more f g (xs.drop (2 ^ Nat.log2 xs.length)) (by rw [List.length_drop]; omega) (by rw [List.length_drop]; omega)]
@[irreducible] def pk (xs : List (List Int)) : List (List Int) := pkF xs.length xs
theorem pk_nil {xs : List (List Int)} (h : xs.length = 0) : pk xs = [] := by rw [pk, h]; rfl
theorem pk_step {xs : List (List Int)} (h : xs.length ≠ 0) : pk xs = lk (xs.take (2 ^ Nat.log2 xs.length)) :: pk (xs.drop (2 ^ Nat.log2 xs.length)) := by
  have h4 := top_le h
  rw [pk, pk]
  obtain ⟨f, hf⟩ : ∃ f, xs.length = f + 1 := ⟨xs.length - 1, by omega⟩
  conv => lhs; rw [hf]
  rw [pkF, if_neg h, pkF_more f (xs.drop (2 ^ Nat.log2 xs.length)).length _ (by rw [List.length_drop]; omega) (Nat.le_refl _)]
theorem log2_uniq {n l : Nat} (h1 : 2 ^ l ≤ n) (h2 : n < 2 * 2 ^ l) : Nat.log2 n = l := by
  have h0 : n ≠ 0 := by have := Nat.two_pow_pos l; omega
  exact (Nat.log2_eq_iff h0).2 ⟨h1, by rw [Nat.pow_succ]; omega⟩
theorem pk_cut {xs : List (List Int)} {l : Nat} (h1 : 2 ^ l ≤ xs.length) (h2 : xs.length < 2 * 2 ^ l) : pk xs = lk (xs.take (2 ^ l)) :: pk (xs.drop (2 ^ l)) := by
  have := Nat.two_pow_pos l
  rw [pk_step (by omega), log2_uniq h1 h2]
/-- the ones of a number -/
def pcF : Nat → Nat → Nat
  | 0, _ => 0
  | f + 1, n => n % 2 + pcF f (n / 2)
theorem pcF_more : ∀ (f g n : Nat), n ≤ f → n ≤ g → pcF f n = pcF g n
  | 0, 0, _, _, _ => rfl
  | 0, g + 1, n, h, _ => by
    obtain rfl : n = 0 := by omega
    rw [pcF, pcF, ← pcF_more 0 g (0 / 2) (by omega) (by omega), pcF]
  | f + 1, 0, n, _, h => by
    obtain rfl : n = 0 := by omega
    rw [pcF, pcF, pcF_more f 0 (0 / 2) (by omega) (by omega), pcF]
  | f + 1, g + 1, n, h1, h2 => by rw [pcF, pcF, pcF_more f g (n / 2) (by omega) (by omega)]
def pc (n : Nat) : Nat := pcF n n
theorem pc_step (n : Nat) : pc n = n % 2 + pc (n / 2) := by
  unfold pc
  cases n with
  | zero => rfl
  | succ f => rw [pcF, pcF_more f ((f + 1) / 2) _ (by omega) (Nat.le_refl _)]
theorem pc_top : ∀ (l r : Nat), r < 2 ^ l → pc (2 ^ l + r) = pc r + 1
  | 0, r, h => by
    have h' : r < 1 := h
    obtain rfl : r = 0 := by omega
    decide
  | l + 1, r, h => by
    rw [Nat.pow_succ] at h ⊢
    rw [pc_step, pc_step r, show (2 ^ l * 2 + r) % 2 = r % 2 by omega, show (2 ^ l * 2 + r) / 2 = 2 ^ l + r / 2 by omega, pc_top l (r / 2) (by omega)]
    omega
theorem pk_len : ∀ (n : Nat) (xs : List (List Int)), xs.length = n → (pk xs).length = pc n := by
  intro n
  induction n using Nat.strongRecOn with
  | ind n ih =>
    intro xs h
    by_cases h0 : n = 0
    · rw [pk_nil (by omega), h0]; rfl
    have h4 := top_le h0
    rw [pk_step (by omega), List.length_cons, ih (n - 2 ^ Nat.log2 n) (by omega) _ (by rw [List.length_drop, h])]
    have := pc_top (Nat.log2 n) (n - 2 ^ Nat.log2 n) (by omega)
    rw [show 2 ^ Nat.log2 n + (n - 2 ^ Nat.log2 n) = n by omega] at this
    exact this.symm
theorem pk_ok {xs : List (List Int)} (h : ∀ x ∈ xs, K32 x) : ∀ k ∈ pk xs, K32 k := by
  have key : ∀ (n : Nat) (ys : List (List Int)), ys.length = n → (∀ x ∈ ys, K32 x) → ∀ k ∈ pk ys, K32 k := by
    intro n
    induction n using Nat.strongRecOn with
    | ind n ih =>
      intro ys hn hy k hk
      by_cases h0 : n = 0
      · rw [pk_nil (by omega)] at hk; simp at hk
      have h4 := top_le h0
      rw [pk_step (by omega)] at hk
      rcases List.mem_cons.1 hk with rfl | hk
      · exact lk_ok (fun x hx => hy x (List.mem_of_mem_take hx))
      · exact ih (n - 2 ^ Nat.log2 n) (by omega) _ (by rw [List.length_drop, hn]) (fun x hx => hy x (List.mem_of_mem_drop hx)) k hk
  exact key _ xs rfl h
/-- the key of peaks -/
def kp : List (List Int) → List Int
  | [] => lk []
  | [a] => a
  | a :: b :: r => ndK a (kp (b :: r))
theorem kp_pk : ∀ (n : Nat) (xs : List (List Int)), xs.length = n → kp (pk xs) = lk xs := by
  intro n
  induction n using Nat.strongRecOn with
  | ind n ih =>
    intro xs h
    by_cases h0 : n = 0
    · have : xs = [] := List.eq_nil_of_length_eq_zero (by omega)
      rw [this, pk_nil rfl]; rfl
    have h4 := top_le h0
    rw [pk_step (by omega), h]
    have hi := ih (n - 2 ^ Nat.log2 n) (by omega) (xs.drop (2 ^ Nat.log2 n)) (by rw [List.length_drop, h])
    by_cases h5 : 2 ^ Nat.log2 n = n
    · rw [pk_nil (by rw [List.length_drop]; omega)]
      show lk _ = _
      rw [List.take_of_length_le (by omega)]
    · have h6 : half n = 2 ^ Nat.log2 n := by rw [half_eq, log2_uniq (n := n - 1) (l := Nat.log2 n) (by omega) (by omega)]
      rw [lk_step (xs := xs) (by omega), h, h6, ← hi]
      rw [pk_step (xs := xs.drop (2 ^ Nat.log2 n)) (by rw [List.length_drop]; omega)]
      rfl
/-- a further leaf: peaks from the least one on -/
def addR : Nat → Nat → List (List Int) → List Int → List (List Int)
  | 0, n, rs, leaf => leaf :: rs
  | f + 1, n, [], leaf => [leaf]
  | f + 1, n, k :: rs, leaf => if n % 2 = 1 then addR f (n / 2) rs (ndK k leaf) else leaf :: k :: rs
theorem addR_nil (f n : Nat) (leaf : List Int) : addR f n [] leaf = [leaf] := by cases f <;> rfl
theorem addR_zero (f : Nat) (rs : List (List Int)) (leaf : List Int) : addR f 0 rs leaf = leaf :: rs := by
  cases f with
  | zero => rfl
  | succ f => cases rs <;> rfl
theorem addR_more : ∀ (f g n : Nat) (rs : List (List Int)) (leaf : List Int), n ≤ f → n ≤ g → addR f n rs leaf = addR g n rs leaf
  | 0, g, n, rs, leaf, h, _ => by
    obtain rfl : n = 0 := by omega
    rw [addR_zero, addR_zero]
  | f + 1, 0, n, rs, leaf, _, h => by
    obtain rfl : n = 0 := by omega
    rw [addR_zero, addR_zero]
  | f + 1, g + 1, n, [], leaf, h1, h2 => rfl
  | f + 1, g + 1, n, k :: rs, leaf, h1, h2 => by
    rw [addR, addR]
    by_cases h0 : n % 2 = 1
    · rw [if_pos h0, if_pos h0]
      exact addR_more f g (n / 2) rs _ (by omega) (by omega)
    · rw [if_neg h0, if_neg h0]
@[irreducible] def adR (n : Nat) (rs : List (List Int)) (leaf : List Int) : List (List Int) := addR n n rs leaf
theorem adR_even {n : Nat} (h : n % 2 ≠ 1) (rs : List (List Int)) (leaf : List Int) : adR n rs leaf = leaf :: rs := by
  rw [adR]
  cases n with
  | zero => rfl
  | succ f =>
    cases rs with
    | nil => rfl
    | cons k rs => rw [addR, if_neg h]
theorem adR_odd {n : Nat} (h : n % 2 = 1) (k : List Int) (rs : List (List Int)) (leaf : List Int) : adR n (k :: rs) leaf = adR (n / 2) rs (ndK k leaf) := by
  rw [adR, adR]
  obtain ⟨f, rfl⟩ : ∃ f, n = f + 1 := ⟨n - 1, by omega⟩
  rw [addR, if_pos h]
  exact addR_more f ((f + 1) / 2) _ rs _ (by omega) (Nat.le_refl _)
theorem adR_top : ∀ (l r : Nat) (R : List (List Int)) (p leaf : List Int), r < 2 ^ l → R.length = pc r →
    adR (2 ^ l + r) (R ++ [p]) leaf = if r + 1 = 2 ^ l then [ndK p ((adR r R leaf).headD [])] else adR r R leaf ++ [p]
  | 0, r, R, p, leaf, h, hR => by
    have h' : r < 1 := h
    obtain rfl : r = 0 := by omega
    have : R = [] := List.eq_nil_of_length_eq_zero hR
    subst this
    show adR 1 ([p]) leaf = _
    rw [if_pos rfl, adR_odd (by decide), adR_even (by decide), adR_even (by decide)]
    rfl
  | l + 1, r, R, p, leaf, h, hR => by
    rw [Nat.pow_succ] at h ⊢
    have hp := Nat.two_pow_pos l
    by_cases h0 : r % 2 = 1
    · rw [pc_step] at hR
      obtain ⟨k, R', rfl⟩ : ∃ k R', R = k :: R' := by
        cases R with
        | nil => simp at hR; omega
        | cons k R' => exact ⟨k, R', rfl⟩
      rw [List.cons_append, adR_odd (by omega), adR_odd h0, show (2 ^ l * 2 + r) / 2 = 2 ^ l + r / 2 by omega, adR_top l (r / 2) R' p (ndK k leaf) (by omega) (by simp at hR; omega)]
      by_cases h1 : r + 1 = 2 ^ l * 2
      · rw [if_pos h1, if_pos (by omega)]
      · rw [if_neg h1, if_neg (by omega)]
    · rw [adR_even (by omega), adR_even h0, if_neg (by omega)]
      rfl
theorem adR_pk : ∀ (n : Nat) (xs : List (List Int)) (leaf : List Int), xs.length = n → adR n (pk xs).reverse leaf = (pk (xs ++ [leaf])).reverse := by
  intro n
  induction n using Nat.strongRecOn with
  | ind n ih =>
    intro xs leaf h
    by_cases h0 : n = 0
    · have : xs = [] := List.eq_nil_of_length_eq_zero (by omega)
      subst this
      rw [h0, pk_nil rfl, adR_even (by decide), pk_cut (l := 0) (by simp) (by simp), pk_nil (by simp), lk_one (by simp)]
      rfl
    have h4 := top_le h0
    obtain ⟨l, hl⟩ : ∃ l, Nat.log2 n = l := ⟨_, rfl⟩
    rw [hl] at h4
    have hd : (xs.drop (2 ^ l)).length = n - 2 ^ l := by rw [List.length_drop, h]
    have hpc := pk_len _ _ hd
    have hi := ih (n - 2 ^ l) (by omega) (xs.drop (2 ^ l)) leaf hd
    have ht := adR_top l (n - 2 ^ l) (pk (xs.drop (2 ^ l))).reverse (lk (xs.take (2 ^ l))) leaf (by omega) (by rw [List.length_reverse]; exact hpc)
    rw [show 2 ^ l + (n - 2 ^ l) = n by omega] at ht
    have hta : (xs ++ [leaf]).take (2 ^ l) = xs.take (2 ^ l) := by rw [List.take_append_of_le_length (by omega)]
    have hda : (xs ++ [leaf]).drop (2 ^ l) = xs.drop (2 ^ l) ++ [leaf] := by rw [List.drop_append_of_le_length (by omega)]
    rw [pk_cut (xs := xs) (l := l) (by omega) (by omega), List.reverse_cons, ht]
    by_cases h5 : n - 2 ^ l + 1 = 2 ^ l
    · rw [if_pos h5, hi]
      have hn2 : n + 1 = 2 ^ (l + 1) := by rw [Nat.pow_succ]; omega
      have hlen : (xs ++ [leaf]).length = 2 ^ (l + 1) := by rw [List.length_append, h]; exact hn2
      rw [pk_cut (xs := xs ++ [leaf]) (l := l + 1) (by omega) (by omega), pk_nil (xs := (xs ++ [leaf]).drop (2 ^ (l + 1))) (by rw [List.length_drop]; omega), List.take_of_length_le (l := xs ++ [leaf]) (by omega)]
      have hdl : (xs.drop (2 ^ l) ++ [leaf]).length = 2 ^ l := by rw [List.length_append, hd]; exact h5
      rw [pk_cut (xs := xs.drop (2 ^ l) ++ [leaf]) (l := l) (by omega) (by omega), pk_nil (xs := (xs.drop (2 ^ l) ++ [leaf]).drop (2 ^ l)) (by rw [List.length_drop]; omega), List.take_of_length_le (l := xs.drop (2 ^ l) ++ [leaf]) (by omega)]
      have hh : half (2 ^ (l + 1)) = 2 ^ l := by
        rw [half_eq, log2_uniq (l := l)]
        · rw [Nat.pow_succ]; omega
        · rw [Nat.pow_succ]; omega
      rw [lk_step (xs := xs ++ [leaf]) (by rw [hlen, Nat.pow_succ]; omega), hlen, hh, hta, hda]
      rfl
    · rw [if_neg h5, hi, pk_cut (xs := xs ++ [leaf]) (l := l) (by rw [List.length_append]; omega) (by rw [List.length_append, h]; simp; omega), hta, hda, List.reverse_cons]
end Go.Proofs.Ytdjclllnmclocaa
/- The key of two keys; of a node. No condition. -/
namespace Go.Proofs.Ytdjclllnmclocaa
open Go.RowKit
set_option linter.unusedVariables false
set_option linter.unusedSimpArgs false

theorem rdl_blkA {w : World} {g t n : Nat} {xs : List Int} (hb : Blk w g t (numsA .u8 xs)) (hn : xs.length = n) (h1 : B8 xs) (h2 : n ≤ 1000) : RdL tByte w (fun _ => True) (.slice (some ⟨g, 0, none⟩) n n) xs := by
  subst hn
  refine ⟨_, _, rfl, Nat.le_refl _, by omega, ⟨by rw [flat_bytes, nums_length]; exact (Nat.mul_one _).symm, fun _ => ⟨g, 0, rfl, trivial, fun j u hu => ?_⟩⟩, h1⟩
  rw [hb.cell, Nat.zero_add]
  rw [flat_bytes] at hu
  simpa [numsA] using hu
theorem wpl_allocK {ops : Array Oper} {rest : List Oper} {o : Oper} {a : Act} {w : World} {Q : Exit → Act → World → Prop} (hgd : o.guard = none) (ho : o.op = .alloc 28)
    (h : wpList Try.prog ops Q rest (a.put o.dst (.pointer (some ⟨w.heap.size, 0, none⟩))) (w.alloc (.cells (numsA .u8 (List.replicate 32 0)) 28))) : wpList Try.prog ops Q (o :: rest) a w :=
  wpl_alloc (numsA .u8 (List.replicate 32 0)) (by kernel_rfl) hgd ho h
set_option maxHeartbeats 4000000 in
set_option maxRecDepth 100000 in
theorem pairKey_any (t : Int) (ht : 0 ≤ t ∧ t ≤ 255) (a b : List Int) (ha : K32 a) (hb : K32 b) (w : World) :
    Calls Try.prog 22 #[.int .u8 t, .agg (numsA .u8 a), .agg (numsA .u8 b)] w fun e w' => e = .returned (.agg (numsA .u8 (hashL t (a ++ b)))) ∧ Ext w w' := by
  have HA := Lib.hid ha
  have HB := Lib.hid hb
  have hk := (hashL_ok t (a ++ b)).1
  have hab : (a ++ b).length = 64 := by rw [List.length_append, ha.1, hb.1]
  have HAB := Lib.hid hab
  have HKS := Lib.hid hk
  clear ha hb hab hk
  obtain ⟨k, hk⟩ : ∃ k, hashL t (a ++ b) = k := ⟨_, rfl⟩
  have HK := Lib.hid hk
  rw [hk] at HKS ⊢
  clear hk
  have hzA : (Try.prog.info? 28).map (·.zero) = some (some (.agg (numsA .u8 (List.replicate 32 0)))) := by kernel_rfl
  have hzs : (numsA .u8 (List.replicate 32 0)).size = 32 := by simp [numsA, nums]
  generalize numsA .u8 (List.replicate 32 0) = Z at hzA hzs
  have HZS := Lib.hid hzs
  clear hzs
  go_enter Try.func22, Try.ntmps22
  go_wp2_with (refine wpl_alloc Z hzA rfl rfl ?_)
  have BA := Lib.hid (((Blk.new w 28 (numsA .u8 a)).alloc (.cells (numsA .u8 b) 28)).alloc (.cells Z 28))
  have BB := Lib.hid ((Blk.new' (g := w.heap.size + 1) (w := w.alloc (.cells (numsA .u8 a) 28)) (by simp) 28 (numsA .u8 b)).alloc (.cells Z 28))
  have BR := Lib.hid (Blk.new' (g := w.heap.size + 2) (w := (w.alloc (.cells (numsA .u8 a) 28)).alloc (.cells (numsA .u8 b) 28)) (by simp) 28 Z)
  have HX := Lib.hid (((ext_alloc w (.cells (numsA .u8 a) 28)).alloc (.cells (numsA .u8 b) 28)).alloc (.cells Z 28))
  clear hzA
  generalize ((w.alloc (.cells (numsA .u8 a) 28)).alloc (.cells (numsA .u8 b) 28)).alloc (.cells Z 28) = w3 at BA BB BR HX ⊢
  refine wp_region_held_drew (S := fun W => Ext w W) (by kernel_rfl) HX.out.drew (fun hHeld => ?_)
  refine wpAnyH_take (i := 0) (oi := ?oiz1) (v := ?vz1) ?hiz1 (by kernel_rfl) (by kernel_rfl) (by kernel_rfl) ?hQz1 ?hyz1 (by assumption) ?restz1
  case hiz1 => simp only [List.getElem?_toArray, List.getElem?_cons_zero, List.getElem?_cons_succ]; rfl
  case hQz1 => exact fun _ _ _ h => h
  case hyz1 => exact Or.inl ⟨by rfl, by intro w hSw; (try dsimp only at hSw); go_simp; with_reducible rfl⟩
  try simp only [Act.put, List.setIfInBounds_toArray, List.set_cons_zero, List.set_cons_succ]
  refine wpAnyH_take (i := 1) (oi := ?oiz2) (v := ?vz2) ?hiz2 (by kernel_rfl) (by kernel_rfl) (by kernel_rfl) ?hQz2 ?hyz2 (by assumption) ?restz2
  case hiz2 => simp only [List.getElem?_toArray, List.getElem?_cons_zero, List.getElem?_cons_succ]; rfl
  case hQz2 => exact fun _ _ _ h => h
  case hyz2 => exact Or.inl ⟨by rfl, by intro w hSw; (try dsimp only at hSw); go_simp; with_reducible rfl⟩
  try simp only [Act.put, List.setIfInBounds_toArray, List.set_cons_zero, List.set_cons_succ]
  refine wpAnyH_take (i := 2) (oi := ?oiz3) (v := ?vz3) ?hiz3 (by kernel_rfl) (by kernel_rfl) (by kernel_rfl) ?hQz3 ?hyz3 (by assumption) ?restz3
  case hiz3 => simp only [List.getElem?_toArray, List.getElem?_cons_zero, List.getElem?_cons_succ]; rfl
  case hQz3 => exact fun _ _ _ h => h
  case hyz3 => exact Or.inl ⟨by rfl, by intro w hSw; (try dsimp only at hSw); go_simp; with_reducible rfl⟩
  try simp only [Act.put, List.setIfInBounds_toArray, List.set_cons_zero, List.set_cons_succ]
  have hE : Ext w3 w3.drew := (Ext.refl w3).drew
  replace BA := Lib.hid (BA.out.ext hE)
  replace BB := Lib.hid (BB.out.ext hE)
  replace BR := Lib.hid (BR.out.ext hE)
  clear hE
  generalize w3.drew = w4 at hHeld BA BB BR ⊢
  refine wpAnyH_ready (rs := [3]) (by kernel_rfl) (by simp) (AllReadyH.cons (o := ?oy43) ?hy43 (fun K hK => ?sy43) AllReadyH.nil)
  case hy43 => simp only [List.getElem?_toArray, List.getElem?_cons_zero, List.getElem?_cons_succ]; rfl
  go_simp
  have hE := ext_alloc w4 (.cells #[.slice (some ⟨w.heap.size, 0, none⟩) 32 32, .slice (some ⟨w.heap.size + 1, 0, none⟩) 32 32] 22)
  have BA5 := Lib.hid (BA.out.ext hE)
  have BB5 := Lib.hid (BB.out.ext hE)
  have BR5 := Lib.hid (BR.out.ext hE)
  have BS5 := Lib.hid (Blk.new w4 22 #[.slice (some ⟨w.heap.size, 0, none⟩) 32 32, .slice (some ⟨w.heap.size + 1, 0, none⟩) 32 32])
  have hH2 := hHeld.trans hE
  refine hK.out _ _ hH2 (fun _ => ?_)
  clear hHeld hK K BA BB BR hE
  have hHeld := hH2
  clear hH2
  generalize w4.alloc (.cells #[.slice (some ⟨w.heap.size, 0, none⟩) 32 32, .slice (some ⟨w.heap.size + 1, 0, none⟩) 32 32] 22) = w5 at hHeld BA5 BB5 BR5 BS5 ⊢
  try simp only [Act.put, List.setIfInBounds_toArray, List.set_cons_zero, List.set_cons_succ]
  refine wpAnyH_ready (rs := [4]) (by kernel_rfl) (by simp) (AllReadyH.cons (o := ?oy54) ?hy54 (fun K hK => ?sy54) AllReadyH.nil)
  case hy54 => simp only [List.getElem?_toArray, List.getElem?_cons_zero, List.getElem?_cons_succ]; rfl
  go_simp
  refine (concat2_any w4.heap.size 0 _ _ a b _ _ _ (rdl_blkA BA5.out HA.out.1 HA.out.2 (by omega)) (rdl_blkA BB5.out HB.out.1 HB.out.2 (by omega)) (by have := HA.out.1; omega) (by have h1 := HA.out.1; have h2 := HB.out.1; omega) (BS5.out.at_ 0 rfl) (BS5.out.at_ 1 rfl)).mono ?_
  rintro e w6 ⟨v6, rfl, ho, hx⟩
  obtain ⟨A6, n6, c6, rfl⟩ := ho.shape3
  have HO6 := Lib.hid ho
  have BR6 := Lib.hid (BR5.out.ext hx)
  clear ho BA5 BB5 BR5 BS5
  have hH2 := hHeld.trans hx
  refine hK.out _ _ hH2 (fun _ => ?_)
  clear hHeld hK K
  have hHeld := hH2
  clear hH2
  try simp only [Act.put, List.setIfInBounds_toArray, List.set_cons_zero, List.set_cons_succ]
  refine wpAnyH_ready (rs := [5]) (by kernel_rfl) (by simp) (AllReadyH.cons (o := ?oy65) ?hy65 (fun K hK => ?sy65) AllReadyH.nil)
  case hy65 => simp only [List.getElem?_toArray, List.getElem?_cons_zero, List.getElem?_cons_succ]; rfl
  go_simp
  refine (hash_any t ht _ (a ++ b) _ _ HO6.out.rd (by have := HAB.out; omega)).mono ?_
  rintro e w7 ⟨rfl, hx⟩
  rw [HK.out]
  have BR7 := Lib.hid (BR6.out.ext hx)
  clear BR6 HO6
  have hH2 := hHeld.trans hx
  refine hK.out _ _ hH2 (fun _ => ?_)
  clear hHeld hK K
  have hHeld := hH2
  clear hH2
  try simp only [Act.put, List.setIfInBounds_toArray, List.set_cons_zero, List.set_cons_succ]
  refine wpAnyH_ready (rs := [6]) (by kernel_rfl) (by simp) (AllReadyH.cons (o := ?oy76) ?hy76 (fun K hK => ?sy76) AllReadyH.nil)
  case hy76 => simp only [List.getElem?_toArray, List.getElem?_cons_zero, List.getElem?_cons_succ]; rfl
  refine stp_storeP (off := 0) BR7.out aggKey (St.nums HKS.out) (by have := HZS.out; omega) rfl _ _ rfl rfl rfl rfl ?_
  rw [splice_all _ _ (by rw [Array.length_toList, HZS.out, (St.nums (k := .u8) HKS.out).size])]
  have e9 : (numsA .u8 k).toList.toArray = numsA .u8 k := by simp
  rw [e9]
  have HX8 := Lib.hid (hHeld.setRow (g := w.heap.size + 2) (by omega) (numsA .u8 k))
  have BR8 := Lib.hid (BR7.out.setRow (numsA .u8 k))
  refine hK.out _ _ HX8.out (fun _ => ?_)
  clear hHeld hK K e9
  try simp only [Act.put, List.setIfInBounds_toArray, List.set_cons_zero, List.set_cons_succ]
  refine wpAnyH_done (by kernel_rfl) ?_ _
  go_wp2_with fail
  refine bodyPost_ret (results_blk rfl _ rfl aggKey HKS.out BR8.out) rfl ?_
  exact ⟨rfl, HX8.out⟩
set_option maxHeartbeats 2000000 in
set_option maxRecDepth 100000 in
theorem nodeKey_any (a b : List Int) (ha : K32 a) (hb : K32 b) (w : World) :
    Calls Try.prog 71 #[.agg (numsA .u8 a), .agg (numsA .u8 b)] w fun e w' => e = .returned (.agg (numsA .u8 (ndK a b))) ∧ Ext w w' := by
  have HP := Lib.hid (fun W => pairKey_any 2 (by omega) a b ha hb W)
  have h1 := sizeN (k := .u8) ha.1
  have h2 := sizeN (k := .u8) hb.1
  have HKS := Lib.hid (ndK_ok a b).1
  have e := ndK_eq a b
  rw [← e] at HP
  generalize ndK a b = k at HP HKS ⊢
  clear e ha hb
  have hzA : (Try.prog.info? 28).map (·.zero) = some (some (.agg (numsA .u8 (List.replicate 32 0)))) := by kernel_rfl
  have hzs : (numsA .u8 (List.replicate 32 0)).size = 32 := by simp [numsA, nums]
  generalize numsA .u8 (List.replicate 32 0) = Z at hzA hzs
  have HZS := Lib.hid hzs
  clear hzs
  have BA := Lib.hid (((Blk.new w 28 (numsA .u8 a)).alloc (.cells (numsA .u8 b) 28)).alloc (.cells Z 28))
  have BB := Lib.hid ((Blk.new' (g := w.heap.size + 1) (w := w.alloc (.cells (numsA .u8 a) 28)) (by simp) 28 (numsA .u8 b)).alloc (.cells Z 28))
  go_enter Try.func71, Try.ntmps71
  go_wp2_with (first
    | (refine wpl_alloc Z hzA rfl rfl ?_)
    | (refine wpl_loadB BA.out aggKey h1 rfl _ rfl rfl ?_)
    | (refine wpl_loadB BB.out aggKey h2 rfl _ rfl rfl ?_))
  refine (HP.out _).mono ?_
  rintro e w1 ⟨rfl, hx⟩
  have HX := Lib.hid ((((ext_alloc w (.cells (numsA .u8 a) 28)).alloc (.cells (numsA .u8 b) 28)).alloc (.cells Z 28)).trans hx)
  have BR := Lib.hid ((Blk.new' (g := w.heap.size + 2) (w := (w.alloc (.cells (numsA .u8 a) 28)).alloc (.cells (numsA .u8 b) 28)) (by simp) 28 Z).ext hx)
  clear hx hzA BA BB
  go_wp2_with (refine wpl_storeN BR.out aggKey HKS.out HZS.out rfl _ _ rfl rfl rfl rfl ?_)
  refine bodyPost_ret (results_blk rfl _ rfl aggKey HKS.out (BR.out.setRow _)) rfl ?_
  exact ⟨rfl, HX.out.setRow (by omega) _⟩
end Go.Proofs.Ytdjclllnmclocaa
/- The length of a number in bits. No condition. -/
namespace Go.Proofs.Ytdjclllnmclocaa
open Go.RowKit
set_option linter.unusedVariables false
set_option linter.unusedSimpArgs false

def lenT (x : Nat) : Nat := if x = 0 then 0 else Nat.log2 x + 1
theorem bytes_getD (T : ByteArray) (x : Nat) (h : x < T.size) : T[x]'h = T.data.toList.getD x 0 := by
  rw [List.getD_eq_getElem?_getD, Array.getElem?_toList, Array.getElem?_eq_getElem (show x < T.data.size from h)]
  rfl
set_option maxHeartbeats 1000000 in
set_option maxRecDepth 100000 in
theorem len64_any (x : Nat) (hx : x ≤ 255) (w : World) :
    Calls Try.prog 110 #[.int .u64 x] w fun e w' => e = .returned (.int .i64 (lenT x)) ∧ w = w' := by
  have h1 : ¬ (4294967296 : Int) ≤ (x : Int) := by omega
  have h2 : ¬ (65536 : Int) ≤ (x : Int) := by omega
  have h3 : ¬ (256 : Int) ≤ (x : Int) := by omega
  have h4 : IntKind.u8.wrap (x : Int) = (x : Int) := by simp [IntKind.wrap, IntKind.bits, IntKind.signed]; omega
  have h5 : (x : Int) < 256 := by omega
  have h6 : (0 : Int) ≤ (x : Int) := by omega
  go_enter Try.func110, Try.ntmps110
  go_wp2
  go_ret
  refine ⟨ret_int ?_, rfl⟩
  simp only [bytes_getD]
  obtain ⟨y, rfl⟩ : ∃ y : Fin 256, x = y.1 := ⟨⟨x, by omega⟩, rfl⟩
  clear h1 h2 h3 h4 h5 h6 hx w
  revert y
  decide +kernel
end Go.Proofs.Ytdjclllnmclocaa
/- The key of a list: the program. No condition. -/
namespace Go.Proofs.Ytdjclllnmclocaa
open Go.RowKit
set_option linter.unusedVariables false
set_option linter.unusedSimpArgs false

theorem rdlK_take {w : World} {S : Nat → Prop} {A : Option Addr} {xs : List (List Int)} {n cap : Nat} (h : RdL tKey w S (.slice A n cap) xs) (hn : n = xs.length) {k : Nat} (hk : k ≤ n) : RdL tKey w S (.slice A k cap) (xs.take k) := by
  subst hn
  obtain ⟨A', cap', e, hcap, hlen, hrd, hok⟩ := h
  obtain ⟨rfl, _, rfl⟩ := Value.slice.inj e
  have hl : (xs.take k).length = k := by rw [List.length_take]; omega
  refine ⟨A, cap, by rw [hl], by omega, by omega, ?_, fun x hx => hok x (List.mem_of_mem_take hx)⟩
  have := hrd.head hk
  rw [hl]
  have e2 : (xs.take k).flatMap tKey.enc = (xs.flatMap tKey.enc).take (k * tKey.sz) := by
    have h1 := flat_length tKey (xs.take k) (fun x hx => hok x (List.mem_of_mem_take hx))
    rw [hl] at h1
    have hsp : xs.flatMap tKey.enc = (xs.take k).flatMap tKey.enc ++ (xs.drop k).flatMap tKey.enc := by rw [← List.flatMap_append, List.take_append_drop]
    rw [hsp, List.take_left' h1]
  rw [e2]
  exact this
theorem rdlK_drop {w : World} {S : Nat → Prop} {g o : Nat} {xs : List (List Int)} {n cap : Nat} (h : RdL tKey w S (.slice (some ⟨g, o, none⟩) n cap) xs) (hn : n = xs.length) {k : Nat} (hk : k < n) : RdL tKey w S (.slice (some ⟨g, o + k * 32, none⟩) (n - k) (cap - k)) (xs.drop k) := by
  subst hn
  obtain ⟨A', cap', e, hcap, hlen, hrd, hok⟩ := h
  obtain ⟨rfl, _, rfl⟩ := Value.slice.inj e
  have hl : (xs.drop k).length = xs.length - k := by rw [List.length_drop]
  refine ⟨_, _, by rw [hl], by omega, by omega, ?_, fun x hx => hok x (List.mem_of_mem_drop hx)⟩
  have := hrd.cut (k := k) (cap := cap) (by omega) hcap
  rw [if_neg (by omega)] at this
  rw [hl]
  have e2 : (xs.drop k).flatMap tKey.enc = (xs.flatMap tKey.enc).drop (k * tKey.sz) := by
    have h1 := flat_length tKey (xs.take k) (fun x hx => hok x (List.mem_of_mem_take hx))
    have h2 : (xs.take k).length = k := by rw [List.length_take]; omega
    rw [h2] at h1
    have hsp : xs.flatMap tKey.enc = (xs.take k).flatMap tKey.enc ++ (xs.drop k).flatMap tKey.enc := by rw [← List.flatMap_append, List.take_append_drop]
    rw [hsp, List.drop_left' h1]
  rw [e2]
  simp only [Option.map_some, Addr.add_lit] at this
  exact this
set_option maxHeartbeats 1000000 in
set_option maxRecDepth 100000 in
theorem sizeKey_any (A : Option Addr) (n c : Nat) (w : World) : Calls Try.prog 66 #[.slice A n c] w fun q w' => q = .returned (.int .i64 n) ∧ w = w' := by
  go_enter Try.func66, Try.ntmps66
  go_wp2
  go_ret
  exact ⟨rfl, rfl⟩
set_option maxHeartbeats 4000000 in
set_option maxRecDepth 100000 in
theorem leftOf_any (n : Nat) (h2 : 2 ≤ n) (h : n ≤ 256) (w : World) : Calls Try.prog 94 #[.int .i64 n] w fun q w' => q = .returned (.int .i64 (half n)) ∧ w = w' := by
  have hc := fun W => len64_any (n - 1) (by omega) W
  have e : ((n - 1 : Nat) : Int) = (n : Int) - 1 := by omega
  rw [e] at hc
  have hw1 : IntKind.i64.wrap ((n : Int) - 1) = (n : Int) - 1 := IntWalk.i64_in _ (by omega)
  have hw2 : IntKind.u64.wrap ((n : Int) - 1) = (n : Int) - 1 := by rw [IntKind.wrap_u64]; omega
  have hl : lenT (n - 1) = Nat.log2 (n - 1) + 1 := by rw [lenT, if_neg (by omega)]
  have hh := half_eq n
  have hlog : Nat.log2 (n - 1) < 8 := (Nat.log2_lt (by omega)).2 (by omega)
  rw [hl] at hc
  obtain ⟨k, hk⟩ : ∃ k, Nat.log2 (n - 1) = k := ⟨_, rfl⟩
  rw [hk] at hc hh hlog
  rw [hh]
  clear hl hh hk e
  have hcases : k = 0 ∨ k = 1 ∨ k = 2 ∨ k = 3 ∨ k = 4 ∨ k = 5 ∨ k = 6 ∨ k = 7 := by omega
  rcases hcases with rfl | rfl | rfl | rfl | rfl | rfl | rfl | rfl
  all_goals
    clear hlog
    go_enter Try.func94, Try.ntmps94
    go_wp2_with fail
    refine (hc _).mono ?_
    rintro e w' ⟨rfl, rfl⟩
    clear hc
    go_wp2
    go_ret
    exact ⟨ret_int (by decide), rfl⟩
set_option maxHeartbeats 8000000 in
set_option maxRecDepth 100000 in
theorem listKey_any : ∀ (n : Nat), n ≤ 256 → ∀ (v : Value) (xs : List (List Int)) (w : World) (S : Nat → Prop), xs.length = n → RdL tKey w S v xs →
    Calls Try.prog 65 #[v] w fun q w' => q = .returned (.agg (numsA .u8 (lk xs))) ∧ Ext w w' := by
  intro n
  induction n using Nat.strongRecOn with
  | ind n ih =>
    intro hn v xs w S hlx h
    obtain ⟨A, cap, rfl, hcap, hlen, hrd, hok⟩ := id h
    have HR := Lib.hid h
    have HOK := Lib.hid (show ∀ x ∈ xs, K32 x from hok)
    have HKS := Lib.hid (lk_ok HOK.out).1
    have HL := Lib.hid hlx
    have hzA : (Try.prog.info? 28).map (·.zero) = some (some (.agg (numsA .u8 (List.replicate 32 0)))) := by kernel_rfl
    have hzs : (numsA .u8 (List.replicate 32 0)).size = 32 := by simp [numsA, nums]
    generalize numsA .u8 (List.replicate 32 0) = Z at hzA hzs
    have HZS := Lib.hid hzs
    have BR := Lib.hid (Blk.new w 28 Z)
    have hX := ext_alloc w (.cells Z 28)
    clear hzs h hrd hok
    rw [hlx] at hcap hlen ⊢
    by_cases h0 : n = 0
    · have hxs : xs = [] := List.eq_nil_of_length_eq_zero (by omega)
      have he := lk_nil
      rw [← hxs] at he
      subst h0
      have HE := Lib.hid he
      have hks := (hashL_ok 3 []).1
      clear he hxs
      go_enter Try.func65, Try.ntmps65
      go_wp2_with (refine wpl_alloc Z hzA rfl rfl ?_)
      refine (sizeKey_any _ _ _ _).mono ?_
      rintro e w' ⟨rfl, rfl⟩
      go_wp2_with fail
      refine (hash_any 3 (by omega) (.slice none 0 0) [] _ (fun _ => True) ⟨none, 0, rfl, Nat.le_refl _, by simp, Rd.nil _ _ _ _, by simp⟩ (by simp)).mono ?_
      rintro e w2 ⟨rfl, hx⟩
      have BR2 := Lib.hid (BR.out.ext hx)
      have HX2 := Lib.hid (hX.trans hx)
      clear hx
      go_wp2_with (refine wpl_storeN BR2.out aggKey hks HZS.out rfl _ _ rfl rfl rfl rfl ?_)
      refine bodyPost_ret (results_blk rfl _ rfl aggKey hks (BR2.out.setRow _)) rfl ?_
      exact ⟨by rw [HE.out], HX2.out.setRow (Nat.le_refl _) _⟩
    by_cases h1 : n = 1
    · have he := lk_one (xs := xs) (by omega)
      obtain ⟨A', cap', e', _, _, hrd, hok⟩ := HR.out
      obtain ⟨rfl, _, rfl⟩ := Value.slice.inj e'
      obtain ⟨g, o, rfl, hs, hc⟩ := hrd.elem hok 0 (by omega)
      have HE := Lib.hid he
      have HC := Lib.hid (show ∀ j u, (nums .u8 xs[0])[j]? = some u → (w.alloc (.cells Z 28)).cell? ⟨g, o + j, none⟩ = some u from fun j u hu => hX.cell (by have := hc j u hu; rwa [Nat.zero_mul, Nat.add_zero] at this))
      have hks := (HOK.out xs[0] (List.getElem_mem _)).1
      subst h1
      clear he hrd hok hc e'
      generalize xs[0] = x0 at HE HC hks
      go_enter Try.func65, Try.ntmps65
      go_wp2_with (refine wpl_alloc Z hzA rfl rfl ?_)
      refine (sizeKey_any _ _ _ _).mono ?_
      rintro e w' ⟨rfl, rfl⟩
      go_wp2_with (first
        | (refine wpl_load ⟨g, o, none⟩ (nums .u8 x0) (by rw [nums_length, hks]; exact aggKey) rfl _ rfl rfl (fun j u hu => by rw [Addr.add_lit]; exact HC.out j u hu) ?_)
        | (refine wpl_storeN (xs := x0) BR.out aggKey hks HZS.out rfl _ _ rfl rfl rfl rfl ?_))
      refine bodyPost_ret (results_blk rfl _ rfl aggKey hks (BR.out.setRow _)) rfl ?_
      exact ⟨by rw [HE.out], hX.setRow (Nat.le_refl _) _⟩
    have h2 : 2 ≤ n := by omega
    have hhf := half_lt h2
    have hlo := fun W => leftOf_any n h2 hn W
    have hst := lk_step (xs := xs) (by omega)
    rw [hlx] at hst
    obtain ⟨m, hm⟩ : ∃ m, half n = m := ⟨_, rfl⟩
    rw [hm] at hhf hlo hst
    obtain ⟨A', cap', e', _, _, hrd, _⟩ := HR.out
    obtain ⟨rfl, _, rfl⟩ := Value.slice.inj e'
    obtain ⟨g, o, rfl, _, _⟩ := hrd.2 (by omega)
    have HT := Lib.hid (fun W (hW : RdL tKey W S (.slice (some ⟨g, o, none⟩) n cap) xs) => ih m (by omega) (by omega) _ _ W S (by rw [List.length_take]; omega) (rdlK_take (k := m) hW (by omega) (by omega)))
    have HD := Lib.hid (fun W (hW : RdL tKey W S (.slice (some ⟨g, o, none⟩) n cap) xs) => ih (n - m) (by omega) (by omega) _ _ W S (by rw [List.length_drop]; omega) (rdlK_drop (k := m) hW (by omega) (by omega)))
    have HRR := Lib.hid (show RdL tKey w S (.slice (some ⟨g, o, none⟩) n cap) xs by have := HR.out; rwa [hlx] at this)
    have KA := Lib.hid (lk_ok (xs := xs.take m) (fun x hx => HOK.out x (List.mem_of_mem_take hx)))
    have KB := Lib.hid (lk_ok (xs := xs.drop m) (fun x hx => HOK.out x (List.mem_of_mem_drop hx)))
    have HST := Lib.hid hst
    have hks := (ndK_ok (lk (xs.take m)) (lk (xs.drop m))).1
    clear hst ih e' hrd hm HR
    generalize lk (xs.take m) = ka at HT KA HST hks
    generalize lk (xs.drop m) = kb at HD KB HST hks
    have hn0 : ((n : Int) == 0) = false := by rw [beq_eq_false_iff_ne]; omega
    have hn1 : ((n : Int) == 1) = false := by rw [beq_eq_false_iff_ne]; omega
    have hcm : ¬ cap = m := by omega
    have q0 : (0 : Int) ≤ (m : Int) := by omega
    have q1 : (m : Int) ≤ (n : Int) := by omega
    have q2 : (m : Int) ≤ (cap : Int) := by omega
    have q3 : (n : Int) ≤ (cap : Int) := by omega
    have q4 : m ≤ cap := by omega
    have q5 : m ≤ n := by omega
    obtain ⟨hp1, hp2, hp3⟩ := hhf
    clear hp1 hp2 hp3
    go_enter Try.func65, Try.ntmps65
    go_wp2_with (refine wpl_alloc Z hzA rfl rfl ?_)
    refine (sizeKey_any _ _ _ _).mono ?_
    rintro e w' ⟨rfl, rfl⟩
    go_wp2_with fail
    refine (hlo _).mono ?_
    rintro e w' ⟨rfl, rfl⟩
    clear hlo hzA
    go_wp2_with fail
    generalize w.alloc (.cells Z 28) = w1 at BR hX ⊢
    have HX := Lib.hid hX
    clear hX
    refine wp_region_held_drew (S := fun W => Ext w W) (by kernel_rfl) HX.out.drew (fun hHeld => ?_)
    refine wpAnyH_take (i := 0) (oi := ?oiz1) (v := ?vz1) ?hiz1 (by kernel_rfl) (by kernel_rfl) (by kernel_rfl) ?hQz1 ?hyz1 (by assumption) ?restz1
    case hiz1 => simp only [List.getElem?_toArray, List.getElem?_cons_zero, List.getElem?_cons_succ]; rfl
    case hQz1 => exact fun _ _ _ h => h
    case hyz1 => exact Or.inl ⟨by rfl, by intro w hSw; (try dsimp only at hSw); go_simp; with_reducible rfl⟩
    try simp only [Act.put, List.setIfInBounds_toArray, List.set_cons_zero, List.set_cons_succ]
    refine wpAnyH_take (i := 1) (oi := ?oiz2) (v := ?vz2) ?hiz2 (by kernel_rfl) (by kernel_rfl) (by kernel_rfl) ?hQz2 ?hyz2 (by assumption) ?restz2
    case hiz2 => simp only [List.getElem?_toArray, List.getElem?_cons_zero, List.getElem?_cons_succ]; rfl
    case hQz2 => exact fun _ _ _ h => h
    case hyz2 => exact Or.inl ⟨by rfl, by intro w hSw; (try dsimp only at hSw); go_simp; with_reducible rfl⟩
    try simp only [Act.put, List.setIfInBounds_toArray, List.set_cons_zero, List.set_cons_succ]
    refine wpAnyH_take (i := 2) (oi := ?oiz3) (v := (.slice (some ⟨g, o, none⟩) m cap)) ?hiz3 (by kernel_rfl) (by kernel_rfl) (by kernel_rfl) ?hQz3 ?hyz3 (by assumption) ?restz3
    case hiz3 => simp only [List.getElem?_toArray, List.getElem?_cons_zero, List.getElem?_cons_succ]; rfl
    case hQz3 => exact fun _ _ _ h => h
    case hyz3 => exact Or.inl ⟨by rfl, by intro w hSw; (try dsimp only at hSw); go_simp; (try with_reducible rfl)⟩
    try simp only [Act.put, List.setIfInBounds_toArray, List.set_cons_zero, List.set_cons_succ]
    refine wpAnyH_take (i := 4) (oi := ?oiz4) (v := ?vz4) ?hiz4 (by kernel_rfl) (by kernel_rfl) (by kernel_rfl) ?hQz4 ?hyz4 (by assumption) ?restz4
    case hiz4 => simp only [List.getElem?_toArray, List.getElem?_cons_zero, List.getElem?_cons_succ]; rfl
    case hQz4 => exact fun _ _ _ h => h
    case hyz4 => exact Or.inl ⟨by rfl, by intro w hSw; (try dsimp only at hSw); go_simp; with_reducible rfl⟩
    try simp only [Act.put, List.setIfInBounds_toArray, List.set_cons_zero, List.set_cons_succ]
    refine wpAnyH_take (i := 5) (oi := ?oiz5) (v := ?vz5) ?hiz5 (by kernel_rfl) (by kernel_rfl) (by kernel_rfl) ?hQz5 ?hyz5 (by assumption) ?restz5
    case hiz5 => simp only [List.getElem?_toArray, List.getElem?_cons_zero, List.getElem?_cons_succ]; rfl
    case hQz5 => exact fun _ _ _ h => h
    case hyz5 => exact Or.inl ⟨by rfl, by intro w hSw; (try dsimp only at hSw); go_simp; with_reducible rfl⟩
    try simp only [Act.put, List.setIfInBounds_toArray, List.set_cons_zero, List.set_cons_succ]
    refine wpAnyH_take (i := 6) (oi := ?oiz6) (v := (.slice (some ⟨g, o + m * 32, none⟩) (n - m) (cap - m))) ?hiz6 (by kernel_rfl) (by kernel_rfl) (by kernel_rfl) ?hQz6 ?hyz6 (by assumption) ?restz6
    case hiz6 => simp only [List.getElem?_toArray, List.getElem?_cons_zero, List.getElem?_cons_succ]; rfl
    case hQz6 => exact fun _ _ _ h => h
    case hyz6 => exact Or.inl ⟨by rfl, by intro w hSw; (try dsimp only at hSw); go_simp; (try with_reducible rfl)⟩
    try simp only [Act.put, List.setIfInBounds_toArray, List.set_cons_zero, List.set_cons_succ]
    have BR1 := Lib.hid (BR.out.ext ((Ext.refl w1).drew))
    clear BR
    refine wpAnyH_ready (rs := [3]) (by kernel_rfl) (by simp) (AllReadyH.cons (o := ?oy73) ?hy73 (fun K hK => ?sy73) AllReadyH.nil)
    case hy73 => simp only [List.getElem?_toArray, List.getElem?_cons_zero, List.getElem?_cons_succ]; rfl
    go_simp
    refine (HT.out _ (HRR.out.ext (by decide) hHeld)).mono ?_
    rintro e w2 ⟨rfl, hx⟩
    have BR2 := Lib.hid (BR1.out.ext hx)
    clear BR1
    have hH2 := hHeld.trans hx
    refine hK.out _ _ hH2 (fun _ => ?_)
    clear hHeld hK K
    have hHeld := hH2
    clear hH2
    try simp only [Act.put, List.setIfInBounds_toArray, List.set_cons_zero, List.set_cons_succ]
    refine wpAnyH_ready (rs := [7]) (by kernel_rfl) (by simp) (AllReadyH.cons (o := ?oy87) ?hy87 (fun K hK => ?sy87) AllReadyH.nil)
    case hy87 => simp only [List.getElem?_toArray, List.getElem?_cons_zero, List.getElem?_cons_succ]; rfl
    go_simp
    refine (HD.out _ (HRR.out.ext (by decide) hHeld)).mono ?_
    rintro e w3 ⟨rfl, hx⟩
    have BR3 := Lib.hid (BR2.out.ext hx)
    clear BR2
    have hH2 := hHeld.trans hx
    refine hK.out _ _ hH2 (fun _ => ?_)
    clear hHeld hK K
    have hHeld := hH2
    clear hH2
    try simp only [Act.put, List.setIfInBounds_toArray, List.set_cons_zero, List.set_cons_succ]
    refine wpAnyH_ready (rs := [8]) (by kernel_rfl) (by simp) (AllReadyH.cons (o := ?oy98) ?hy98 (fun K hK => ?sy98) AllReadyH.nil)
    case hy98 => simp only [List.getElem?_toArray, List.getElem?_cons_zero, List.getElem?_cons_succ]; rfl
    go_simp
    refine (nodeKey_any ka kb KA.out KB.out _).mono ?_
    rintro e w4 ⟨rfl, hx⟩
    have BR4 := Lib.hid (BR3.out.ext hx)
    clear BR3
    have hH2 := hHeld.trans hx
    refine hK.out _ _ hH2 (fun _ => ?_)
    clear hHeld hK K
    have hHeld := hH2
    clear hH2
    try simp only [Act.put, List.setIfInBounds_toArray, List.set_cons_zero, List.set_cons_succ]
    refine wpAnyH_ready (rs := [9]) (by kernel_rfl) (by simp) (AllReadyH.cons (o := ?oy109) ?hy109 (fun K hK => ?sy109) AllReadyH.nil)
    case hy109 => simp only [List.getElem?_toArray, List.getElem?_cons_zero, List.getElem?_cons_succ]; rfl
    refine stp_storeP (off := 0) BR4.out aggKey (St.nums hks) (by have := HZS.out; omega) rfl _ _ rfl rfl rfl rfl ?_
    rw [splice_all _ _ (by rw [Array.length_toList, HZS.out, (St.nums (k := .u8) hks).size])]
    have e9 : (numsA .u8 (ndK ka kb)).toList.toArray = numsA .u8 (ndK ka kb) := by simp
    rw [e9]
    have HX8 := Lib.hid (hHeld.setRow (g := w.heap.size) (Nat.le_refl _) (numsA .u8 (ndK ka kb)))
    have BR8 := Lib.hid (BR4.out.setRow (numsA .u8 (ndK ka kb)))
    refine hK.out _ _ HX8.out (fun _ => ?_)
    clear hHeld hK K e9
    try simp only [Act.put, List.setIfInBounds_toArray, List.set_cons_zero, List.set_cons_succ]
    refine wpAnyH_done (by kernel_rfl) ?_ _
    go_wp2_with fail
    refine bodyPost_ret (results_blk rfl _ rfl aggKey hks BR8.out) rfl ?_
    exact ⟨by rw [HST.out], HX8.out⟩
end Go.Proofs.Ytdjclllnmclocaa
