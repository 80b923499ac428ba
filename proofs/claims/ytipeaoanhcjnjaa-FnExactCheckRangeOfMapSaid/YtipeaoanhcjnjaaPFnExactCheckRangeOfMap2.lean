/- What the walk of the law FnExactCheckRangeOfMap needs, part 2 of 9. No condition. -/
import Derived.Deep.RegionHeld3
import Derived.Deep.RegionLaw
import Derived.Laws.BytesArg
import Derived.Laws.StructEq
import Derived.Lib.AppendZerosOnto
import Derived.Lib.Overlaps
import Derived.Laws.Externs
import Derived.BigFrame
import Derived.Test.YtipeaoanhcjnjaaPFnExactCheckRangeOfMap1
/- The statements' mixing of a block into a state. No condition. -/
namespace Go.Proofs.Ytipeaoanhcjnjaa
open Go.RowKit
set_option linter.unusedVariables false
set_option linter.unusedSimpArgs false

set_option maxHeartbeats 8000000 in
set_option maxRecDepth 100000 in
theorem l01Mix_any (st b : List Int) (hs : st.length = 8) (hu : U32 st) (hk : K32 b) (w : World) : Calls Try.prog 102 #[.agg (numsA .u32 st), .agg (numsA .u8 b)] w fun e w' => e = .returned (.agg (numsA .u32 (mixL st b))) ∧ Ext w w' := by
  have HU := Lib.hid hu
  have HK := Lib.hid hk
  have HS := Lib.hid hs
  clear hu hk hs
  go_enter Try.func102, Try.ntmps102
  go_wp2_with fail
  go_loopw [6] (fun i wr => ∃ (k : Nat) (z : Array Value), k ≤ 8 ∧ i = .int .i64 k ∧ z.size = 8 ∧ Blk wr w.heap.size 125 (numsA .u32 st) ∧ Blk wr (w.heap.size + 1) 22 (numsA .u8 b) ∧ Blk wr (w.heap.size + 2) 125 z ∧ Blk wr (w.heap.size + 3) 125 (numsA .u32 ((List.range k).map (word b) ++ List.replicate (8 - k) 0)) ∧ Ext w wr) (fun i _ => 8 - (intOf i).toNat)
  case atStart => exact ⟨0, _, by omega, rfl, rfl, ((((Blk.new _ _ _).alloc _).alloc _).alloc _), ((Blk.new' (by simp) _ _).alloc _).alloc _, (Blk.new' (by simp) _ _).alloc _, Blk.new' (by simp) _ _, (((ext_alloc _ _).alloc _).alloc _).alloc _⟩
  case round =>
    obtain ⟨k, z, hk, rfl, hz, hb1, hb2, hb3, hb4, hx⟩ := hrel
    have HX := Lib.hid hx
    have HB1 := Lib.hid hb1
    have HB2 := Lib.hid hb2
    have HB3 := Lib.hid hb3
    have HB4 := Lib.hid hb4
    clear hx hb1 hb2 hb3 hb4
    by_cases hlt : k < 8
    · obtain ⟨M, hM⟩ : ∃ M, M = (List.range k).map (word b) ++ List.replicate (8 - k) 0 := ⟨_, rfl⟩
      have hMl : M.length = 8 := by rw [hM]; simp; omega
      have hMk : gI M k = 0 := by rw [hM]; unfold gI; rw [List.getD_eq_getElem?_getD, List.getElem?_append_right (by simp)]; rw [List.getElem?_replicate, if_pos (by simp; omega)]; rfl
      rw [← hM] at HB4
      have HM := Lib.hid hM
      clear hM
      go_wp2_with fail
      go_loopw [7] (fun i wq => ∃ j : Nat, j ≤ 4 ∧ i = .int .i64 (3 - (j : Int)) ∧ Blk wq w.heap.size 125 (numsA .u32 st) ∧ Blk wq (w.heap.size + 1) 22 (numsA .u8 b) ∧ Blk wq (w.heap.size + 2) 125 z ∧ Blk wq (w.heap.size + 3) 125 (numsA .u32 (M.set k (littleN ((b.drop (4 * k + (4 - j))).take j)))) ∧ Ext w wq) (fun i _ => (intOf i + 1).toNat)
      case atStart => exact ⟨0, by omega, by go_num, HB1.out, HB2.out, HB3.out, by
        have h0 : M.set k (littleN ((b.drop (4 * k + (4 - 0))).take 0)) = M := by
          have := set_same M k (by omega)
          rwa [hMk] at this
        rw [h0]; exact HB4.out, HX.out⟩
      case round =>
        obtain ⟨j, hj, rfl, hb1, hb2, hb3, hb4, hx⟩ := hrel
        clear HX HB1 HB2 HB3 HB4
        have HX := Lib.hid hx
        have HB1 := Lib.hid hb1
        have HB2 := Lib.hid hb2
        have HB3 := Lib.hid hb3
        have HB4 := Lib.hid hb4
        clear hx hb1 hb2 hb3 hb4
        by_cases hl4 : j < 4
        · have hc := HB4.out.num k (by simp; omega)
          rw [gI_set _ _ _ _ (by omega), if_pos rfl] at hc
          have hX := littleN_bound ((b.drop (4 * k + (4 - j))).take j) ((HK.out.2.drop _).take _)
          have hXl : ((b.drop (4 * k + (4 - j))).take j).length = j := by simp [HK.out.1]; omega
          have hp : (256 : Int) ^ j ≤ 16777216 := by
            rcases (show j = 0 ∨ j = 1 ∨ j = 2 ∨ j = 3 by omega) with rfl | rfl | rfl | rfl <;> decide
          rw [hXl] at hX
          have hstep : littleN ((b.drop (4 * k + (4 - (j + 1)))).take (j + 1)) = gI b (4 * k + (3 - j)) + 256 * littleN ((b.drop (4 * k + (4 - j))).take j) := by
            have h1 : 4 * k + (3 - j) < b.length := by rw [HK.out.1]; omega
            rw [show 4 * k + (4 - (j + 1)) = 4 * k + (3 - j) by omega, List.drop_eq_getElem_cons h1, List.take_succ_cons, show 4 * k + (3 - j) + 1 = 4 * k + (4 - j) by omega, gI_lt h1]
            rfl
          have hy := B8.get HK.out.2 (4 * k + (3 - j))
          have hd := HB2.out.num (4 * k + (3 - j)) (by rw [HK.out.1]; omega)
          have hor : bits .or .u32 (littleN ((b.drop (4 * k + (4 - j))).take j) * 256) (gI b (4 * k + (3 - j))) = gI b (4 * k + (3 - j)) + 256 * littleN ((b.drop (4 * k + (4 - j))).take j) := by
            have := bits_join .u32 32 (by decide) wraps_u32 8 (littleN ((b.drop (4 * k + (4 - j))).take j) * 256) (gI b (4 * k + (3 - j))) (by omega) (Int.mul_emod_left _ _) (by omega) (by omega) (by omega) (by omega)
            omega
          rw [← hstep] at hor
          generalize gI b (4 * k + (3 - j)) = Y at hd hy hor
          generalize littleN ((b.drop (4 * k + (4 - j))).take j) = X at hc hX hor HB4
          clear hstep hXl
          have hX0 : 0 ≤ X := hX.1
          have hX1 : X ≤ 16777215 := by omega
          clear hX hp
          have HOR := Lib.hid hor
          clear hor
          have hf := HB4.out.free k
          generalize hq : 4 * k + (3 - j) = q at hd
          have hq1 : 4 * (k : Int) + (3 - (j : Int)) = (q : Int) := by omega
          have hq2 : (q : Int) < 32 := by omega
          have HQ := Lib.hid hq
          clear hq
          go_wp2_with fail
          go_region
          go_wp2_with fail
          go_roundw
          case rel =>
            have h4 := HB4.out.set k (.int .u32 (bits .or .u32 (X * 256) Y))
            rw [numsA_set, HOR.out, List.set_set] at h4
            rw [HOR.out]
            exact ⟨j + 1, by omega, by go_num, (HB1.out.far (by simp; omega) _).drewN 1, (HB2.out.far (by simp) _).drewN 1, (HB3.out.far (by simp) _).drewN 1, h4.drewN 1, (HX.out.set (by simp; omega) _).drew⟩
          case measure => simp [intOf]; omega
        · go_wp2_with fail
          go_roundw
          case rel =>
            obtain rfl : j = 4 := by omega
            have h4 := HB4.out
            rw [HM.out, show 4 * k + (4 - 4) = 4 * k by omega] at h4
            have := mapRange_set (word b) 8 k hlt
            unfold word at this h4
            rw [this] at h4
            exact ⟨k + 1, z, by omega, by go_num, hz, HB1.out, HB2.out, HB3.out, h4, HX.out⟩
          case measure => simp [intOf]; omega
    · obtain rfl : k = 8 := by omega
      go_wp2_with (first
        | (refine wpl_loadN HB1.out aggU32 HS.out rfl _ rfl rfl ?_)
        | (refine wpl_storeN (Blk.new wr _ _) aggU32 HS.out rfl rfl _ _ rfl rfl rfl rfl ?_))
      have h4 := HB4.out
      rw [Nat.sub_self, List.replicate_zero, List.append_nil, ← words_eq] at h4
      have h5 : Blk _ wr.heap.size 125 (numsA .u32 st) := (Blk.new wr 125 #[Value.int IntKind.u32 0, Value.int IntKind.u32 0, Value.int IntKind.u32 0, Value.int IntKind.u32 0, Value.int IntKind.u32 0, Value.int IntKind.u32 0, Value.int IntKind.u32 0, Value.int IntKind.u32 0]).setRow (numsA .u32 st)
      have lt4 := h4.lt
      have n1 : w.heap.size ≠ wr.heap.size := by omega
      have n3 : w.heap.size + 2 ≠ wr.heap.size := by omega
      have n4 : w.heap.size + 3 ≠ wr.heap.size := by omega
      have hgs : w.heap.size + 4 ≤ wr.heap.size := by omega
      have hx0 := (HX.out.alloc (.cells #[Value.int IntKind.u32 0, Value.int IntKind.u32 0, Value.int IntKind.u32 0, Value.int IntKind.u32 0, Value.int IntKind.u32 0, Value.int IntKind.u32 0, Value.int IntKind.u32 0, Value.int IntKind.u32 0] 125)).setRow HX.out.size (numsA .u32 st)
      have hb1 := (HB1.out.alloc (.cells #[Value.int IntKind.u32 0, Value.int IntKind.u32 0, Value.int IntKind.u32 0, Value.int IntKind.u32 0, Value.int IntKind.u32 0, Value.int IntKind.u32 0, Value.int IntKind.u32 0, Value.int IntKind.u32 0] 125)).row_far n1 (numsA .u32 st)
      have hb3 := (HB3.out.alloc (.cells #[Value.int IntKind.u32 0, Value.int IntKind.u32 0, Value.int IntKind.u32 0, Value.int IntKind.u32 0, Value.int IntKind.u32 0, Value.int IntKind.u32 0, Value.int IntKind.u32 0, Value.int IntKind.u32 0] 125)).row_far n3 (numsA .u32 st)
      have hb4 := (h4.alloc (.cells #[Value.int IntKind.u32 0, Value.int IntKind.u32 0, Value.int IntKind.u32 0, Value.int IntKind.u32 0, Value.int IntKind.u32 0, Value.int IntKind.u32 0, Value.int IntKind.u32 0, Value.int IntKind.u32 0] 125)).row_far n4 (numsA .u32 st)
      clear h4 lt4 HB1 HB2 HB3 HB4 HX n1 n3 n4
      generalize wr.heap.size = gs at *
      have HW := Lib.hid (words_eq b)
      go_loopw [9] (fun i wq => ∃ r : Nat, r ≤ 12 ∧ i = .int .i64 r ∧ Blk wq w.heap.size 125 (numsA .u32 st) ∧ Blk wq (w.heap.size + 2) 125 z ∧ Blk wq (w.heap.size + 3) 125 (numsA .u32 (words b)) ∧ Blk wq gs 125 (numsA .u32 (mixOut (words b) r st)) ∧ Ext w wq) (fun i _ => 12 - (intOf i).toNat)
      case atStart => exact ⟨0, by omega, rfl, hb1, hb3, hb4, by rw [mixOut_zero]; exact h5, hx0⟩
      case round =>
        clear hx0 hb1 hb3 hb4 h5
        obtain ⟨r, hr, rfl, hb1, hb3, hb4, hb5, hx⟩ := hrel
        have HX := Lib.hid hx
        have HB1 := Lib.hid hb1
        have HB3 := Lib.hid hb3
        have HB4 := Lib.hid hb4
        have HB5 := Lib.hid hb5
        clear hx hb1 hb3 hb4 hb5
        by_cases hlr : r < 12
        · go_wp2_with fail
          have hd12 : decide ((r : Int) < 12) = true := by simp; omega
          simp only [hd12]
          go_loopw [10] (fun i wq => ∃ k : Nat, k ≤ 8 ∧ i = .int .i64 k ∧ Blk wq w.heap.size 125 (numsA .u32 st) ∧ Blk wq (w.heap.size + 2) 125 z ∧ Blk wq (w.heap.size + 3) 125 (numsA .u32 (words b)) ∧ Blk wq gs 125 (numsA .u32 (mixIn (words b) r k (mixOut (words b) r st))) ∧ Ext w wq) (fun i _ => 8 - (intOf i).toNat)
          case atStart => exact ⟨0, by omega, rfl, HB1.out, HB3.out, HB4.out, by rw [mixIn_zero]; exact HB5.out, HX.out⟩
          case round =>
            clear HX HB1 HB3 HB4 HB5
            obtain ⟨k, hk, rfl, hb1, hb3, hb4, hb5, hx⟩ := hrel
            have HX := Lib.hid hx
            have HB1 := Lib.hid hb1
            have HB3 := Lib.hid hb3
            have HB4 := Lib.hid hb4
            have HB5 := Lib.hid hb5
            clear hx hb1 hb3 hb4 hb5
            by_cases hlk : k < 8
            · have hl := (mixIn_length (words b) r k (mixOut (words b) r st)).trans ((mixOut_length (words b) r st).trans HS.out)
              have hu := mixIn_ok (words b) r k _ (mixOut_ok (words b) r st HU.out)
              have HE := Lib.hid (mixIn_succ (words b) r k (mixOut (words b) r st))
              generalize mixIn (words b) r k (mixOut (words b) r st) = s at *
              have p1 : (k + 3 * r) % 8 < 8 := Nat.mod_lt _ (by decide)
              have p2 : (k + 1) % 8 < 8 := Nat.mod_lt _ (by decide)
              have p3 : (k + 5) % 8 < 8 := Nat.mod_lt _ (by decide)
              have c0 := HB5.out.num k (by omega)
              have c1 := HB4.out.num ((k + 3 * r) % 8) (by rw [words_length]; omega)
              have c2 := HB5.out.num ((k + 1) % 8) (by omega)
              have c3 := HB5.out.num ((k + 5) % 8) (by omega)
              have hf := HB5.out.free k
              have u0 := hu.get k
              have u2 := hu.get ((k + 1) % 8)
              have u3 := hu.get ((k + 5) % 8)
              have q1 : ((k : Int) + 3 * r) % 8 = (((k + 3 * r) % 8 : Nat) : Int) := by omega
              have q2 : ((k : Int) + 1) % 8 = (((k + 1) % 8 : Nat) : Int) := by omega
              have q3 : ((k : Int) + 5) % 8 = (((k + 5) % 8 : Nat) : Int) := by omega
              generalize hj1 : (k + 3 * r) % 8 = j1 at *
              generalize hj2 : (k + 1) % 8 = j2 at *
              generalize hj3 : (k + 5) % 8 = j3 at *
              have J1 := Lib.hid hj1
              have J2 := Lib.hid hj2
              have J3 := Lib.hid hj3
              clear hj1 hj2 hj3 hu
              go_wp2_with fail
              go_quiet (fail)
              replace c0 := (show (wr.drewN nq).cell? _ = _ from c0)
              replace c2 := (show (wr.drewN nq).cell? _ = _ from c2)
              replace c3 := (show (wr.drewN nq).cell? _ = _ from c3)
              replace hf := (show (wr.drewN nq).frozen? _ = _ from hf)
              replace HX := Lib.hid (HX.out.drewN nq)
              replace HB1 := Lib.hid (HB1.out.drewN nq)
              replace HB3 := Lib.hid (HB3.out.drewN nq)
              replace HB4 := Lib.hid (HB4.out.drewN nq)
              replace HB5 := Lib.hid (HB5.out.drewN nq)
              clear c1
              generalize wr.drewN nq = wx at *
              go_wp2_with fail
              go_quiet ((go_at_call 107; exact Calls.quiet_of ((l01Turn_7 _ _).mono fun e w' ⟨he, hw⟩ => ⟨he, 0, hw.symm⟩)))
              go_wp2_with (go_at_call 107; refine (l01Turn_13 _ _).mono ?_; rintro e w' ⟨rfl, rfl⟩)
              go_roundw
              case rel =>
                have h5 := (HB5.out.drewN nq).set k (.int .u32 ((bits .xor .u32 (turn7 ((gI s k + gI (words b) j1 + 2654435769 * (8 * (r : Int) + (k : Int) + 1)) % 4294967296)) (gI s j2) + turn13 (gI s j3)) % 4294967296))
                rw [numsA_set] at h5
                have he := HE.out
                unfold mixStep at he
                rw [J1.out, J2.out, J3.out] at he
                rw [← he] at h5
                exact ⟨k + 1, by omega, by go_num, (HB1.out.drewN _).far (by simp; omega) _, (HB3.out.drewN _).far (by simp; omega) _, (HB4.out.drewN _).far (by simp; omega) _, h5, (HX.out.drewN _).set (by simp; omega) _⟩
              case measure => simp [intOf]; omega
            · obtain rfl : k = 8 := by omega
              go_wp2_with fail
              go_roundw
              case rel => exact ⟨r + 1, by omega, by go_num, HB1.out, HB3.out, HB4.out, by rw [mixOut_succ]; exact HB5.out, HX.out⟩
              case measure => simp [intOf]; omega
        · obtain rfl : r = 12 := by omega
          go_wp2_with fail
          have HL := Lib.hid ((mixOut_length (words b) 12 st).trans HS.out)
          have HE := Lib.hid (show mixL st b = xorIn st 8 (mixOut (words b) 12 st) by rw [mixL])
          generalize mixOut (words b) 12 st = s at *
          go_loopw [13] (fun i wq => ∃ k : Nat, k ≤ 8 ∧ i = .int .i64 k ∧ Blk wq w.heap.size 125 (numsA .u32 st) ∧ Blk wq (w.heap.size + 2) 125 z ∧ Blk wq gs 125 (numsA .u32 (xorIn st k s)) ∧ Ext w wq) (fun i _ => 8 - (intOf i).toNat)
          case atStart => exact ⟨0, by omega, rfl, HB1.out, HB3.out, by rw [xorIn_zero]; exact HB5.out, HX.out⟩
          case round =>
            clear HX HB1 HB3 HB4 HB5
            obtain ⟨k, hk, rfl, hb1, hb3, hb5, hx⟩ := hrel
            have HX := Lib.hid hx
            have HB1 := Lib.hid hb1
            have HB3 := Lib.hid hb3
            have HB5 := Lib.hid hb5
            clear hx hb1 hb3 hb5
            have hl := (xorIn_length st k s).trans HL.out
            by_cases hlk : k < 8
            · have c0 := HB5.out.num k (by omega)
              have c1 := HB1.out.num k (by rw [HS.out]; omega)
              have hf := HB5.out.free k
              have HE2 := Lib.hid (xorIn_succ st k s)
              generalize xorIn st k s = s1 at *
              go_wp2_with fail
              go_region
              go_wp2_with fail
              go_roundw
              case rel =>
                have h5 := HB5.out.set k (.int .u32 (bits .xor .u32 (gI s1 k) (gI st k)))
                rw [numsA_set, ← HE2.out] at h5
                exact ⟨k + 1, by omega, by go_num, (HB1.out.far (by simp; omega) _).drewN 1, (HB3.out.far (by simp; omega) _).drewN 1, h5.drewN 1, (HX.out.set (by simp; omega) _).drew⟩
              case measure => simp [intOf]; omega
            · obtain rfl : k = 8 := by omega
              rw [← HE.out] at HB5 hl
              go_wp2_with (first
                | (refine wpl_loadN HB5.out aggU32 hl rfl _ rfl rfl ?_)
                | (refine wpl_storeN HB3.out aggU32 hl hz rfl _ _ rfl rfl rfl rfl ?_))
              refine bodyPost_ret (results_blk rfl _ rfl aggU32 hl (HB3.out.setRow _)) rfl ?_
              exact ⟨rfl, HX.out.setRow (by omega) _⟩

end Go.Proofs.Ytipeaoanhcjnjaa
/- The statements' key of bytes: the end. No condition. -/
namespace Go.Proofs.Ytipeaoanhcjnjaa
open Go.RowKit
set_option linter.unusedVariables false
set_option linter.unusedSimpArgs false

theorem len8 {s : List Int} (h : s.length = 8) : ∃ a0 a1 a2 a3 a4 a5 a6 a7, s = [a0, a1, a2, a3, a4, a5, a6, a7] := by
  match s, h with
  | [a0, a1, a2, a3, a4, a5, a6, a7], _ => exact ⟨a0, a1, a2, a3, a4, a5, a6, a7, rfl⟩

/-- eight words written into a block -/
def put8 (w : World) (g : Nat) (c0 c1 c2 c3 c4 c5 c6 c7 : Int) : World := ((((((((w.setCell ⟨g, 0, none⟩ (.int .u32 c0)).setCell ⟨g, 1, none⟩ (.int .u32 c1)).setCell ⟨g, 2, none⟩ (.int .u32 c2)).setCell ⟨g, 3, none⟩ (.int .u32 c3)).setCell ⟨g, 4, none⟩ (.int .u32 c4)).setCell ⟨g, 5, none⟩ (.int .u32 c5)).setCell ⟨g, 6, none⟩ (.int .u32 c6)).setCell ⟨g, 7, none⟩ (.int .u32 c7))
section
variable {w : World} {g : Nat} {c0 c1 c2 c3 c4 c5 c6 c7 : Int}
theorem put8_blk {t : TypeId} {a0 a1 a2 a3 a4 a5 a6 a7 : Int} (h : Blk w g t (numsA .u32 [a0, a1, a2, a3, a4, a5, a6, a7])) : Blk (put8 w g c0 c1 c2 c3 c4 c5 c6 c7) g t (numsA .u32 [c0, c1, c2, c3, c4, c5, c6, c7]) := by
  have := ((((((((h.set 0 (.int .u32 c0)).set 1 (.int .u32 c1)).set 2 (.int .u32 c2)).set 3 (.int .u32 c3)).set 4 (.int .u32 c4)).set 5 (.int .u32 c5)).set 6 (.int .u32 c6)).set 7 (.int .u32 c7))
  simp only [numsA_set, List.set_cons_zero, List.set_cons_succ] at this
  exact this
theorem put8_far {t g' : Nat} {cs : Array Value} (h : Blk w g' t cs) (hg : g' ≠ g) : Blk (put8 w g c0 c1 c2 c3 c4 c5 c6 c7) g' t cs := ((((((((h.far hg _).far hg _).far hg _).far hg _).far hg _).far hg _).far hg _).far hg _)
theorem put8_own {α : Type} {T : Ty α} {e : TypeId} {base : Nat} {v : Value} {xs : List α} (h : Own T e w base v xs) (hg : g < base) : Own T e (put8 w g c0 c1 c2 c3 c4 c5 c6 c7) base v xs := ((((((((h.set_below hg _).set_below hg _).set_below hg _).set_below hg _).set_below hg _).set_below hg _).set_below hg _).set_below hg _)
theorem put8_ext {a : World} (h : Ext a w) (hg : a.heap.size ≤ g) : Ext a (put8 w g c0 c1 c2 c3 c4 c5 c6 c7) := ((((((((h.set hg _).set hg _).set hg _).set hg _).set hg _).set hg _).set hg _).set hg _)
end

set_option maxHeartbeats 4000000 in
set_option maxRecDepth 100000 in
theorem l01End_any (st : List Int) (hs8 : st.length = 8) (hu : U32 st) (v : Value) (xs : List Int) (w : World) (S : Nat → Prop) (h : RdL tByte w S v xs) (hl : xs.length ≤ 70368744177664) (len : Int) (h0 : 0 ≤ len) (h1 : len ≤ 9223372036854775807) :
    Calls Try.prog 94 #[.agg (numsA .u32 st), v, .int .i64 len] w fun e w' => e = .returned (.agg (numsA .u8 (endL st xs len))) ∧ Ext w w' := by
  have H := Lib.hid h
  obtain ⟨A, cap, rfl, hcap, hlen, hz1, hz2⟩ := h
  clear hz1 hz2
  have HU := Lib.hid hu
  have HS8 := Lib.hid hs8
  clear hu hs8
  go_enter Try.func94, Try.ntmps94
  go_wp2_with fail
  refine (l01Padded_any _ xs _ S (H.out.ext (by decide) ((ext_alloc w _).alloc _)) hl len h0 h1).mono ?_
  rintro e w1 ⟨v1, rfl, ho, hx⟩
  have hb0 := hx.heap (show _ from ((Blk.new w _ _).alloc _ : Blk ((w.alloc (.cells (numsA .u32 st) 125)).alloc _) w.heap.size 125 (numsA .u32 st)))
  have hb1 := hx.heap (show _ from (Blk.new' (g := w.heap.size + 1) (by simp) _ _ : Blk ((w.alloc (.cells (numsA .u32 st) 125)).alloc _) (w.heap.size + 1) 28 _))
  have hxw := ((ext_alloc w (.cells (numsA .u32 st) 125)).alloc _).trans hx
  have ho' : Own tByte 5 w1 (w.heap.size + 2) v1 (xs ++ padL xs.length len) := ho.le (by simp)
  obtain ⟨B, bn, bc, rfl⟩ := ho'.shape3
  have hbn := ho'.len
  rw [List.length_append, padL_length] at hbn
  have hm0 := padded_mod xs.length
  have hpz : padZ xs.length ≤ 31 := by have := padZ_eq xs.length; omega
  have HE := Lib.hid (show endL st xs len = keyL (mixN (xs ++ padL xs.length len) st ((xs.length + padZ xs.length + 9) / 32)) by rw [endL])
  obtain ⟨m, hm⟩ : ∃ m, xs.length + padZ xs.length + 9 = 32 * m := ⟨(xs.length + padZ xs.length + 9) / 32, by omega⟩
  rw [show (xs.length + padZ xs.length + 9) / 32 = m by omega] at HE
  have hbm : bn = 32 * m := by omega
  have hmm : m ≤ 2199023255553 := by omega
  have hal : (xs ++ padL xs.length len).length = 32 * m := by rw [List.length_append, padL_length]; omega
  generalize xs ++ padL xs.length len = al at *
  subst hbm
  have HO := Lib.hid ho'
  have HXW := Lib.hid hxw
  have HB0 := Lib.hid (show Blk w1 w.heap.size 125 (numsA .u32 st) from hb0)
  have HB1 := Lib.hid (show Blk w1 (w.heap.size + 1) 28 _ from hb1)
  have HAL := Lib.hid hal
  clear ho ho' hx hxw hb0 hb1 hbn hm0 hm hpz hal H
  go_wp2_with fail
  go_loopw [8] (fun q wr => ∃ (i : Nat) (z : Array Value), i ≤ m ∧ z.size = 32 ∧ q = .int .i64 ((32 * i : Nat) : Int) ∧ Blk wr w.heap.size 125 (numsA .u32 (mixN al st i)) ∧ Blk wr (w.heap.size + 1) 28 z ∧ Own tByte 5 wr (w.heap.size + 2) (.slice B (32 * m) bc) al ∧ Ext w wr) (fun q _ => 32 * m + 32 - (intOf q).toNat)
  case atStart => exact ⟨0, _, by omega, rfl, rfl, by rw [mixN_zero]; exact HB0.out, HB1.out, HO.out, HXW.out⟩
  case round =>
    clear HO HXW HB0 HB1
    obtain ⟨i, z, him, hz, rfl, hb0, hb1, ho, hx⟩ := hrel
    have HO := Lib.hid ho
    have HX := Lib.hid hx
    have HB0 := Lib.hid hb0
    have HB1 := Lib.hid hb1
    clear ho hx hb0 hb1
    by_cases hlt : i < m
    · have hs := mixN_length al st i HS8.out
      have hu := mixN_ok al st i HU.out
      have HN := Lib.hid (mixN_succ al st i)
      generalize mixN al st i = s at *
      obtain ⟨a0, a1, a2, a3, a4, a5, a6, a7, rfl⟩ := len8 hs
      have hblk : ∀ W, Ext wr W → Calls Try.prog 103 #[.slice B (32 * m) bc, .int .i64 (32 * (i : Int))] W fun e w' => e = .returned (.agg (numsA .u8 (blockL al i))) ∧ Ext W w' := by
        intro W E
        have := l01Block_any (.slice B (32 * m) bc) al W _ ((HO.out.ext E).rd) i (by rw [HAL.out]; omega)
        rw [show ((32 * i : Nat) : Int) = 32 * (i : Int) by omega] at this
        exact this
      have hK := blockL_ok al i HO.out.2.2 (by rw [HAL.out]; omega)
      obtain ⟨c0, c1, c2, c3, c4, c5, c6, c7, hc⟩ := len8 (mixL_length [a0, a1, a2, a3, a4, a5, a6, a7] (blockL al i) rfl)
      have hmix : ∀ W, Calls Try.prog 102 #[.agg #[Value.int .u32 a0, Value.int .u32 a1, Value.int .u32 a2, Value.int .u32 a3, Value.int .u32 a4, Value.int .u32 a5, Value.int .u32 a6, Value.int .u32 a7], .agg (numsA .u8 (blockL al i))] W fun e w' => e = .returned (.agg #[Value.int .u32 c0, Value.int .u32 c1, Value.int .u32 c2, Value.int .u32 c3, Value.int .u32 c4, Value.int .u32 c5, Value.int .u32 c6, Value.int .u32 c7]) ∧ Ext W w' := by
        intro W
        have := l01Mix_any [a0, a1, a2, a3, a4, a5, a6, a7] (blockL al i) rfl hu hK W
        rw [hc] at this
        exact this
      rw [hc] at HN
      generalize blockL al i = blk at *
      have HBLK := Lib.hid hblk
      have HMIX := Lib.hid hmix
      have HB := HB0
      clear hblk hmix hs hu hK hc
      have k0 : ∀ W, Ext wr W → W.cell? ⟨w.heap.size, 0, none⟩ = some (.int .u32 a0) := fun W h => h.cell (HB.out.at_ 0 rfl)
      have k1 : ∀ W, Ext wr W → W.cell? ⟨w.heap.size, 1, none⟩ = some (.int .u32 a1) := fun W h => h.cell (HB.out.at_ 1 rfl)
      have k2 : ∀ W, Ext wr W → W.cell? ⟨w.heap.size, 2, none⟩ = some (.int .u32 a2) := fun W h => h.cell (HB.out.at_ 2 rfl)
      have k3 : ∀ W, Ext wr W → W.cell? ⟨w.heap.size, 3, none⟩ = some (.int .u32 a3) := fun W h => h.cell (HB.out.at_ 3 rfl)
      have k4 : ∀ W, Ext wr W → W.cell? ⟨w.heap.size, 4, none⟩ = some (.int .u32 a4) := fun W h => h.cell (HB.out.at_ 4 rfl)
      have k5 : ∀ W, Ext wr W → W.cell? ⟨w.heap.size, 5, none⟩ = some (.int .u32 a5) := fun W h => h.cell (HB.out.at_ 5 rfl)
      have k6 : ∀ W, Ext wr W → W.cell? ⟨w.heap.size, 6, none⟩ = some (.int .u32 a6) := fun W h => h.cell (HB.out.at_ 6 rfl)
      have k7 : ∀ W, Ext wr W → W.cell? ⟨w.heap.size, 7, none⟩ = some (.int .u32 a7) := fun W h => h.cell (HB.out.at_ 7 rfl)
      have f0 : ∀ W, Ext wr W → ∀ j, W.frozen? ⟨w.heap.size, j, none⟩ = false := fun W h j => (HB.out.ext h).free j
      have r0 := Ext.refl wr
      have r1 := (Ext.refl wr).drew
      go_wp2_with fail
      go_region_law (first
        | (go_simp; go_at_call 103; refine (HBLK.out _ (by assumption)).mono ?_; rintro e p1 ⟨rfl, hx1⟩; have y1 := Ext.trans (by assumption : Ext wr _) hx1)
        | (go_simp; go_at_call 102; refine (HMIX.out _).mono ?_; rintro e p2 ⟨rfl, hx2⟩; have y2 := y1.trans hx2))
      all_goals
        go_wp2_with fail
        go_roundw
        case rel => exact ⟨i + 1, z, by omega, hz, congrArg (Value.int .i64) (by omega), by rw [HN.out]; exact put8_blk (HB.out.ext y2), put8_far (HB1.out.ext y2) (by omega), put8_own (HO.out.ext y2) (by omega), put8_ext (HX.out.trans y2) (Nat.le_refl _)⟩
        case measure => simp [intOf]; omega
    · obtain rfl : i = m := by omega
      have hs := mixN_length al st i HS8.out
      have hu := mixN_ok al st i HU.out
      have hlt0 := HB1.out.lt
      generalize mixN al st i = s at *
      have HSL := Lib.hid hs
      clear hs
      go_wp2_with (refine wpl_storeN (k := .u8) (xs := List.replicate 32 0) (Blk.new wr _ _) aggKey (by simp) rfl rfl _ _ rfl rfl rfl rfl ?_)
      have hx0 := (HX.out.alloc (.cells #[Value.int .u8 0, Value.int .u8 0, Value.int .u8 0, Value.int .u8 0, Value.int .u8 0, Value.int .u8 0, Value.int .u8 0, Value.int .u8 0, Value.int .u8 0, Value.int .u8 0, Value.int .u8 0, Value.int .u8 0, Value.int .u8 0, Value.int .u8 0, Value.int .u8 0, Value.int .u8 0, Value.int .u8 0, Value.int .u8 0, Value.int .u8 0, Value.int .u8 0, Value.int .u8 0, Value.int .u8 0, Value.int .u8 0, Value.int .u8 0, Value.int .u8 0, Value.int .u8 0, Value.int .u8 0, Value.int .u8 0, Value.int .u8 0, Value.int .u8 0, Value.int .u8 0, Value.int .u8 0] 28)).setRow HX.out.size (numsA .u8 (List.replicate 32 0))
      have hb0 := (HB0.out.alloc (.cells #[Value.int .u8 0, Value.int .u8 0, Value.int .u8 0, Value.int .u8 0, Value.int .u8 0, Value.int .u8 0, Value.int .u8 0, Value.int .u8 0, Value.int .u8 0, Value.int .u8 0, Value.int .u8 0, Value.int .u8 0, Value.int .u8 0, Value.int .u8 0, Value.int .u8 0, Value.int .u8 0, Value.int .u8 0, Value.int .u8 0, Value.int .u8 0, Value.int .u8 0, Value.int .u8 0, Value.int .u8 0, Value.int .u8 0, Value.int .u8 0, Value.int .u8 0, Value.int .u8 0, Value.int .u8 0, Value.int .u8 0, Value.int .u8 0, Value.int .u8 0, Value.int .u8 0, Value.int .u8 0] 28)).row_far (by omega : w.heap.size ≠ wr.heap.size) (numsA .u8 (List.replicate 32 0))
      have hb1 := (HB1.out.alloc (.cells #[Value.int .u8 0, Value.int .u8 0, Value.int .u8 0, Value.int .u8 0, Value.int .u8 0, Value.int .u8 0, Value.int .u8 0, Value.int .u8 0, Value.int .u8 0, Value.int .u8 0, Value.int .u8 0, Value.int .u8 0, Value.int .u8 0, Value.int .u8 0, Value.int .u8 0, Value.int .u8 0, Value.int .u8 0, Value.int .u8 0, Value.int .u8 0, Value.int .u8 0, Value.int .u8 0, Value.int .u8 0, Value.int .u8 0, Value.int .u8 0, Value.int .u8 0, Value.int .u8 0, Value.int .u8 0, Value.int .u8 0, Value.int .u8 0, Value.int .u8 0, Value.int .u8 0, Value.int .u8 0] 28)).row_far (by omega : w.heap.size + 1 ≠ wr.heap.size) (numsA .u8 (List.replicate 32 0))
      have hb2 := (Blk.new wr 28 #[Value.int .u8 0, Value.int .u8 0, Value.int .u8 0, Value.int .u8 0, Value.int .u8 0, Value.int .u8 0, Value.int .u8 0, Value.int .u8 0, Value.int .u8 0, Value.int .u8 0, Value.int .u8 0, Value.int .u8 0, Value.int .u8 0, Value.int .u8 0, Value.int .u8 0, Value.int .u8 0, Value.int .u8 0, Value.int .u8 0, Value.int .u8 0, Value.int .u8 0, Value.int .u8 0, Value.int .u8 0, Value.int .u8 0, Value.int .u8 0, Value.int .u8 0, Value.int .u8 0, Value.int .u8 0, Value.int .u8 0, Value.int .u8 0, Value.int .u8 0, Value.int .u8 0, Value.int .u8 0]).setRow (numsA .u8 (List.replicate 32 0))
      have hgs : w.heap.size + 2 ≤ wr.heap.size := by omega
      generalize wr.heap.size = gs at *
      have hkl := keyL_length s
      have HKL := Lib.hid hkl
      go_loopw [10] (fun q wq => ∃ k : Nat, k ≤ 32 ∧ q = .int .i64 k ∧ Blk wq w.heap.size 125 (numsA .u32 s) ∧ Blk wq (w.heap.size + 1) 28 z ∧ Blk wq gs 28 (numsA .u8 ((keyL s).take k ++ List.replicate (32 - k) 0)) ∧ Ext w wq) (fun q _ => 32 - (intOf q).toNat)
      case atStart => exact ⟨0, by omega, rfl, hb0, hb1, by rw [List.take_zero, List.nil_append, Nat.sub_zero]; exact hb2, hx0⟩
      case round =>
        clear hb0 hb1 hb2 hx0 HO HX HB0 HB1 hlt0
        obtain ⟨k, hk, rfl, hb0, hb1, hb2, hx⟩ := hrel
        have HX := Lib.hid hx
        have HB0 := Lib.hid hb0
        have HB1 := Lib.hid hb1
        have HB2 := Lib.hid hb2
        clear hx hb0 hb1 hb2
        by_cases hk32 : k < 32
        · have c0 := HB0.out.num (k / 4) (by rw [HSL.out]; omega)
          have u0 := hu.get (k / 4)
          have hc := HB2.out.num k (by simp [keyL_length]; omega)
          have hf := HB2.out.free k
          have q1 : (k : Int) / 4 = ((k / 4 : Nat) : Int) := by omega
          have q2 : (k : Int) % 4 = ((k % 4 : Nat) : Int) := by omega
          have p1 : k / 4 < 8 := by omega
          have p2 : k % 4 < 4 := by omega
          generalize hj1 : k / 4 = j1 at *
          generalize hj2 : k % 4 = j2 at *
          have hn := fill_step (keyL s) 32 k hk32 HKL.out
          rw [keyL_at s k hk32, hj1, hj2] at hn
          have HN := Lib.hid hn
          have J1 := Lib.hid hj1
          have J2 := Lib.hid hj2
          clear hn hj1 hj2 hkl
          go_wp2_with fail
          go_roundw
          case rel =>
            have h2 := HB2.out.set k (.int .u8 (gI s j1 / 2 ^ (8 * j2) % 256))
            rw [numsA_set, HN.out] at h2
            exact ⟨k + 1, by omega, by go_num, HB0.out.far (by simp; omega) _, HB1.out.far (by simp; omega) _, h2, HX.out.set (by simp; omega) _⟩
          case measure => simp [intOf]; omega
        · obtain rfl : k = 32 := by omega
          have hb := HB2.out
          rw [Nat.sub_self, List.replicate_zero, List.append_nil, List.take_of_length_le (by omega), ← HE.out] at hb
          have hl32 : (endL st xs len).length = 32 := by rw [HE.out]; exact HKL.out
          have HB3 := Lib.hid hb
          clear hb
          go_wp2_with (first
            | (refine wpl_loadN HB3.out aggKey hl32 rfl _ rfl rfl ?_)
            | (refine wpl_storeN HB1.out aggKey hl32 hz rfl _ _ rfl rfl rfl rfl ?_))
          refine bodyPost_ret (results_blk rfl _ rfl aggKey hl32 (HB1.out.setRow _)) rfl ?_
          exact ⟨rfl, HX.out.setRow (by omega) _⟩

end Go.Proofs.Ytipeaoanhcjnjaa
/- The statements' key of bytes. No condition. -/
namespace Go.Proofs.Ytipeaoanhcjnjaa
open Go.RowKit
set_option linter.unusedVariables false
set_option linter.unusedSimpArgs false

set_option maxHeartbeats 1000000 in
set_option maxRecDepth 100000 in
theorem l01Hash_any (tag : Int) (ht : 0 ≤ tag ∧ tag ≤ 255) (v : Value) (xs : List Int) (w : World) (S : Nat → Prop) (h : RdL tByte w S v xs) (hl : xs.length ≤ 70368744177664) :
    Calls Try.prog 76 #[.int .u8 tag, v] w fun e w' => e = .returned (.agg (numsA .u8 (hashL tag xs))) ∧ Ext w w' := by
  have H := Lib.hid h
  obtain ⟨A, cap, rfl, hcap, hlen, hz1, hz2⟩ := h
  clear hz1 hz2
  have hk := (hashL_ok tag xs).1
  have he : hashL tag xs = endL (startL tag) xs xs.length := by rw [hashL]
  rw [he] at hk ⊢
  clear he
  go_enter Try.func76, Try.ntmps76
  go_wp2_with fail
  refine (l01Start_any tag ht _).mono ?_
  rintro e w1 ⟨rfl, hx1⟩
  have HX1 := Lib.hid hx1
  clear hx1
  go_wp2_with fail
  refine (l01End_any (startL tag) (startL_length tag) (startL_ok tag ht) _ xs w1 S (H.out.ext (by decide) ((ext_alloc w _).trans HX1.out)) hl xs.length (by omega) (by omega)).mono ?_
  rintro e w2 ⟨rfl, hx2⟩
  have HB := Lib.hid (((Blk.new w 28 _).ext HX1.out).ext hx2)
  have HX := Lib.hid (((ext_alloc w _).trans HX1.out).trans hx2)
  clear hx2 HX1
  go_wp2_with (refine wpl_storeN HB.out aggKey hk rfl rfl _ _ rfl rfl rfl rfl ?_)
  refine bodyPost_ret (results_blk rfl _ rfl aggKey hk (HB.out.setRow _)) rfl ?_
  exact ⟨rfl, HX.out.setRow (Nat.le_refl _) _⟩

end Go.Proofs.Ytipeaoanhcjnjaa
/- Functions that are one key of bytes. No condition. -/
namespace Go.Proofs.Ytipeaoanhcjnjaa
open Go.RowKit
set_option linter.unusedVariables false
set_option linter.unusedSimpArgs false

theorem rd_none (w : World) (S : Nat → Prop) : RdL tByte w S (.slice none 0 0) [] := ⟨none, 0, rfl, Nat.le_refl _, by simp, Rd.nil _ _ _ _, by simp⟩
theorem Own.empty' {α : Type} (T : Ty α) {g : Nat} {w : World} (hg : g = w.heap.size) (e base : Nat) (hb : base ≤ w.heap.size) : Own T e (w.alloc (.cells #[] e)) base (.slice (some ⟨g, 0, none⟩) 0 0) ([] : List α) := by
  subst hg
  exact Own.empty T w e base hb
/-- the key of the empty map -/
def emptyL : List Int := hashL 5 []
theorem emptyL_ok : K32 emptyL := hashL_ok _ _
set_option maxHeartbeats 1000000 in
set_option maxRecDepth 100000 in
theorem l04Empty_any (w : World) : Calls Try.prog 58 #[] w fun e w' => e = .returned (.agg (numsA .u8 emptyL)) ∧ Ext w w' := by
  have hk := emptyL_ok.1
  go_enter Try.func58, Try.ntmps58
  go_wp2_with fail
  refine (l01Hash_any 5 (by decide) _ [] _ _ (Own.empty' tByte (by simp) 5 0 (Nat.zero_le _)).rd (by simp)).mono ?_
  rintro e w1 ⟨rfl, hx⟩
  have HB := Lib.hid (((Blk.new w 28 _).alloc _).ext hx)
  have HX := Lib.hid (((ext_alloc w _).alloc _).trans hx)
  clear hx
  go_wp2_with (refine wpl_storeN HB.out aggKey hk rfl rfl _ _ rfl rfl rfl rfl ?_)
  refine bodyPost_ret (results_blk rfl _ rfl aggKey hk (HB.out.setRow _)) rfl ?_
  exact ⟨rfl, HX.out.setRow (Nat.le_refl _) _⟩

set_option maxHeartbeats 1000000 in
set_option maxRecDepth 100000 in
theorem implEmptyMapKey_any (w : World) : Calls Try.prog 34 #[] w fun e w' => e = .returned (.agg (numsA .u8 emptyL)) ∧ Ext w w' := by
  have hk := emptyL_ok.1
  go_enter Try.func34, Try.ntmps34
  go_wp2_with fail
  refine (hash_any 5 (by decide) _ [] _ _ (rd_none _ (fun _ => True)) (by simp)).mono ?_
  rintro e w1 ⟨rfl, hx⟩
  have HB := Lib.hid ((Blk.new w 28 _).ext hx)
  have HX := Lib.hid ((ext_alloc w _).trans hx)
  clear hx
  go_wp2_with (refine wpl_storeN HB.out aggKey hk rfl rfl _ _ rfl rfl rfl rfl ?_)
  refine bodyPost_ret (results_blk rfl _ rfl aggKey hk (HB.out.setRow _)) rfl ?_
  exact ⟨rfl, HX.out.setRow (Nat.le_refl _) _⟩

end Go.Proofs.Ytipeaoanhcjnjaa
/- Names, and their priorities. No condition. -/
namespace Go.Proofs.Ytipeaoanhcjnjaa
open Go.RowKit
set_option linter.unusedVariables false
set_option linter.unusedSimpArgs false

def prioL (s : ByteArray) : List Int := hashL 4 (strL s)
attribute [irreducible] prioL
end Go.Proofs.Ytipeaoanhcjnjaa
/- The bytes and the key of a node. No condition. -/
namespace Go.Proofs.Ytipeaoanhcjnjaa
open Go.RowKit
set_option linter.unusedVariables false
set_option linter.unusedSimpArgs false

theorem rd_of {w : World} {S : Nat → Prop} {A : Option Addr} {n c : Nat} {xs : List Int} (h : RdL tByte w S (.slice A n c) xs) : Rd w S tByte.sz A xs.length (xs.flatMap tByte.enc) ∧ (∀ y ∈ xs, tByte.ok y) ∧ n = xs.length := by
  obtain ⟨A2, cap2, e, _, _, h1, h2⟩ := h
  injection e with e1 e2 e3
  subst e1
  exact ⟨h1, h2, e2⟩
/-- the bytes of a node -/
@[irreducible] def nodeL (x : Nd) : List Int := x.l ++ x.r ++ [(x.n.size : Int) % 256] ++ strL x.n ++ strL x.v
theorem nodeL_eq (x : Nd) : nodeL x = x.l ++ x.r ++ [(x.n.size : Int) % 256] ++ strL x.n ++ strL x.v := by rw [nodeL]
theorem nodeL_length {x : Nd} (h : x.ok) : (nodeL x).length = 65 + x.n.size + x.v.size := by
  rw [nodeL]; simp only [List.length_append, strL_length, h.1.1, h.2.1.1, List.length_cons, List.length_nil]
set_option maxHeartbeats 1000000 in
set_option maxRecDepth 100000 in
theorem l04Bytes_any (x : Nd) (hok : x.ok) (he : entB x.n x.v = true) (b : Nat) (w : World) (hb : Blk w b 52 x.enc.toArray) :
    Calls Try.prog 77 #[.pointer (some ⟨b, 0, none⟩)] w fun e w' => ∃ v', e = .returned v' ∧ Own tByte 5 w' w.heap.size v' (nodeL x) ∧ Ext w w' := by
  obtain ⟨hn1, hn2, hv⟩ := entB_le he
  have HB := Lib.hid hb
  have HL := Lib.hid hok.1.1
  have HR := Lib.hid hok.2.1.1
  have HLb := Lib.hid hok.1.2
  have HRb := Lib.hid hok.2.1.2
  have HO := Lib.hid hok
  clear hb hok he
  go_enter Try.func77, Try.ntmps77
  go_wp2_with fail
  go_loopw [3, 4] (fun o i wr => ∃ k : Nat, k ≤ 32 ∧ i = .int .i64 k ∧ Own tByte 5 wr w.heap.size o (x.l.take k) ∧ Ext w wr) (fun _ i _ => 32 - (intOf i).toNat)
  case atStart => exact ⟨0, by omega, rfl, by rw [List.take_zero]; exact Own.empty' tByte rfl _ _ (Nat.le_refl _), ext_alloc _ _⟩
  case round =>
    obtain ⟨k, hk, rfl, ho, hx⟩ := hrel
    have HO1 := Lib.hid ho
    have HX := Lib.hid hx
    obtain ⟨C, cn, cc, rfl⟩ := ho.shape3
    clear ho hx
    by_cases hlt : k < 32
    · have hd : wr.cell? ⟨b, k, none⟩ = some (.int .u8 (gI x.l k)) := by
        have := (HB.out.ext HX.out).at_ (0 + k) (Nd.left HO.out k _ (numsA_at .u8 x.l k (by rw [HL.out]; exact hlt)))
        rwa [Nat.zero_add] at this
      have hu := HLb.out.get k
      have HS2 := Lib.hid (take_snoc x.l k (by rw [HL.out]; exact hlt))
      go_wp2_with (at_builtin; refine wpl_append rowByte rfl _ _ rfl (v := .slice C cn cc) rfl (HO1.out.alloc _) _ _ rfl (A := some ⟨wr.heap.size, 0, none⟩) (ys := [gI x.l k]) rfl (rd_byte wr (gI x.l k) hu _) (okOne hu) (by simp; omega) (HX.out.alloc _).size ?_; intro v9 w9 ho1 hg1 hat1; have HX9 := Lib.hid ((HO1.out.alloc _).ext_app (HX.out.alloc _) hg1); have HO9 := Lib.hid ho1; clear ho1 hg1 hat1)
      go_roundw
      case rel => exact ⟨k + 1, by omega, by go_num, by rw [HS2.out]; exact HO9.out, HX9.out⟩
      case measure => simp [intOf]; omega
    · obtain rfl : k = 32 := by omega
      have e : x.l.take 32 = x.l := List.take_of_length_le (by rw [HL.out]; exact Nat.le_refl _)
      rw [e] at HO1
      clear e
      simp only [Int.cast_ofNat_Int]
      go_wp2_with fail
      go_loopw [3, 5] (fun o i wr => ∃ k : Nat, k ≤ 32 ∧ i = .int .i64 k ∧ Own tByte 5 wr w.heap.size o (x.l ++ x.r.take k) ∧ Ext w wr) (fun _ i _ => 32 - (intOf i).toNat)
      case atStart => exact ⟨0, by omega, rfl, by rw [List.take_zero, List.append_nil]; exact HO1.out, HX.out⟩
      case round =>
        clear HO1 HX hlt hk
        obtain ⟨k, hk, rfl, ho, hx⟩ := hrel
        have HO1 := Lib.hid ho
        have HX := Lib.hid hx
        obtain ⟨D, dn, dc, rfl⟩ := ho.shape3
        clear ho hx
        by_cases hlt : k < 32
        · have hd : wr.cell? ⟨b, 32 + k, none⟩ = some (.int .u8 (gI x.r k)) := 
            (HB.out.ext HX.out).at_ (32 + k) (Nd.right HO.out k _ (numsA_at .u8 x.r k (by rw [HR.out]; exact hlt)))
          have hu := HRb.out.get k
          have HS2 := Lib.hid (take_snoc x.r k (by rw [HR.out]; exact hlt))
          go_wp2_with (at_builtin; refine wpl_append rowByte rfl _ _ rfl (v := .slice D dn dc) rfl (HO1.out.alloc _) _ _ rfl (A := some ⟨wr.heap.size, 0, none⟩) (ys := [gI x.r k]) rfl (rd_byte wr (gI x.r k) hu _) (okOne hu) (by simp [HL.out]; omega) (HX.out.alloc _).size ?_; intro v9 w9 ho1 hg1 hat1; have HX9 := Lib.hid ((HO1.out.alloc _).ext_app (HX.out.alloc _) hg1); have HO9 := Lib.hid ho1; clear ho1 hg1 hat1)
          go_roundw
          case rel => exact ⟨k + 1, by omega, by go_num, by rw [HS2.out, ← List.append_assoc]; exact HO9.out, HX9.out⟩
          case measure => simp [intOf]; omega
        · obtain rfl : k = 32 := by omega
          have e : x.r.take 32 = x.r := List.take_of_length_le (by rw [HR.out]; exact Nat.le_refl _)
          rw [e] at HO1
          clear e
          simp only [Int.cast_ofNat_Int]
          have c0 := (HB.out.ext HX.out).at_ 64 (Nd.at64 HO.out)
          have W1 : IntKind.u8.wrap (x.n.size : Int) = x.n.size := by rw [IntKind.wrap_u8]; omega
          have hl1 := strL_length x.n
          have hl2 := strL_length x.v
          have Hl1 := Lib.hid hl1
          have Hl2 := Lib.hid hl2
          have Hlen : Hid ((x.l ++ x.r).length = 64) := Lib.hid (by simp [HL.out, HR.out])
          clear hl1 hl2
          have hu : (0 : Int) ≤ x.n.size ∧ (x.n.size : Int) ≤ 255 := by omega
          go_wp2_with (first
            | (at_builtin; refine wpl_append rowByte rfl _ _ rfl (v := .slice D dn dc) rfl (HO1.out.alloc _) _ _ rfl (A := some ⟨wr.heap.size, 0, none⟩) (ys := [(x.n.size : Int)]) rfl (rd_byte wr (x.n.size : Int) hu _) (okOne hu) (by rw [Hlen.out]; simp) (HX.out.alloc _).size ?_; intro v9 w9 ho1 hg1 hat1; obtain ⟨E1, en, ec, rfl⟩ := ho1.shape3; have HX9 := Lib.hid ((HO1.out.alloc _).ext_app (HX.out.alloc _) hg1); have HO9 := Lib.hid ho1; have c1 := (HB.out.ext HX9.out).at_ 64 (Nd.at64 HO.out); clear ho1 hg1 hat1)
            | (refine wpl_conv (s := x.n) Try.underlying9 Try.underlying37 Try.underlying5 rfl _ rfl rfl (by omega) ?_; intro A1 k1 w10 hr hx; have HX10 := Lib.hid (HX9.out.trans hx); have HO10 := Lib.hid (HO9.out.ext hx); have HR10 := Lib.hid (rd_of hr); clear hr hx)
            | (at_builtin; refine wpl_append rowByte rfl _ _ rfl (v := .slice E1 en ec) rfl HO10.out _ _ rfl (ys := strL x.n) HR10.out.2.2 HR10.out.1 HR10.out.2.1 (by rw [List.length_append, Hlen.out, Hl1.out]; simp; omega) HX10.out.size ?_; intro v11 w11 ho1 hg1 hat1; obtain ⟨G1, gn, gc, rfl⟩ := ho1.shape3; have HX11 := Lib.hid (HO10.out.ext_app HX10.out hg1); have HO11 := Lib.hid ho1; have c2 := (HB.out.ext HX11.out).at_ 65 (Nd.at65 HO.out); clear ho1 hg1 hat1)
            | (refine wpl_conv (s := x.v) Try.underlying9 Try.underlying37 Try.underlying5 rfl _ rfl rfl (by omega) ?_; intro A2 k2 w12 hr hx; have HX12 := Lib.hid (HX11.out.trans hx); have HO12 := Lib.hid (HO11.out.ext hx); have HR12 := Lib.hid (rd_of hr); clear hr hx)
            | (at_builtin; refine wpl_append rowByte rfl _ _ rfl (v := .slice G1 gn gc) rfl HO12.out _ _ rfl (ys := strL x.v) HR12.out.2.2 HR12.out.1 HR12.out.2.1 (by rw [List.length_append, List.length_append, Hlen.out, Hl1.out, Hl2.out]; simp; omega) HX12.out.size ?_; intro v13 w13 ho1 hg1 hat1; have HX13 := Lib.hid (HO12.out.ext_app HX12.out hg1); have HO13 := Lib.hid ho1; clear ho1 hg1 hat1))
          go_ret
          refine ⟨_, rfl, ?_, HX13.out⟩
          have := HO13.out
          rw [nodeL_eq, show (x.n.size : Int) % 256 = x.n.size by omega]
          exact this
set_option maxHeartbeats 1000000 in
set_option maxRecDepth 100000 in
theorem l04NodeKey_any (x : Nd) (hok : x.ok) (he : entB x.n x.v = true) (b : Nat) (w : World) (hb : Blk w b 52 x.enc.toArray) :
    Calls Try.prog 57 #[.pointer (some ⟨b, 0, none⟩)] w fun e w' => e = .returned (.agg (numsA .u8 (hashL 5 (nodeL x)))) ∧ Ext w w' := by
  have hk := (hashL_ok 5 (nodeL x)).1
  have hle := entB_le he
  have hnl := nodeL_length hok
  have Hnl : Hid ((nodeL x).length ≤ 1000) := Lib.hid (by omega)
  have HB := Lib.hid hb
  clear hb hle hnl
  go_enter Try.func57, Try.ntmps57
  go_wp2_with fail
  refine (l04Bytes_any x hok he b _ (HB.out.alloc _)).mono ?_
  rintro e w1 ⟨v1, rfl, ho, hx⟩
  obtain ⟨A1, n1, c1, rfl⟩ := ho.shape3
  have B1 := Lib.hid ((Blk.new w 28 _).ext hx)
  have XW := Lib.hid ((ext_alloc w _).trans hx)
  have HO := Lib.hid ho
  clear hx ho
  go_wp2_with fail
  refine (l01Hash_any 5 (by decide) _ (nodeL x) _ _ HO.out.rd (by have := Hnl.out; omega)).mono ?_
  rintro e w2 ⟨rfl, hx⟩
  replace B1 := Lib.hid (B1.out.ext hx)
  replace XW := Lib.hid (XW.out.trans hx)
  clear hx HO
  go_wp2_with (refine wpl_storeN B1.out aggKey hk rfl rfl _ _ rfl rfl rfl rfl ?_)
  refine bodyPost_ret (results_blk rfl _ rfl aggKey hk (B1.out.setRow _)) rfl ?_
  exact ⟨rfl, XW.out.setRow (by omega) _⟩
end Go.Proofs.Ytipeaoanhcjnjaa
/- Any number of slices of bytes put together. No condition. -/
namespace Go.Proofs.Ytipeaoanhcjnjaa
open Go.RowKit
set_option linter.unusedVariables false
set_option linter.unusedSimpArgs false

/-- all bytes of the first k -/
@[irreducible] def catL (L : List (Value × List Int)) (k : Nat) : List Int := (L.take k).flatMap (·.2)
theorem catL_zero (L : List (Value × List Int)) : catL L 0 = [] := by rw [catL]; simp
theorem catL_succ (L : List (Value × List Int)) (k : Nat) (h : k < L.length) : catL L (k + 1) = catL L k ++ L[k].2 := by
  rw [catL, catL, List.take_succ_eq_append_getElem h, List.flatMap_append, List.flatMap_cons, List.flatMap_nil, List.append_nil]
theorem catL_le (L : List (Value × List Int)) (k : Nat) (h : k ≤ L.length) : (catL L k).length ≤ (catL L L.length).length := by
  rw [catL, catL]
  conv => rhs; rw [← Nat.add_sub_cancel' h, List.take_add]
  simp
set_option maxHeartbeats 1000000 in
set_option maxRecDepth 100000 in
theorem concat_any (g o c : Nat) (L : List (Value × List Int)) (w : World) (S : Nat → Prop) (hrd : ∀ i (h : i < L.length), RdL tByte w S L[i].1 L[i].2) (hc : ∀ i (h : i < L.length), w.cell? ⟨g, o + i, none⟩ = some L[i].1)
    (hL : L.length ≤ 1000) (h0 : 0 < (catL L L.length).length) (hn : (catL L L.length).length ≤ 70368744177664) :
    Calls Try.prog 81 #[.slice (some ⟨g, o, none⟩) L.length c] w fun e w' => ∃ v', e = .returned v' ∧ Own tByte 5 w' w.heap.size v' (catL L L.length) ∧ Ext w w' := by
  have HRD := Lib.hid hrd
  have HC := Lib.hid hc
  have HZ := Lib.hid (catL_zero L)
  clear hrd hc
  go_enter Try.func81, Try.ntmps81
  go_wp2_with fail
  go_loop [3, 11] (fun s i => ∃ k : Nat, k ≤ L.length ∧ i = .int .i64 k ∧ s = .int .i64 (catL L k).length) (fun _ i => L.length - (intOf i).toNat)
  case atStart => exact ⟨0, by omega, rfl, by rw [HZ.out]; rfl⟩
  case round =>
    obtain ⟨k, hk, rfl, rfl⟩ := hrel
    have hle := catL_le L k hk
    by_cases hlt : k < L.length
    · have hle2 := catL_le L (k + 1) hlt
      have HS := Lib.hid (catL_succ L k hlt)
      have hcell := HC.out k hlt
      obtain ⟨A, cap, e, hcap, hlen, _⟩ := HRD.out k hlt
      rw [e] at hcell
      rw [HS.out, List.length_append] at hle2
      have hi : (0 : Int) ≤ (k : Int) := by omega
      go_wp2_with fail
      go_round
      case rel => exact ⟨k + 1, by omega, by go_num, by rw [HS.out, List.length_append]; go_num⟩
      case measure => simp [intOf]; omega
    · obtain rfl : k = L.length := by omega
      have G := grow_any (catL L L.length).length h0 hn w
      have HG := Lib.hid G
      clear G
      go_wp2_with fail
      refine HG.out.mono ?_
      rintro e w1 ⟨v1, rfl, ho, hx⟩
      have HO := Lib.hid ho
      have HX := Lib.hid hx
      clear ho hx
      go_wp2_with fail
      go_loopw [6, 27] (fun v i wr => ∃ k : Nat, k ≤ L.length ∧ i = .int .i64 k ∧ Own tByte 5 wr w.heap.size v (catL L k) ∧ Ext w wr) (fun _ i _ => L.length - (intOf i).toNat)
      case atStart => exact ⟨0, by omega, rfl, by rw [HZ.out]; exact HO.out, HX.out⟩
      case round =>
        clear HO HX hk hle hlt
        obtain ⟨k, hk, rfl, ho, hx⟩ := hrel
        have HX := Lib.hid hx
        have HO := Lib.hid ho
        obtain ⟨B, bn, bc, rfl⟩ := ho.shape3
        have hle := catL_le L k hk
        clear ho hx
        by_cases hlt : k < L.length
        · have hle2 := catL_le L (k + 1) hlt
          have HS := Lib.hid (catL_succ L k hlt)
          have hcell := HX.out.cell (HC.out k hlt)
          obtain ⟨A, cap, e, hcap, hlen, hr1, hok1⟩ := (HRD.out k hlt).ext (by decide) HX.out
          rw [e] at hcell
          rw [HS.out, List.length_append] at hle2
          have HR := Lib.hid hr1
          have HK := Lib.hid hok1
          have hi : (0 : Int) ≤ (k : Int) := by omega
          clear hr1 hok1
          go_wp2_with (at_builtin; refine wpl_append rowByte rfl _ _ rfl (v := .slice B bn bc) rfl HO.out _ _ rfl (ys := L[k].2) (A := A) (S := S) rfl HR.out HK.out (by omega) HX.out.size ?_; intro v1 w1 ho1 hg1 hat1; have HO1 := Lib.hid ho1; have HX1 := Lib.hid (HO.out.ext_app HX.out hg1); clear ho1 hg1 hat1)
          go_roundw
          case rel => exact ⟨k + 1, by omega, by go_num, by rw [HS.out]; exact HO1.out, HX1.out⟩
          case measure => simp [intOf]; omega
        · obtain rfl : k = L.length := by omega
          go_wp2_with fail
          go_ret
          exact ⟨_, rfl, HO.out, HX.out⟩

end Go.Proofs.Ytipeaoanhcjnjaa
/- The program's bytes and key of a node. No condition. -/
namespace Go.Proofs.Ytipeaoanhcjnjaa
open Go.RowKit
set_option linter.unusedVariables false
set_option linter.unusedSimpArgs false

/-- the bytes of a text, in new memory: one step of a region that draws its order -/
theorem stp_conv {P : Program} {ops : Array Oper} {o : Oper} {a : Act} {w : World} {K : Act → World → Prop} {Q : Exit → Act → World → Prop} {E : Prop} {src dst e : TypeId} {s : ByteArray}
    (hs : P.underlying src = some .string) (hd : P.underlying dst = some (.slice e)) (he : P.underlying e = some (.int .u8)) (hgd : o.guard = none) (x : Operand) (ho : o.op = .convert src dst x) (hx : a.eval x = .string s) (hl : s.size ≤ 140737488351232)
    (h : ∀ A c w', RdL tByte w' (fun _ => True) (.slice A s.size c) (strL s) → Ext w w' → K (a.put o.dst (.slice A s.size c)) w') : if Region.wanted o (yielded ops a.tmps) = true then Oper.wp P o a w K Q else E := by
  have hw : Region.wanted o (yielded ops a.tmps) = true := by simp [Region.wanted, hgd]
  rw [if_pos hw]
  unfold Oper.wp execOp
  simp only [ho, hx, Sem.run_bind, Sem.run_pure, Result.andThen_ok, Lib.run_convert_string_bytes w src dst e s hs hd he]
  exact h _ _ _ ((bytesWorld_rd w e s hl).mono fun _ _ => trivial) (bytesWorld_ext w e s)
/-- bytes that lie in a variable -/
theorem rdl_blk {w : World} {g t off n : Nat} {cs : Array Value} {xs : List Int} (hb : Blk w g t cs) (hp : ∀ j u, (numsA .u8 xs)[j]? = some u → cs[off + j]? = some u) (hn : xs.length = n) (h1 : B8 xs) (h2 : n ≤ 1000) (c : Nat) (hc : n ≤ c) : RdL tByte w (fun _ => True) (.slice (some ⟨g, off, none⟩) n c) xs := by
  subst hn
  refine ⟨_, _, rfl, hc, by omega, ⟨by rw [flat_bytes, nums_length]; exact (Nat.mul_one _).symm, fun _ => ⟨g, off, rfl, trivial, fun j u hu => ?_⟩⟩, h1⟩
  rw [hb.cell]
  exact hp j u (by rw [flat_bytes] at hu; simpa [numsA] using hu)
theorem rdl_one {w : World} {g : Nat} {x : Int} (hx : 0 ≤ x ∧ x ≤ 255) (hc : w.cell? ⟨g, 0, none⟩ = some (.int .u8 x)) (c : Nat) (h : 1 ≤ c) : RdL tByte w (fun _ => True) (.slice (some ⟨g, 0, none⟩) 1 c) [x] := by
  refine ⟨_, _, rfl, h, by simp, ⟨by simp [tByte], fun _ => ⟨g, 0, rfl, trivial, fun j u hu => ?_⟩⟩, okOne hx⟩
  simp [tByte] at hu
  obtain ⟨rfl, rfl⟩ : j = 0 ∧ u = .int .u8 x := by
    cases j with
    | zero => simp at hu; exact ⟨rfl, hu.symm⟩
    | succ j => simp at hu
  exact hc
/-- the five parts of a node's bytes put together -/
theorem nodeCat_any (x : Nd) (hok : x.ok) (b : Nat) (v9 v13 : Value) (W : World) (v17 : Value) (hn2 : x.n.size ≤ 24) (B1 : Blk W b 52 x.enc.toArray) (r9 : RdL tByte W (fun _ => True) v9 [(x.n.size : Int)]) (r13 : RdL tByte W (fun _ => True) v13 (strL x.n)) (r17 : RdL tByte W (fun _ => True) v17 (strL x.v))
    (h0 : 0 < (x.l ++ x.r ++ [(x.n.size : Int) % 256] ++ strL x.n ++ strL x.v).length) (h1 : (x.l ++ x.r ++ [(x.n.size : Int) % 256] ++ strL x.n ++ strL x.v).length ≤ 70368744177664) :
    Calls Try.prog 81 #[.slice (some ⟨W.heap.size, 0, none⟩) 5 5] (W.alloc (.cells #[.slice (some ⟨b, 0, none⟩) 32 32, .slice (some ⟨b, 32, none⟩) 32 32, v9, v13, v17] 37)) fun e w' => ∃ v', e = .returned v' ∧ Own tByte 5 w' (W.alloc (.cells #[.slice (some ⟨b, 0, none⟩) 32 32, .slice (some ⟨b, 32, none⟩) 32 32, v9, v13, v17] 37)).heap.size v' (x.l ++ x.r ++ [(x.n.size : Int) % 256] ++ strL x.n ++ strL x.v) ∧ Ext (W.alloc (.cells #[.slice (some ⟨b, 0, none⟩) 32 32, .slice (some ⟨b, 32, none⟩) 32 32, v9, v13, v17] 37)) w' := by
  have e : (x.n.size : Int) % 256 = x.n.size := by omega
  rw [e] at h0 h1 ⊢
  obtain ⟨L, hL⟩ : ∃ L : List (Value × List Int), L = [(.slice (some ⟨b, 0, none⟩) 32 32, x.l), (.slice (some ⟨b, 32, none⟩) 32 32, x.r), (v9, [(x.n.size : Int)]), (v13, strL x.n), (v17, strL x.v)] := ⟨_, rfl⟩
  have hcat : catL L L.length = x.l ++ x.r ++ [(x.n.size : Int)] ++ strL x.n ++ strL x.v := by rw [catL, List.take_length, hL]; simp
  have hrow := Blk.new W 37 #[.slice (some ⟨b, 0, none⟩) 32 32, .slice (some ⟨b, 32, none⟩) 32 32, v9, v13, v17]
  have H := concat_any W.heap.size 0 5 L (W.alloc (.cells #[.slice (some ⟨b, 0, none⟩) 32 32, .slice (some ⟨b, 32, none⟩) 32 32, v9, v13, v17] 37)) (fun _ => True) ?_ ?_ (by rw [hL]; simp) (by rw [hcat]; exact h0) (by rw [hcat]; exact h1)
  · rw [hcat] at H
    rw [show L.length = 5 by rw [hL]; rfl] at H
    exact H
  · have hE := ext_alloc W (.cells #[.slice (some ⟨b, 0, none⟩) 32 32, .slice (some ⟨b, 32, none⟩) 32 32, v9, v13, v17] 37)
    intro i hi
    subst hL
    simp only [List.length_cons, List.length_nil] at hi
    rcases (show i = 0 ∨ i = 1 ∨ i = 2 ∨ i = 3 ∨ i = 4 by omega) with rfl | rfl | rfl | rfl | rfl
    · exact (rdl_blk B1 (Nd.left hok) hok.1.1 hok.1.2 (by decide) 32 (Nat.le_refl _)).ext (by decide) hE
    · exact (rdl_blk B1 (Nd.right hok) hok.2.1.1 hok.2.1.2 (by decide) 32 (Nat.le_refl _)).ext (by decide) hE
    · exact r9.ext (by decide) hE
    · exact r13.ext (by decide) hE
    · exact r17.ext (by decide) hE
  · intro i hi
    subst hL
    simp only [List.length_cons, List.length_nil] at hi
    rcases (show i = 0 ∨ i = 1 ∨ i = 2 ∨ i = 3 ∨ i = 4 by omega) with rfl | rfl | rfl | rfl | rfl <;> exact hrow.at_ _ rfl
set_option maxHeartbeats 1000000 in
set_option maxRecDepth 100000 in
theorem nodeBytes_any (x : Nd) (hok : x.ok) (he : entB x.n x.v = true) (w : World) :
    Calls Try.prog 87 #[.agg x.enc.toArray] w fun e w' => ∃ v', e = .returned v' ∧ Own tByte 5 w' w.heap.size v' (nodeL x) ∧ Ext w w' := by
  obtain ⟨hn1, hn2, hv⟩ := entB_le he
  have HL := Lib.hid hok.1.1
  have HR := Lib.hid hok.2.1.1
  have HO := Lib.hid hok
  have HNL := Lib.hid (nodeL_length hok)
  have HN := Lib.hid (nodeL_eq x)
  have W1 : IntKind.u8.wrap (x.n.size : Int) = x.n.size := by rw [IntKind.wrap_u8]; omega
  have hu : (0 : Int) ≤ x.n.size ∧ (x.n.size : Int) ≤ 255 := by omega
  have B0 := Lib.hid (Blk.new w 52 x.enc.toArray)
  have hc0 : ∀ W, Ext (w.alloc (.cells x.enc.toArray 52)) W → W.cell? ⟨w.heap.size, 64, none⟩ = some (.string x.n) := fun W h => (B0.out.ext h).at_ 64 (Nd.at64 HO.out)
  have hc1 : ∀ W, Ext (w.alloc (.cells x.enc.toArray 52)) W → W.cell? ⟨w.heap.size, 65, none⟩ = some (.string x.v) := fun W h => (B0.out.ext h).at_ 65 (Nd.at65 HO.out)
  clear hok he
  go_enter Try.func87, Try.ntmps87
  go_wp2_with fail
  refine wp_region_held_drew (S := fun W => Ext (w.alloc (.cells x.enc.toArray 52)) W) (by kernel_rfl) (Ext.refl _).drew (fun hHeld => ?_)
  iterate 9
    refine tkD 0 (by simp only [List.size_toArray, List.length_cons, List.length_nil]; rfl) (by simp only [List.getElem?_toArray, List.getElem?_cons_zero, List.getElem?_cons_succ]; rfl) (by kernel_rfl) (by exact fun _ _ _ h => h) (by first | (exact Or.inl ⟨by rfl, by intro w hSw; (try dsimp only at hSw); go_simp; with_reducible rfl⟩) | (exact Or.inr ⟨by rfl, by rfl⟩)) (by assumption) ?_
    try simp only [Act.put, List.setIfInBounds_toArray, List.set_cons_zero, List.set_cons_succ]
  iterate 3
    refine tkD 1 (by simp only [List.size_toArray, List.length_cons, List.length_nil]; rfl) (by simp only [List.getElem?_toArray, List.getElem?_cons_zero, List.getElem?_cons_succ]; rfl) (by kernel_rfl) (by exact fun _ _ _ h => h) (by first | (exact Or.inl ⟨by rfl, by intro w hSw; (try dsimp only at hSw); go_simp; with_reducible rfl⟩) | (exact Or.inr ⟨by rfl, by rfl⟩)) (by assumption) ?_
    try simp only [Act.put, List.setIfInBounds_toArray, List.set_cons_zero, List.set_cons_succ]
  iterate 3
    refine tkD 2 (by simp only [List.size_toArray, List.length_cons, List.length_nil]; rfl) (by simp only [List.getElem?_toArray, List.getElem?_cons_zero, List.getElem?_cons_succ]; rfl) (by kernel_rfl) (by exact fun _ _ _ h => h) (by first | (exact Or.inl ⟨by rfl, by intro w hSw; (try dsimp only at hSw); go_simp; with_reducible rfl⟩) | (exact Or.inr ⟨by rfl, by rfl⟩)) (by assumption) ?_
    try simp only [Act.put, List.setIfInBounds_toArray, List.set_cons_zero, List.set_cons_succ]
  have XW := Lib.hid (ext_alloc w (.cells x.enc.toArray 52))
  generalize World.drew (World.alloc w (.cells x.enc.toArray 52)) = w0 at hHeld ⊢
  refine wpAnyH_ready (rs := [9, 13, 17]) (by kernel_rfl) (by simp) (AllReadyH.cons (o := ?oy169) ?hy169 (fun K hK => ?sy169) (AllReadyH.cons (o := ?oy1613) ?hy1613 (fun K hK => ?sy1613) (AllReadyH.cons (o := ?oy1617) ?hy1617 (fun K hK => ?sy1617) AllReadyH.nil)))
  case hy169 => simp only [List.getElem?_toArray, List.getElem?_cons_zero, List.getElem?_cons_succ]; rfl
  case hy1613 => simp only [List.getElem?_toArray, List.getElem?_cons_zero, List.getElem?_cons_succ]; rfl
  case hy1617 => simp only [List.getElem?_toArray, List.getElem?_cons_zero, List.getElem?_cons_succ]; rfl
  case sy169 =>
    go_simp
    obtain ⟨p1, hp1⟩ : ∃ W, W = World.alloc w0 (.cells #[.int .u8 x.n.size] 5) := ⟨_, rfl⟩
    have hx : Ext w0 p1 := by rw [hp1]; exact ext_alloc _ _
    have r9 : p1.cell? ⟨w0.heap.size, 0, none⟩ = some (.int .u8 x.n.size) := by rw [hp1]; exact (Blk.new _ _ _).at_ 0 rfl
    have R9 := Lib.hid (rdl_one hu r9 1 (Nat.le_refl _))
    clear r9
    rw [← hp1]
    clear hp1
    have hH2 := hHeld.trans hx
    refine hK.out _ _ hH2 (fun _ => ?_)
    clear hHeld hK K
    have hHeld := hH2
    clear hH2 hx
    try simp only [Act.put, List.setIfInBounds_toArray, List.set_cons_zero, List.set_cons_succ]
    refine wpAnyH_ready (rs := [13, 17]) (by kernel_rfl) (by simp) (AllReadyH.cons (o := ?oy1713) ?hy1713 (fun K hK => ?sy1713) (AllReadyH.cons (o := ?oy1717) ?hy1717 (fun K hK => ?sy1717) AllReadyH.nil))
    case hy1713 => simp only [List.getElem?_toArray, List.getElem?_cons_zero, List.getElem?_cons_succ]; rfl
    case hy1717 => simp only [List.getElem?_toArray, List.getElem?_cons_zero, List.getElem?_cons_succ]; rfl
    case sy1713 =>
      refine stp_conv (s := x.n) Try.underlying9 Try.underlying37 Try.underlying5 rfl (.tmp 15) rfl rfl (by omega) ?_
      intro A13 c13 p2 hr hx
      have R13 := Lib.hid hr
      clear hr
      replace R9 := Lib.hid (R9.out.ext (by decide) hx)
      have hH2 := hHeld.trans hx
      refine hK.out _ _ hH2 (fun _ => ?_)
      clear hHeld hK K
      have hHeld := hH2
      clear hH2 hx
      try simp only [Act.put, List.setIfInBounds_toArray, List.set_cons_zero, List.set_cons_succ]
      refine wpAnyH_ready (rs := [17]) (by kernel_rfl) (by simp) (AllReadyH.cons (o := ?oy1817) ?hy1817 (fun K hK => ?sy1817) AllReadyH.nil)
      case hy1817 => simp only [List.getElem?_toArray, List.getElem?_cons_zero, List.getElem?_cons_succ]; rfl
      case sy1817 =>
        refine stp_conv (s := x.v) Try.underlying9 Try.underlying37 Try.underlying5 rfl (.tmp 19) rfl rfl (by omega) ?_
        intro A17 c17 p3 hr hx
        have R17 := Lib.hid hr
        clear hr
        replace R9 := Lib.hid (R9.out.ext (by decide) hx)
        replace R13 := Lib.hid (R13.out.ext (by decide) hx)
        have hH2 := hHeld.trans hx
        refine hK.out _ _ hH2 (fun _ => ?_)
        clear hHeld hK K
        have hHeld := hH2
        clear hH2 hx
        try simp only [Act.put, List.setIfInBounds_toArray, List.set_cons_zero, List.set_cons_succ]
        refine wpAnyH_ready (rs := [18]) (by kernel_rfl) (by simp) (AllReadyH.cons (o := ?oy1918) ?hy1918 (fun K hK => ?sy1918) AllReadyH.nil)
        case hy1918 => simp only [List.getElem?_toArray, List.getElem?_cons_zero, List.getElem?_cons_succ]; rfl
        case sy1918 =>
          go_simp
          refine hK.out _ _ (hHeld.alloc _) (fun _ => ?_)
          clear hK K
          try simp only [Act.put, List.setIfInBounds_toArray, List.set_cons_zero, List.set_cons_succ]
          have B1 := Lib.hid (B0.out.ext hHeld)
          refine wpAnyH_ready (rs := [19]) (by kernel_rfl) (by simp) (AllReadyH.cons (o := ?oy2019) ?hy2019 (fun K hK => ?sy2019) AllReadyH.nil)
          case hy2019 => simp only [List.getElem?_toArray, List.getElem?_cons_zero, List.getElem?_cons_succ]; rfl
          case sy2019 =>
            go_simp
            refine (nodeCat_any x HO.out w.heap.size _ _ p3 _ hn2 B1.out R9.out R13.out R17.out (by rw [← HN.out, HNL.out]; omega) (by rw [← HN.out, HNL.out]; omega)).mono ?_
            rintro e q ⟨v1, rfl, ho, hx⟩
            rw [← HN.out] at ho
            obtain ⟨A1, n1, c1, rfl⟩ := ho.shape3
            have HO1 := Lib.hid ho
            clear ho
            have hH2 := (hHeld.alloc _).trans hx
            refine hK.out _ _ hH2 (fun _ => ?_)
            clear hK K
            try simp only [Act.put, List.setIfInBounds_toArray, List.set_cons_zero, List.set_cons_succ]
            have HE := Lib.hid (XW.out.trans hH2)
            have HG := Lib.hid (show w.heap.size ≤ _ from (XW.out.trans hHeld).size)
            clear hx hHeld
            refine tkI 20 (by simp only [List.getElem?_toArray, List.getElem?_cons_zero, List.getElem?_cons_succ]; rfl) (by kernel_rfl) (by exact fun _ _ _ h => h) (by first | (exact Or.inl ⟨by rfl, by intro w hSw; (try dsimp only at hSw); go_simp; with_reducible rfl⟩) | (exact Or.inr ⟨by rfl, by rfl⟩)) (by assumption) ?_
            try simp only [Act.put, List.setIfInBounds_toArray, List.set_cons_zero, List.set_cons_succ]
            refine wpAnyH_done (by kernel_rfl) ?_ _
            go_wp2_with fail
            go_ret
            exact ⟨_, rfl, HO1.out.le (by have := HG.out; simp; omega), HE.out⟩
    case sy1717 =>
      refine stp_conv (s := x.v) Try.underlying9 Try.underlying37 Try.underlying5 rfl (.tmp 19) rfl rfl (by omega) ?_
      intro A17 c17 p4 hr hx
      have R17 := Lib.hid hr
      clear hr
      replace R9 := Lib.hid (R9.out.ext (by decide) hx)
      have hH2 := hHeld.trans hx
      refine hK.out _ _ hH2 (fun _ => ?_)
      clear hHeld hK K
      have hHeld := hH2
      clear hH2 hx
      try simp only [Act.put, List.setIfInBounds_toArray, List.set_cons_zero, List.set_cons_succ]
      refine wpAnyH_ready (rs := [13]) (by kernel_rfl) (by simp) (AllReadyH.cons (o := ?oy2213) ?hy2213 (fun K hK => ?sy2213) AllReadyH.nil)
      case hy2213 => simp only [List.getElem?_toArray, List.getElem?_cons_zero, List.getElem?_cons_succ]; rfl
      case sy2213 =>
        refine stp_conv (s := x.n) Try.underlying9 Try.underlying37 Try.underlying5 rfl (.tmp 15) rfl rfl (by omega) ?_
        intro A13 c13 p5 hr hx
        have R13 := Lib.hid hr
        clear hr
        replace R9 := Lib.hid (R9.out.ext (by decide) hx)
        replace R17 := Lib.hid (R17.out.ext (by decide) hx)
        have hH2 := hHeld.trans hx
        refine hK.out _ _ hH2 (fun _ => ?_)
        clear hHeld hK K
        have hHeld := hH2
        clear hH2 hx
        try simp only [Act.put, List.setIfInBounds_toArray, List.set_cons_zero, List.set_cons_succ]
        refine wpAnyH_ready (rs := [18]) (by kernel_rfl) (by simp) (AllReadyH.cons (o := ?oy2318) ?hy2318 (fun K hK => ?sy2318) AllReadyH.nil)
        case hy2318 => simp only [List.getElem?_toArray, List.getElem?_cons_zero, List.getElem?_cons_succ]; rfl
        case sy2318 =>
          go_simp
          refine hK.out _ _ (hHeld.alloc _) (fun _ => ?_)
          clear hK K
          try simp only [Act.put, List.setIfInBounds_toArray, List.set_cons_zero, List.set_cons_succ]
          have B1 := Lib.hid (B0.out.ext hHeld)
          refine wpAnyH_ready (rs := [19]) (by kernel_rfl) (by simp) (AllReadyH.cons (o := ?oy2419) ?hy2419 (fun K hK => ?sy2419) AllReadyH.nil)
          case hy2419 => simp only [List.getElem?_toArray, List.getElem?_cons_zero, List.getElem?_cons_succ]; rfl
          case sy2419 =>
            go_simp
            refine (nodeCat_any x HO.out w.heap.size _ _ p5 _ hn2 B1.out R9.out R13.out R17.out (by rw [← HN.out, HNL.out]; omega) (by rw [← HN.out, HNL.out]; omega)).mono ?_
            rintro e q ⟨v1, rfl, ho, hx⟩
            rw [← HN.out] at ho
            obtain ⟨A1, n1, c1, rfl⟩ := ho.shape3
            have HO1 := Lib.hid ho
            clear ho
            have hH2 := (hHeld.alloc _).trans hx
            refine hK.out _ _ hH2 (fun _ => ?_)
            clear hK K
            try simp only [Act.put, List.setIfInBounds_toArray, List.set_cons_zero, List.set_cons_succ]
            have HE := Lib.hid (XW.out.trans hH2)
            have HG := Lib.hid (show w.heap.size ≤ _ from (XW.out.trans hHeld).size)
            clear hx hHeld
            refine tkI 20 (by simp only [List.getElem?_toArray, List.getElem?_cons_zero, List.getElem?_cons_succ]; rfl) (by kernel_rfl) (by exact fun _ _ _ h => h) (by first | (exact Or.inl ⟨by rfl, by intro w hSw; (try dsimp only at hSw); go_simp; with_reducible rfl⟩) | (exact Or.inr ⟨by rfl, by rfl⟩)) (by assumption) ?_
            try simp only [Act.put, List.setIfInBounds_toArray, List.set_cons_zero, List.set_cons_succ]
            refine wpAnyH_done (by kernel_rfl) ?_ _
            go_wp2_with fail
            go_ret
            exact ⟨_, rfl, HO1.out.le (by have := HG.out; simp; omega), HE.out⟩
  case sy1613 =>
    refine stp_conv (s := x.n) Try.underlying9 Try.underlying37 Try.underlying5 rfl (.tmp 15) rfl rfl (by omega) ?_
    intro A13 c13 p6 hr hx
    have R13 := Lib.hid hr
    clear hr
    have hH2 := hHeld.trans hx
    refine hK.out _ _ hH2 (fun _ => ?_)
    clear hHeld hK K
    have hHeld := hH2
    clear hH2 hx
    try simp only [Act.put, List.setIfInBounds_toArray, List.set_cons_zero, List.set_cons_succ]
    refine wpAnyH_ready (rs := [9, 17]) (by kernel_rfl) (by simp) (AllReadyH.cons (o := ?oy269) ?hy269 (fun K hK => ?sy269) (AllReadyH.cons (o := ?oy2617) ?hy2617 (fun K hK => ?sy2617) AllReadyH.nil))
    case hy269 => simp only [List.getElem?_toArray, List.getElem?_cons_zero, List.getElem?_cons_succ]; rfl
    case hy2617 => simp only [List.getElem?_toArray, List.getElem?_cons_zero, List.getElem?_cons_succ]; rfl
    case sy269 =>
      go_simp
      obtain ⟨p7, hp7⟩ : ∃ W, W = World.alloc p6 (.cells #[.int .u8 x.n.size] 5) := ⟨_, rfl⟩
      have hx : Ext p6 p7 := by rw [hp7]; exact ext_alloc _ _
      have r9 : p7.cell? ⟨p6.heap.size, 0, none⟩ = some (.int .u8 x.n.size) := by rw [hp7]; exact (Blk.new _ _ _).at_ 0 rfl
      have R9 := Lib.hid (rdl_one hu r9 1 (Nat.le_refl _))
      clear r9
      rw [← hp7]
      clear hp7
      replace R13 := Lib.hid (R13.out.ext (by decide) hx)
      have hH2 := hHeld.trans hx
      refine hK.out _ _ hH2 (fun _ => ?_)
      clear hHeld hK K
      have hHeld := hH2
      clear hH2 hx
      try simp only [Act.put, List.setIfInBounds_toArray, List.set_cons_zero, List.set_cons_succ]
      refine wpAnyH_ready (rs := [17]) (by kernel_rfl) (by simp) (AllReadyH.cons (o := ?oy2717) ?hy2717 (fun K hK => ?sy2717) AllReadyH.nil)
      case hy2717 => simp only [List.getElem?_toArray, List.getElem?_cons_zero, List.getElem?_cons_succ]; rfl
      case sy2717 =>
        refine stp_conv (s := x.v) Try.underlying9 Try.underlying37 Try.underlying5 rfl (.tmp 19) rfl rfl (by omega) ?_
        intro A17 c17 p8 hr hx
        have R17 := Lib.hid hr
        clear hr
        replace R13 := Lib.hid (R13.out.ext (by decide) hx)
        replace R9 := Lib.hid (R9.out.ext (by decide) hx)
        have hH2 := hHeld.trans hx
        refine hK.out _ _ hH2 (fun _ => ?_)
        clear hHeld hK K
        have hHeld := hH2
        clear hH2 hx
        try simp only [Act.put, List.setIfInBounds_toArray, List.set_cons_zero, List.set_cons_succ]
        refine wpAnyH_ready (rs := [18]) (by kernel_rfl) (by simp) (AllReadyH.cons (o := ?oy2818) ?hy2818 (fun K hK => ?sy2818) AllReadyH.nil)
        case hy2818 => simp only [List.getElem?_toArray, List.getElem?_cons_zero, List.getElem?_cons_succ]; rfl
        case sy2818 =>
          go_simp
          refine hK.out _ _ (hHeld.alloc _) (fun _ => ?_)
          clear hK K
          try simp only [Act.put, List.setIfInBounds_toArray, List.set_cons_zero, List.set_cons_succ]
          have B1 := Lib.hid (B0.out.ext hHeld)
          refine wpAnyH_ready (rs := [19]) (by kernel_rfl) (by simp) (AllReadyH.cons (o := ?oy2919) ?hy2919 (fun K hK => ?sy2919) AllReadyH.nil)
          case hy2919 => simp only [List.getElem?_toArray, List.getElem?_cons_zero, List.getElem?_cons_succ]; rfl
          case sy2919 =>
            go_simp
            refine (nodeCat_any x HO.out w.heap.size _ _ p8 _ hn2 B1.out R9.out R13.out R17.out (by rw [← HN.out, HNL.out]; omega) (by rw [← HN.out, HNL.out]; omega)).mono ?_
            rintro e q ⟨v1, rfl, ho, hx⟩
            rw [← HN.out] at ho
            obtain ⟨A1, n1, c1, rfl⟩ := ho.shape3
            have HO1 := Lib.hid ho
            clear ho
            have hH2 := (hHeld.alloc _).trans hx
            refine hK.out _ _ hH2 (fun _ => ?_)
            clear hK K
            try simp only [Act.put, List.setIfInBounds_toArray, List.set_cons_zero, List.set_cons_succ]
            have HE := Lib.hid (XW.out.trans hH2)
            have HG := Lib.hid (show w.heap.size ≤ _ from (XW.out.trans hHeld).size)
            clear hx hHeld
            refine tkI 20 (by simp only [List.getElem?_toArray, List.getElem?_cons_zero, List.getElem?_cons_succ]; rfl) (by kernel_rfl) (by exact fun _ _ _ h => h) (by first | (exact Or.inl ⟨by rfl, by intro w hSw; (try dsimp only at hSw); go_simp; with_reducible rfl⟩) | (exact Or.inr ⟨by rfl, by rfl⟩)) (by assumption) ?_
            try simp only [Act.put, List.setIfInBounds_toArray, List.set_cons_zero, List.set_cons_succ]
            refine wpAnyH_done (by kernel_rfl) ?_ _
            go_wp2_with fail
            go_ret
            exact ⟨_, rfl, HO1.out.le (by have := HG.out; simp; omega), HE.out⟩
    case sy2617 =>
      refine stp_conv (s := x.v) Try.underlying9 Try.underlying37 Try.underlying5 rfl (.tmp 19) rfl rfl (by omega) ?_
      intro A17 c17 p9 hr hx
      have R17 := Lib.hid hr
      clear hr
      replace R13 := Lib.hid (R13.out.ext (by decide) hx)
      have hH2 := hHeld.trans hx
      refine hK.out _ _ hH2 (fun _ => ?_)
      clear hHeld hK K
      have hHeld := hH2
      clear hH2 hx
      try simp only [Act.put, List.setIfInBounds_toArray, List.set_cons_zero, List.set_cons_succ]
      refine wpAnyH_ready (rs := [9]) (by kernel_rfl) (by simp) (AllReadyH.cons (o := ?oy319) ?hy319 (fun K hK => ?sy319) AllReadyH.nil)
      case hy319 => simp only [List.getElem?_toArray, List.getElem?_cons_zero, List.getElem?_cons_succ]; rfl
      case sy319 =>
        go_simp
        obtain ⟨p10, hp10⟩ : ∃ W, W = World.alloc p9 (.cells #[.int .u8 x.n.size] 5) := ⟨_, rfl⟩
        have hx : Ext p9 p10 := by rw [hp10]; exact ext_alloc _ _
        have r9 : p10.cell? ⟨p9.heap.size, 0, none⟩ = some (.int .u8 x.n.size) := by rw [hp10]; exact (Blk.new _ _ _).at_ 0 rfl
        have R9 := Lib.hid (rdl_one hu r9 1 (Nat.le_refl _))
        clear r9
        rw [← hp10]
        clear hp10
        replace R13 := Lib.hid (R13.out.ext (by decide) hx)
        replace R17 := Lib.hid (R17.out.ext (by decide) hx)
        have hH2 := hHeld.trans hx
        refine hK.out _ _ hH2 (fun _ => ?_)
        clear hHeld hK K
        have hHeld := hH2
        clear hH2 hx
        try simp only [Act.put, List.setIfInBounds_toArray, List.set_cons_zero, List.set_cons_succ]
        refine wpAnyH_ready (rs := [18]) (by kernel_rfl) (by simp) (AllReadyH.cons (o := ?oy3218) ?hy3218 (fun K hK => ?sy3218) AllReadyH.nil)
        case hy3218 => simp only [List.getElem?_toArray, List.getElem?_cons_zero, List.getElem?_cons_succ]; rfl
        case sy3218 =>
          go_simp
          refine hK.out _ _ (hHeld.alloc _) (fun _ => ?_)
          clear hK K
          try simp only [Act.put, List.setIfInBounds_toArray, List.set_cons_zero, List.set_cons_succ]
          have B1 := Lib.hid (B0.out.ext hHeld)
          refine wpAnyH_ready (rs := [19]) (by kernel_rfl) (by simp) (AllReadyH.cons (o := ?oy3319) ?hy3319 (fun K hK => ?sy3319) AllReadyH.nil)
          case hy3319 => simp only [List.getElem?_toArray, List.getElem?_cons_zero, List.getElem?_cons_succ]; rfl
          case sy3319 =>
            go_simp
            refine (nodeCat_any x HO.out w.heap.size _ _ p10 _ hn2 B1.out R9.out R13.out R17.out (by rw [← HN.out, HNL.out]; omega) (by rw [← HN.out, HNL.out]; omega)).mono ?_
            rintro e q ⟨v1, rfl, ho, hx⟩
            rw [← HN.out] at ho
            obtain ⟨A1, n1, c1, rfl⟩ := ho.shape3
            have HO1 := Lib.hid ho
            clear ho
            have hH2 := (hHeld.alloc _).trans hx
            refine hK.out _ _ hH2 (fun _ => ?_)
            clear hK K
            try simp only [Act.put, List.setIfInBounds_toArray, List.set_cons_zero, List.set_cons_succ]
            have HE := Lib.hid (XW.out.trans hH2)
            have HG := Lib.hid (show w.heap.size ≤ _ from (XW.out.trans hHeld).size)
            clear hx hHeld
            refine tkI 20 (by simp only [List.getElem?_toArray, List.getElem?_cons_zero, List.getElem?_cons_succ]; rfl) (by kernel_rfl) (by exact fun _ _ _ h => h) (by first | (exact Or.inl ⟨by rfl, by intro w hSw; (try dsimp only at hSw); go_simp; with_reducible rfl⟩) | (exact Or.inr ⟨by rfl, by rfl⟩)) (by assumption) ?_
            try simp only [Act.put, List.setIfInBounds_toArray, List.set_cons_zero, List.set_cons_succ]
            refine wpAnyH_done (by kernel_rfl) ?_ _
            go_wp2_with fail
            go_ret
            exact ⟨_, rfl, HO1.out.le (by have := HG.out; simp; omega), HE.out⟩
  case sy1617 =>
    refine stp_conv (s := x.v) Try.underlying9 Try.underlying37 Try.underlying5 rfl (.tmp 19) rfl rfl (by omega) ?_
    intro A17 c17 p11 hr hx
    have R17 := Lib.hid hr
    clear hr
    have hH2 := hHeld.trans hx
    refine hK.out _ _ hH2 (fun _ => ?_)
    clear hHeld hK K
    have hHeld := hH2
    clear hH2 hx
    try simp only [Act.put, List.setIfInBounds_toArray, List.set_cons_zero, List.set_cons_succ]
    refine wpAnyH_ready (rs := [9, 13]) (by kernel_rfl) (by simp) (AllReadyH.cons (o := ?oy359) ?hy359 (fun K hK => ?sy359) (AllReadyH.cons (o := ?oy3513) ?hy3513 (fun K hK => ?sy3513) AllReadyH.nil))
    case hy359 => simp only [List.getElem?_toArray, List.getElem?_cons_zero, List.getElem?_cons_succ]; rfl
    case hy3513 => simp only [List.getElem?_toArray, List.getElem?_cons_zero, List.getElem?_cons_succ]; rfl
    case sy359 =>
      go_simp
      obtain ⟨p12, hp12⟩ : ∃ W, W = World.alloc p11 (.cells #[.int .u8 x.n.size] 5) := ⟨_, rfl⟩
      have hx : Ext p11 p12 := by rw [hp12]; exact ext_alloc _ _
      have r9 : p12.cell? ⟨p11.heap.size, 0, none⟩ = some (.int .u8 x.n.size) := by rw [hp12]; exact (Blk.new _ _ _).at_ 0 rfl
      have R9 := Lib.hid (rdl_one hu r9 1 (Nat.le_refl _))
      clear r9
      rw [← hp12]
      clear hp12
      replace R17 := Lib.hid (R17.out.ext (by decide) hx)
      have hH2 := hHeld.trans hx
      refine hK.out _ _ hH2 (fun _ => ?_)
      clear hHeld hK K
      have hHeld := hH2
      clear hH2 hx
      try simp only [Act.put, List.setIfInBounds_toArray, List.set_cons_zero, List.set_cons_succ]
      refine wpAnyH_ready (rs := [13]) (by kernel_rfl) (by simp) (AllReadyH.cons (o := ?oy3613) ?hy3613 (fun K hK => ?sy3613) AllReadyH.nil)
      case hy3613 => simp only [List.getElem?_toArray, List.getElem?_cons_zero, List.getElem?_cons_succ]; rfl
      case sy3613 =>
        refine stp_conv (s := x.n) Try.underlying9 Try.underlying37 Try.underlying5 rfl (.tmp 15) rfl rfl (by omega) ?_
        intro A13 c13 p13 hr hx
        have R13 := Lib.hid hr
        clear hr
        replace R17 := Lib.hid (R17.out.ext (by decide) hx)
        replace R9 := Lib.hid (R9.out.ext (by decide) hx)
        have hH2 := hHeld.trans hx
        refine hK.out _ _ hH2 (fun _ => ?_)
        clear hHeld hK K
        have hHeld := hH2
        clear hH2 hx
        try simp only [Act.put, List.setIfInBounds_toArray, List.set_cons_zero, List.set_cons_succ]
        refine wpAnyH_ready (rs := [18]) (by kernel_rfl) (by simp) (AllReadyH.cons (o := ?oy3718) ?hy3718 (fun K hK => ?sy3718) AllReadyH.nil)
        case hy3718 => simp only [List.getElem?_toArray, List.getElem?_cons_zero, List.getElem?_cons_succ]; rfl
        case sy3718 =>
          go_simp
          refine hK.out _ _ (hHeld.alloc _) (fun _ => ?_)
          clear hK K
          try simp only [Act.put, List.setIfInBounds_toArray, List.set_cons_zero, List.set_cons_succ]
          have B1 := Lib.hid (B0.out.ext hHeld)
          refine wpAnyH_ready (rs := [19]) (by kernel_rfl) (by simp) (AllReadyH.cons (o := ?oy3819) ?hy3819 (fun K hK => ?sy3819) AllReadyH.nil)
          case hy3819 => simp only [List.getElem?_toArray, List.getElem?_cons_zero, List.getElem?_cons_succ]; rfl
          case sy3819 =>
            go_simp
            refine (nodeCat_any x HO.out w.heap.size _ _ p13 _ hn2 B1.out R9.out R13.out R17.out (by rw [← HN.out, HNL.out]; omega) (by rw [← HN.out, HNL.out]; omega)).mono ?_
            rintro e q ⟨v1, rfl, ho, hx⟩
            rw [← HN.out] at ho
            obtain ⟨A1, n1, c1, rfl⟩ := ho.shape3
            have HO1 := Lib.hid ho
            clear ho
            have hH2 := (hHeld.alloc _).trans hx
            refine hK.out _ _ hH2 (fun _ => ?_)
            clear hK K
            try simp only [Act.put, List.setIfInBounds_toArray, List.set_cons_zero, List.set_cons_succ]
            have HE := Lib.hid (XW.out.trans hH2)
            have HG := Lib.hid (show w.heap.size ≤ _ from (XW.out.trans hHeld).size)
            clear hx hHeld
            refine tkI 20 (by simp only [List.getElem?_toArray, List.getElem?_cons_zero, List.getElem?_cons_succ]; rfl) (by kernel_rfl) (by exact fun _ _ _ h => h) (by first | (exact Or.inl ⟨by rfl, by intro w hSw; (try dsimp only at hSw); go_simp; with_reducible rfl⟩) | (exact Or.inr ⟨by rfl, by rfl⟩)) (by assumption) ?_
            try simp only [Act.put, List.setIfInBounds_toArray, List.set_cons_zero, List.set_cons_succ]
            refine wpAnyH_done (by kernel_rfl) ?_ _
            go_wp2_with fail
            go_ret
            exact ⟨_, rfl, HO1.out.le (by have := HG.out; simp; omega), HE.out⟩
    case sy3513 =>
      refine stp_conv (s := x.n) Try.underlying9 Try.underlying37 Try.underlying5 rfl (.tmp 15) rfl rfl (by omega) ?_
      intro A13 c13 p14 hr hx
      have R13 := Lib.hid hr
      clear hr
      replace R17 := Lib.hid (R17.out.ext (by decide) hx)
      have hH2 := hHeld.trans hx
      refine hK.out _ _ hH2 (fun _ => ?_)
      clear hHeld hK K
      have hHeld := hH2
      clear hH2 hx
      try simp only [Act.put, List.setIfInBounds_toArray, List.set_cons_zero, List.set_cons_succ]
      refine wpAnyH_ready (rs := [9]) (by kernel_rfl) (by simp) (AllReadyH.cons (o := ?oy409) ?hy409 (fun K hK => ?sy409) AllReadyH.nil)
      case hy409 => simp only [List.getElem?_toArray, List.getElem?_cons_zero, List.getElem?_cons_succ]; rfl
      case sy409 =>
        go_simp
        obtain ⟨p15, hp15⟩ : ∃ W, W = World.alloc p14 (.cells #[.int .u8 x.n.size] 5) := ⟨_, rfl⟩
        have hx : Ext p14 p15 := by rw [hp15]; exact ext_alloc _ _
        have r9 : p15.cell? ⟨p14.heap.size, 0, none⟩ = some (.int .u8 x.n.size) := by rw [hp15]; exact (Blk.new _ _ _).at_ 0 rfl
        have R9 := Lib.hid (rdl_one hu r9 1 (Nat.le_refl _))
        clear r9
        rw [← hp15]
        clear hp15
        replace R17 := Lib.hid (R17.out.ext (by decide) hx)
        replace R13 := Lib.hid (R13.out.ext (by decide) hx)
        have hH2 := hHeld.trans hx
        refine hK.out _ _ hH2 (fun _ => ?_)
        clear hHeld hK K
        have hHeld := hH2
        clear hH2 hx
        try simp only [Act.put, List.setIfInBounds_toArray, List.set_cons_zero, List.set_cons_succ]
        refine wpAnyH_ready (rs := [18]) (by kernel_rfl) (by simp) (AllReadyH.cons (o := ?oy4118) ?hy4118 (fun K hK => ?sy4118) AllReadyH.nil)
        case hy4118 => simp only [List.getElem?_toArray, List.getElem?_cons_zero, List.getElem?_cons_succ]; rfl
        case sy4118 =>
          go_simp
          refine hK.out _ _ (hHeld.alloc _) (fun _ => ?_)
          clear hK K
          try simp only [Act.put, List.setIfInBounds_toArray, List.set_cons_zero, List.set_cons_succ]
          have B1 := Lib.hid (B0.out.ext hHeld)
          refine wpAnyH_ready (rs := [19]) (by kernel_rfl) (by simp) (AllReadyH.cons (o := ?oy4219) ?hy4219 (fun K hK => ?sy4219) AllReadyH.nil)
          case hy4219 => simp only [List.getElem?_toArray, List.getElem?_cons_zero, List.getElem?_cons_succ]; rfl
          case sy4219 =>
            go_simp
            refine (nodeCat_any x HO.out w.heap.size _ _ p15 _ hn2 B1.out R9.out R13.out R17.out (by rw [← HN.out, HNL.out]; omega) (by rw [← HN.out, HNL.out]; omega)).mono ?_
            rintro e q ⟨v1, rfl, ho, hx⟩
            rw [← HN.out] at ho
            obtain ⟨A1, n1, c1, rfl⟩ := ho.shape3
            have HO1 := Lib.hid ho
            clear ho
            have hH2 := (hHeld.alloc _).trans hx
            refine hK.out _ _ hH2 (fun _ => ?_)
            clear hK K
            try simp only [Act.put, List.setIfInBounds_toArray, List.set_cons_zero, List.set_cons_succ]
            have HE := Lib.hid (XW.out.trans hH2)
            have HG := Lib.hid (show w.heap.size ≤ _ from (XW.out.trans hHeld).size)
            clear hx hHeld
            refine tkI 20 (by simp only [List.getElem?_toArray, List.getElem?_cons_zero, List.getElem?_cons_succ]; rfl) (by kernel_rfl) (by exact fun _ _ _ h => h) (by first | (exact Or.inl ⟨by rfl, by intro w hSw; (try dsimp only at hSw); go_simp; with_reducible rfl⟩) | (exact Or.inr ⟨by rfl, by rfl⟩)) (by assumption) ?_
            try simp only [Act.put, List.setIfInBounds_toArray, List.set_cons_zero, List.set_cons_succ]
            refine wpAnyH_done (by kernel_rfl) ?_ _
            go_wp2_with fail
            go_ret
            exact ⟨_, rfl, HO1.out.le (by have := HG.out; simp; omega), HE.out⟩

end Go.Proofs.Ytipeaoanhcjnjaa
/- Keys compared. No condition. -/
namespace Go.Proofs.Ytipeaoanhcjnjaa
open Go.RowKit
set_option linter.unusedVariables false
set_option linter.unusedSimpArgs false

/-- which of two lists comes first -/
@[irreducible] def cmpL : List Int → List Int → Int
  | x :: a, y :: b => if x = y then cmpL a b else if x < y then -1 else 1
  | _, _ => 0
end Go.Proofs.Ytipeaoanhcjnjaa
/- The tree of a map, plainly. No condition. -/
namespace Go.Proofs.Ytipeaoanhcjnjaa
open Go.RowKit
set_option linter.unusedVariables false
set_option linter.unusedSimpArgs false

inductive Tr where
  | leaf : Tr
  | node : Nd → Tr → Tr → Tr
def Tr.key : Tr → List Int
  | .leaf => emptyL
  | .node x _ _ => hashL 5 (nodeL x)
def Tr.all : Tr → List Nd
  | .leaf => []
  | .node x l r => x :: (l.all ++ r.all)
def Tr.ok : Tr → Prop
  | .leaf => True
  | .node x l r => x.ok ∧ entB x.n x.v = true ∧ x.l = l.key ∧ x.r = r.key ∧ l.ok ∧ r.ok
/-- the place of the greatest of the first k priorities -/
def gK (ps : List (List Int)) (k : Nat) : List Int := ps.getD k []
def topS (ps : List (List Int)) (k t : Nat) : Nat := if 0 < cmpL (gK ps k) (gK ps t) then k else t
def topI (ps : List (List Int)) : Nat → Nat
  | 0 => 0
  | k + 1 => topS ps k (topI ps k)
attribute [irreducible] topI
def prios (L : List En) : List (List Int) := L.map fun e => prioL e.1
def topE (L : List En) : Nat := topI (prios L) L.length
/-- the tree -/
def trS (L : List En) (l r : Tr) : Tr := if L.length = 0 then .leaf else .node ⟨l.key, r.key, (gE L (topE L)).1, (gE L (topE L)).2⟩ l r
def trF : Nat → List En → Tr
  | 0, _ => .leaf
  | f + 1, L => trS L (trF f (L.take (topE L))) (trF f (L.drop (topE L + 1)))
attribute [irreducible] trF
/-- entries that a map may hold -/
def good (L : List En) : Prop := ∀ e ∈ L, tEnt.ok e ∧ entB e.1 e.2 = true
theorem good.take {L : List En} (h : good L) (k : Nat) : good (L.take k) := fun e he => h e (List.mem_of_mem_take he)
theorem good.drop {L : List En} (h : good L) (k : Nat) : good (L.drop k) := fun e he => h e (List.mem_of_mem_drop he)
theorem good.at_ {L : List En} (h : good L) {k : Nat} (hk : k < L.length) : tEnt.ok (gE L k) ∧ entB (gE L k).1 (gE L k).2 = true := by rw [gE_lt hk]; exact h _ (List.getElem_mem hk)
def tNd : Ty Nd := ⟨66, Nd.enc, Nd.ok, fun _ h => Nd.enc_length h, fun x => Nd.enc_one x⟩
theorem Rd.cutL {α : Type} {T : Ty α} {w : World} {S : Nat → Prop} {A : Option Addr} {xs : List α} (h : Rd w S T.sz A xs.length (xs.flatMap T.enc)) (hok : ∀ x ∈ xs, T.ok x) {k cap : Nat} (hk : k ≤ xs.length) (hc : xs.length ≤ cap) :
    Rd w S T.sz (if cap = k then A else A.map (·.add (k * T.sz))) (xs.drop k).length ((xs.drop k).flatMap T.enc) := by
  have h1 := h.cut hk hc
  have e : (xs.flatMap T.enc).drop (k * T.sz) = (xs.drop k).flatMap T.enc := by
    conv => lhs; rw [← List.take_append_drop k xs, List.flatMap_append]
    rw [List.drop_append_of_le_length (by rw [flat_length T _ (fun x hx => hok x (List.mem_of_mem_take hx)), List.length_take, Nat.min_eq_left hk]; exact Nat.le_refl _), List.drop_eq_nil_of_le (by rw [flat_length T _ (fun x hx => hok x (List.mem_of_mem_take hx)), List.length_take, Nat.min_eq_left hk]; exact Nat.le_refl _), List.nil_append]
  rw [e, ← List.length_drop] at h1
  exact h1
theorem Rd.headL {α : Type} {T : Ty α} {w : World} {S : Nat → Prop} {A : Option Addr} {xs : List α} (h : Rd w S T.sz A xs.length (xs.flatMap T.enc)) (hok : ∀ x ∈ xs, T.ok x) {k : Nat} (hk : k ≤ xs.length) :
    Rd w S T.sz A (xs.take k).length ((xs.take k).flatMap T.enc) := by
  have h1 := h.head hk
  have e : (xs.flatMap T.enc).take (k * T.sz) = (xs.take k).flatMap T.enc := by
    conv => lhs; rw [← List.take_append_drop k xs, List.flatMap_append]
    rw [List.take_append_of_le_length (by rw [flat_length T _ (fun x hx => hok x (List.mem_of_mem_take hx)), List.length_take, Nat.min_eq_left hk]; exact Nat.le_refl _), List.take_of_length_le (by rw [flat_length T _ (fun x hx => hok x (List.mem_of_mem_take hx)), List.length_take, Nat.min_eq_left hk]; exact Nat.le_refl _)]
  have hl : (xs.take k).length = k := by rw [List.length_take]; omega
  rw [e] at h1
  rw [hl]
  exact h1
/-- the first k of a list that is read -/
theorem RdL.head {α : Type} {T : Ty α} {w : World} {S : Nat → Prop} {A : Option Addr} {xs : List α} {cap : Nat} (h : RdL T w S (.slice A xs.length cap) xs) {k : Nat} (hk : k ≤ xs.length) : RdL T w S (.slice A k cap) (xs.take k) := by
  obtain ⟨A', cap', e, h1, h2, h3, h4⟩ := h
  injection e with e1 _ e3
  subst e1 e3
  have hl : (xs.take k).length = k := by rw [List.length_take]; omega
  exact ⟨A, cap, by rw [hl], by omega, by omega, h3.headL h4 hk, fun x hx => h4 x (List.mem_of_mem_take hx)⟩
theorem RdL.cut {α : Type} {T : Ty α} {w : World} {S : Nat → Prop} {A : Option Addr} {xs : List α} {cap : Nat} (h : RdL T w S (.slice A xs.length cap) xs) {k : Nat} (hk : k ≤ xs.length) :
    RdL T w S (.slice (if cap = k then A else A.map (·.add (k * T.sz))) (xs.length - k) (cap - k)) (xs.drop k) := by
  obtain ⟨A', cap', e, h1, h2, h3, h4⟩ := h
  injection e with e1 _ e3
  subst e1 e3
  exact ⟨_, cap - k, by rw [List.length_drop], by rw [List.length_drop]; omega, by rw [List.length_drop]; omega, h3.cutL h4 hk h1, fun x hx => h4 x (List.mem_of_mem_drop hx)⟩
end Go.Proofs.Ytipeaoanhcjnjaa
/- The changes that make one map of another one, plainly. No condition. -/
namespace Go.Proofs.Ytipeaoanhcjnjaa
open Go.RowKit
set_option linter.unusedVariables false
set_option linter.unusedSimpArgs false

end Go.Proofs.Ytipeaoanhcjnjaa
/- A name's place in a map: the reference and the program. No condition. -/
namespace Go.Proofs.Ytipeaoanhcjnjaa
open Go.RowKit
set_option linter.unusedVariables false
set_option linter.unusedSimpArgs false

end Go.Proofs.Ytipeaoanhcjnjaa
/- The entries of a range: the reference. No condition. -/
namespace Go.Proofs.Ytipeaoanhcjnjaa
open Go.RowKit
set_option linter.unusedVariables false
set_option linter.unusedSimpArgs false

theorem rowEnt : Row Try.prog tEnt 25 50 32 := Row.mk' Try.underlying25 (.agg #[.string ⟨#[]⟩, .string ⟨#[]⟩]) (by kernel_rfl) rfl (by decide) (by decide)
theorem rd_ent (w : World) (e : En) (t : TypeId) : Rd (w.alloc (.cells #[.string e.1, .string e.2] t)) (fun g => g = w.heap.size) tEnt.sz (some ⟨w.heap.size, 0, none⟩) [e].length ([e].flatMap tEnt.enc) := by
  refine ⟨rfl, fun _ => ⟨_, 0, rfl, rfl, fun j u hu => ?_⟩⟩
  rw [Nat.zero_add, (Blk.new w t _).cell]
  simpa [tEnt] using hu
end Go.Proofs.Ytipeaoanhcjnjaa
/- Rows of entries, entry by entry: read out of an owned row, written, shut again. No condition. -/
namespace Go.Proofs.Ytipeaoanhcjnjaa
open Go.RowKit
set_option linter.unusedVariables false
set_option linter.unusedSimpArgs false

end Go.Proofs.Ytipeaoanhcjnjaa
/- Steps of regions that make and fill variables; structs built of parts. No condition. -/
namespace Go.Proofs.Ytipeaoanhcjnjaa
open Go.RowKit
set_option linter.unusedVariables false
set_option linter.unusedSimpArgs false

section
variable {P : Program} {ops : Array Oper} {o : Oper} {a : Act} {w : World} {K : Act → World → Prop} {Q : Exit → Act → World → Prop} {E : Prop}
theorem wpl_buildN {rest : List Oper} {t : TypeId} {parts : Array (Nat × Operand)} {cells : Array Value} (hgd : o.guard = none) (ho : o.op = .build t parts)
    (hb : P.built t (parts.toList.map fun p => (p.1, a.eval p.2)) = some cells) (h : wpList P ops Q rest (a.put o.dst (.agg cells)) w) : wpList P ops Q (o :: rest) a w := by
  replace hb : P.built t (parts.map fun (i, x) => (i, a.eval x)).toList = some cells := by rw [Array.toList_map]; exact hb
  refine wpList_plain hgd fun K hK => ?_
  refine wp_build t parts ho (by rw [hb]; rfl) ?_
  rw [hb]
  exact hK _ _ h
end
theorem fill_at (l : List Value) (n off : Nat) (Z : Array Value) (h : off + n + l.length ≤ Z.size) : ((l.zipIdx n).foldl (fun cs x => cs.setIfInBounds (off + x.2) x.1) Z) = splice Z (off + n) l := by
  induction l generalizing n Z with
  | nil =>
    simp only [List.zipIdx_nil, List.foldl_nil, splice, List.length_nil, Nat.add_zero, List.append_nil, List.take_append_drop, Array.toArray_toList]
  | cons x r ih =>
    simp only [List.length_cons] at h
    simp only [List.zipIdx_cons, List.foldl_cons]
    rw [ih (n + 1) _ (by simp; omega)]
    have e := list_seg_step Z.toList (off + n) x r (by simp; omega)
    unfold splice
    rw [Array.toList_setIfInBounds, List.length_cons]
    rw [show off + (n + 1) = off + n + 1 by omega, e]
theorem fill_one (place : Nat → Option (Nat × Nat)) (Z : Array Value) (i off n : Nat) (v : Value) (rest : List (Nat × Value)) (hp : place i = some (off, n)) (hv : v.cells.size = n) (hl : off + n ≤ Z.size) :
    Instr.fill place Z ((i, v) :: rest) = Instr.fill place (splice Z off v.cells.toList) rest := by
  have hf := fill_at v.cells.toList 0 off Z (by rw [Array.length_toList, hv]; omega)
  have hz : v.cells.zipIdx.foldl (fun cs x => cs.setIfInBounds (off + x.2) x.1) Z = splice Z off v.cells.toList := by
    rw [← Array.foldl_toList, Array.toList_zipIdx]
    simpa using hf
  rw [Instr.fill, hp]
  simp only [hv]
  rw [if_neg (by simp; omega)]
  exact congrArg (fun z => Instr.fill place z rest) hz
end Go.Proofs.Ytipeaoanhcjnjaa
/- A slice of one struct is made: one step of a region. No condition. -/
namespace Go.Proofs.Ytipeaoanhcjnjaa
open Go.RowKit
set_option linter.unusedVariables false
set_option linter.unusedSimpArgs false

end Go.Proofs.Ytipeaoanhcjnjaa
/- The texts that mark entries. No condition. -/
namespace Go.Proofs.Ytipeaoanhcjnjaa
open Go.RowKit
set_option linter.unusedVariables false
set_option linter.unusedSimpArgs false

theorem convS {A : Option Addr} {cap : Nat} {xs : List Int} {w : World} {S : Nat → Prop} (h : RdL tByte w S (.slice A xs.length cap) xs) : (convert 37 9 (.slice A xs.length cap)).run Try.prog w = .ok (.string (strOfNums xs)) w := by
  obtain ⟨A', cap', e, hcap, hlen, hrd, hok⟩ := h
  obtain ⟨rfl, _, rfl⟩ := Value.slice.inj e
  rw [flat_bytes] at hrd
  rcases Nat.eq_zero_or_pos xs.length with h0 | h0
  · obtain rfl : xs = [] := List.eq_nil_of_length_eq_zero h0
    rw [run_convert_bytes_string w _ _ _ A _ cap Try.underlying37 Try.underlying5 Try.underlying9]
    cases A <;> simp [Conv.bytesToString, loadCells] <;> rfl
  · obtain ⟨g, o, rfl, _, hc⟩ := hrd.2 h0
    exact run_convert_bytes_arg w _ _ Try.underlying37 Try.underlying5 g o xs.length cap xs rfl (fun i hi => hc i _ (nums_at _ _ _ hi)) _ Try.underlying9
/-- the digits of n ahead of s -/
def digs (n : Nat) (s : ByteArray) : ByteArray := if n = 0 then s else digs (n / 10) (strOfNums [(48 + (n % 10 : Nat) : Int)] ++ s)
termination_by n
decreasing_by omega
theorem digs_zero (s : ByteArray) : digs 0 s = s := by rw [digs]; rfl
theorem digs_pos {n : Nat} (h : 0 < n) (s : ByteArray) : digs n s = digs (n / 10) (strOfNums [(48 + (n % 10 : Nat) : Int)] ++ s) := by rw [digs, if_neg (by omega)]
/-- the text of a mark -/
@[irreducible] def mtxt (m : Int) : ByteArray := ⟨#[109]⟩ ++ digs m.toNat ⟨#[]⟩
theorem mtxt_eq (m : Int) : mtxt m = ⟨#[109]⟩ ++ digs m.toNat ⟨#[]⟩ := by rw [mtxt]
set_option maxHeartbeats 1000000 in
set_option maxRecDepth 100000 in
theorem markText_any (m : Int) (h0 : 0 < m) (h1 : m ≤ 1000000000000000) (w : World) :
    Calls Try.prog 38 #[.int .i64 m] w fun e w' => e = .returned (.string (mtxt m)) ∧ Ext w w' := by
  obtain ⟨M, rfl⟩ : ∃ M : Nat, m = (M : Int) := ⟨m.toNat, by omega⟩
  have HT := Lib.hid (mtxt_eq (M : Int))
  go_enter Try.func38, Try.ntmps38
  go_wp2
  go_loopw [0, 3] (fun q s wr => ∃ (k : Nat) (S : ByteArray), k ≤ M ∧ q = .int .i64 k ∧ s = .string S ∧ digs k S = digs M ⟨#[]⟩ ∧ S.size + k ≤ M ∧ Ext w wr) (fun q _ _ => (intOf q).toNat)
  case atStart => exact ⟨M, _, by omega, rfl, rfl, rfl, by show 0 + M ≤ M; omega, Ext.refl _⟩
  case round =>
    obtain ⟨k, S, hk, rfl, rfl, hd, hz, hx⟩ := hrel
    have HX := Lib.hid hx
    have HD := Lib.hid hd
    clear hx hd
    by_cases hp : 0 < k
    · have hcv : ∀ (W : World) (v : Int), v = 48 + ((k % 10 : Nat) : Int) → (convert 37 9 (.slice (some ⟨W.heap.size, 0, none⟩) 1 1)).run Try.prog (W.alloc (.cells #[.int .u8 v] 5)) = .ok (.string (strOfNums [(48 + (k % 10 : Nat) : Int)])) (W.alloc (.cells #[.int .u8 v] 5)) := by
        rintro W v rfl
        exact convS (xs := [(48 + (k % 10 : Nat) : Int)]) (Own.of_blk8 (base := 0) (e := 5) (Blk.new W 5 _) (Nat.zero_le _) (by simp) (by intro y hy; simp at hy; subst hy; omega)).rd
      have HC := Lib.hid hcv
      have hs1 : (strOfNums [48 + (k : Int) % 10]).size = 1 := strOfNums_size _
      have hcc : ((k % 10 : Nat) : Int) = (k : Int) % 10 := by omega
      have he : digs (k / 10) (strOfNums [48 + (k : Int) % 10] ++ S) = digs M ⟨#[]⟩ := by
        rw [← HD.out, digs_pos hp, hcc]
      have hz2 : (strOfNums [48 + (k : Int) % 10] ++ S).size + k / 10 ≤ M := by
        rw [ByteArray.size_append, hs1]; omega
      have HE := Lib.hid he
      have HZ := Lib.hid hz2
      clear he hz2
      go_wp2
      go_roundw
      case rel => exact ⟨k / 10, _, by omega, by go_num, rfl, HE.out, HZ.out, HX.out.alloc _⟩
      case measure => simp [intOf]; omega
    · obtain rfl : k = 0 := by omega
      go_wp2
      go_ret
      exact ⟨by rw [HT.out]; simp; rw [← HD.out, digs_zero], HX.out⟩
end Go.Proofs.Ytipeaoanhcjnjaa
/- The changes between two maps: the reference. No condition. -/
namespace Go.Proofs.Ytipeaoanhcjnjaa
open Go.RowKit
set_option linter.unusedVariables false
set_option linter.unusedSimpArgs false

end Go.Proofs.Ytipeaoanhcjnjaa
/- The changes between two maps: the program. No condition. -/
namespace Go.Proofs.Ytipeaoanhcjnjaa
open Go.RowKit
set_option linter.unusedVariables false
set_option linter.unusedSimpArgs false

theorem RdL.step {w : World} {S : Nat → Prop} {g o c n : Nat} {xs : List En} (h : RdL tEnt w S (.slice (some ⟨g, o, none⟩) n c) xs) (hn : 0 < n) : RdL tEnt w S (.slice (if c = 1 then some ⟨g, o, none⟩ else some ⟨g, o + 2, none⟩) (n - 1) (c - 1)) (xs.drop 1) := by
  obtain ⟨A', c', e, _⟩ := id h
  obtain ⟨e1, rfl, e3⟩ := Value.slice.inj e
  have := h.cut (k := 1) (by omega)
  have e4 : (if c = 1 then (some ⟨g, o, none⟩ : Option Addr) else (some (⟨g, o, none⟩ : Addr)).map (·.add (1 * tEnt.sz))) = if c = 1 then some ⟨g, o, none⟩ else some ⟨g, o + 2, none⟩ := by
    split
    · rfl
    · simp [Addr.add_lit, tEnt]
  rw [e4] at this
  exact this
theorem RdL.first {w : World} {S : Nat → Prop} {A : Option Addr} {c n : Nat} {xs : List En} (h : RdL tEnt w S (.slice A n c) xs) (hn : 0 < n) : n = xs.length ∧ n ≤ c ∧ ∃ g o, A = some ⟨g, o, none⟩ ∧ ∀ h0 : 0 < xs.length, ∀ W, Ext w W → W.cell? ⟨g, o, none⟩ = some (.string xs[0].1) ∧ W.cell? ⟨g, o + 1, none⟩ = some (.string xs[0].2) := by
  obtain ⟨A', c', e, h1, h2, h3, h4⟩ := id h
  obtain ⟨rfl, rfl, rfl⟩ := Value.slice.inj e
  obtain ⟨g, o, hp, _, hc⟩ := h3.elem h4 0 hn
  refine ⟨rfl, h1, g, o, hp, fun h0 W hW => ⟨hW.cell ?_, hW.cell ?_⟩⟩
  · have := hc 0 (.string xs[0].1) rfl
    have e : o + 0 * tEnt.sz + 0 = o := by rw [Nat.zero_mul]; rfl
    rwa [e] at this
  · have := hc 1 (.string xs[0].2) rfl
    have e : o + 0 * tEnt.sz + 1 = o + 1 := by rw [Nat.zero_mul]
    rwa [e] at this
end Go.Proofs.Ytipeaoanhcjnjaa
/- The changes between two maps, as they are asked for. No condition. -/
namespace Go.Proofs.Ytipeaoanhcjnjaa
open Go.RowKit
set_option linter.unusedVariables false
set_option linter.unusedSimpArgs false

end Go.Proofs.Ytipeaoanhcjnjaa
/- The program's key of a node; nodes in the laws' words. No condition. -/
namespace Go.Proofs.Ytipeaoanhcjnjaa
open Go.RowKit
set_option linter.unusedVariables false
set_option linter.unusedSimpArgs false

set_option maxHeartbeats 1000000 in
set_option maxRecDepth 100000 in
theorem nodeKey_any (x : Nd) (hok : x.ok) (he : entB x.n x.v = true) (w : World) :
    Calls Try.prog 65 #[.agg x.enc.toArray] w fun e w' => e = .returned (.agg (numsA .u8 (hashL 5 (nodeL x)))) ∧ Ext w w' := by
  have hk := (hashL_ok 5 (nodeL x)).1
  have hle := entB_le he
  have hnl := nodeL_length hok
  have Hnl : Hid ((nodeL x).length ≤ 1000) := Lib.hid (by omega)
  have hsz := (Nd.st hok).size
  clear hle hnl
  go_enter Try.func65, Try.ntmps65
  go_wp2_with (refine wpl_loadB ((Blk.new w _ _).alloc _) aggNodeI hsz rfl _ rfl rfl ?_)
  refine (nodeBytes_any x hok he _).mono ?_
  rintro e w1 ⟨v1, rfl, ho, hx⟩
  obtain ⟨A1, n1, c1, rfl⟩ := ho.shape3
  have B1 := Lib.hid ((Blk.new' (g := w.heap.size + 1) (w := w.alloc _) (by simp) 28 _).ext hx)
  have XW := Lib.hid (((ext_alloc w _).alloc _).trans hx)
  have HO := Lib.hid ho
  clear hx ho
  go_wp2_with fail
  refine (hash_any 5 (by decide) _ (nodeL x) _ _ HO.out.rd (by have := Hnl.out; omega)).mono ?_
  rintro e w2 ⟨rfl, hx⟩
  replace B1 := Lib.hid (B1.out.ext hx)
  replace XW := Lib.hid (XW.out.trans hx)
  clear hx HO
  go_wp2_with (refine wpl_storeN B1.out aggKey hk rfl rfl _ _ rfl rfl rfl rfl ?_)
  refine bodyPost_ret (results_blk rfl _ rfl aggKey hk (B1.out.setRow _)) rfl ?_
  exact ⟨rfl, XW.out.setRow (by omega) _⟩
end Go.Proofs.Ytipeaoanhcjnjaa
/- Lists of nodes: copied, counted, held against each other. No condition. -/
namespace Go.Proofs.Ytipeaoanhcjnjaa
open Go.RowKit
set_option linter.unusedVariables false
set_option linter.unusedSimpArgs false

theorem toNdT_any (a : Nd) (ha : tNd.ok a) (w : World) :
    Calls Try.prog 32 #[.agg (tNd.enc a).toArray] w fun e w' => e = .returned (.agg (tNd.enc a).toArray) ∧ Ext w w' := toMapNode_any a ha w
set_option maxHeartbeats 1000000 in
set_option maxRecDepth 100000 in
theorem toMapNodeS_u (v : Value) (xs : List Nd) (w : World) (S : Nat → Prop) (h : RdL tNd w S v xs) (hln : xs.length ≤ 1048576) :
    Calls Try.prog 8 #[v] w fun e w' => ∃ v', e = .returned v' ∧ Own tNd 52 w' w.heap.size v' xs ∧ Ext w w' := by
  obtain ⟨A, cap, rfl, hcap, hlen, hrd, hok⟩ := h
  have Hrd := Lib.hid hrd
  have Hok := Lib.hid hok
  have HF := Lib.hid (flat_length tNd xs hok)
  clear hrd hok
  obtain ⟨Z, hms, hm⟩ := make_rowN 30 52 66 96 Try.underlying30 (by kernel_rfl) .i64 .i64 xs.length (by omega) (by omega)
  have HMS := Lib.hid hms
  clear hms
  go_enter Try.func8, Try.ntmps8
  go_wp2
  go_loopw [4] (fun i wr => ∃ k : Nat, k ≤ xs.length ∧ i = .int .i64 k ∧ Fill wr w.heap.size 52 ((xs.take k).flatMap (tNd).enc) ((xs.length - k) * 66) ∧ Ext w wr)
    (fun i _ => xs.length - (intOf i).toNat)
  case atStart => exact ⟨0, by omega, rfl, by rw [List.take_zero]; exact Fill.start' (Blk.new w _ _) (by rw [HMS.out, Nat.sub_zero]), ext_alloc _ _⟩
  case round =>
    obtain ⟨k, hk, rfl, hF, hx⟩ := hrel
    have HFl := Lib.hid hF
    have HX := Lib.hid hx
    clear hm hF hx
    by_cases hlt : k < xs.length
    · obtain ⟨g, o, rfl, hs, hc⟩ := Hrd.out.elem Hok.out k hlt
      have hx0 : (tNd).ok xs[k] := Hok.out _ (List.getElem_mem hlt)
      have HX0 := Lib.hid hx0
      have hd : ∀ j u, ((tNd).enc xs[k])[j]? = some u → wr.cell? ⟨g, o + k * 66 + j, none⟩ = some u := fun j u hu => HX.out.cell (hc j u hu)
      have HD := Lib.hid hd
      have HL := Lib.hid (flat_length tNd (xs.take k) (fun x hx => Hok.out x (List.mem_of_mem_take hx)))
      have HTK := Lib.hid (show (xs.take k).length = k by rw [List.length_take]; omega)
      have HSN := Lib.hid (show (xs.take (k + 1)).flatMap (tNd).enc = (xs.take k).flatMap (tNd).enc ++ (tNd).enc xs[k] by rw [List.take_succ_eq_append_getElem hlt, List.flatMap_append, List.flatMap_cons, List.flatMap_nil, List.append_nil])
      have HST := Lib.hid (show St 66 ((tNd).enc xs[k]).toArray from ⟨by rw [List.size_toArray]; exact (tNd).len _ hx0, by simpa using (tNd).one _⟩)
      have HMU := Lib.hid (show (xs.length - k) * 66 = 66 + (xs.length - (k + 1)) * 66 by omega)
      clear hc hd hx0
      have hi : (0 : Int) ≤ (k : Int) := by omega
      go_wp2_with (refine wpl_load ⟨g, o + k * 66, none⟩ ((tNd).enc xs[k]) (by rw [(tNd).len _ HX0.out]; exact aggNodeL) rfl _ rfl rfl (fun j u hu => by rw [Addr.add_lit]; exact HD.out j u hu) ?_)
      refine (toNdT_any xs[k] HX0.out _).mono ?_
      rintro e w1 ⟨rfl, hx⟩
      have HF2 := Lib.hid (HFl.out.ext hx)
      have HX2 := Lib.hid (HX.out.trans hx)
      clear hx HX HFl HD
      go_wp2_with (refine wpl_fill (n := 66) (m := (xs.length - (k + 1)) * 66) (by rw [← HMU.out]; exact HF2.out) (by rw [HL.out, HTK.out]; rfl) aggNodeI HST.out rfl _ _ rfl rfl rfl rfl ?_; intro row hF; have HF3 := Lib.hid hF; clear hF)
      go_roundw
      case rel => exact ⟨k + 1, by omega, by go_num, by rw [HSN.out]; simpa using HF3.out, HX2.out.setRow (Nat.le_refl _) _⟩
      case measure => simp [intOf]; omega
    · obtain rfl : k = xs.length := by omega
      have hb := HFl.out
      rw [List.take_length, Nat.sub_self, Nat.zero_mul] at hb
      have HB := Lib.hid hb.done
      clear hb
      go_wp2
      go_ret
      exact ⟨_, rfl, Own.of_blk tNd HB.out (Nat.le_refl _) hlen Hok.out, HX.out⟩

set_option maxHeartbeats 1000000 in
set_option maxRecDepth 100000 in
theorem eqNdT_any (a : Nd) (ha : tNd.ok a) (w : World) :
    Calls Try.prog 37 #[.agg (tNd.enc a).toArray, .agg (tNd.enc a).toArray] w fun e w' => e = .returned (.bool true) ∧ Ext w w' := by
  have hok : a.ok := ha
  have HL := Lib.hid (sizeN (k := .u8) hok.1.1)
  have HR := Lib.hid (sizeN (k := .u8) hok.2.1.1)
  have b1 : (a.l == a.l) = true := by simp
  have b2 : (a.r == a.r) = true := by simp
  show Calls Try.prog 37 #[.agg a.enc.toArray, .agg a.enc.toArray] w _
  go_enter Try.func37, Try.ntmps37
  go_wp2_with (first
    | (refine wpl_loadP (off := 0) (sub := numsA .u8 a.l) ((Blk.new w 52 a.enc.toArray).alloc _) aggKey HL.out (Nd.left hok) rfl _ rfl rfl ?_)
    | (refine wpl_loadP (off := 0) (sub := numsA .u8 a.l) (Blk.new' (g := w.heap.size + 1) (w := w.alloc _) (by simp) 52 a.enc.toArray) aggKey HL.out (Nd.left hok) rfl _ rfl rfl ?_))
  refine (eqKey_any a.l a.l hok.1 hok.1 _).mono ?_
  rintro e w1 ⟨rfl, hx⟩
  rw [b1]
  have B0 := Lib.hid (((Blk.new w 52 a.enc.toArray).alloc _).ext hx)
  have B1 := Lib.hid ((Blk.new' (g := w.heap.size + 1) (w := w.alloc _) (by simp) 52 a.enc.toArray).ext hx)
  have XW := Lib.hid (((ext_alloc w _).alloc _).trans hx)
  clear hx
  go_wp2_with (first
    | (refine wpl_loadP (off := 32) (sub := numsA .u8 a.r) B0.out aggKey HR.out (Nd.right hok) rfl _ rfl rfl ?_)
    | (refine wpl_loadP (off := 32) (sub := numsA .u8 a.r) B1.out aggKey HR.out (Nd.right hok) rfl _ rfl rfl ?_))
  refine (eqKey_any a.r a.r hok.2.1 hok.2.1 _).mono ?_
  rintro e w2 ⟨rfl, hx⟩
  rw [b2]
  replace B0 := Lib.hid (B0.out.ext hx)
  replace B1 := Lib.hid (B1.out.ext hx)
  replace XW := Lib.hid (XW.out.trans hx)
  clear hx
  go_wp2_with (first
    | (refine wpl_loadP (off := 64) (sub := #[.string a.n, .string a.v]) B0.out aggEntryI rfl (Nd.ent hok) rfl _ rfl rfl ?_)
    | (refine wpl_loadP (off := 64) (sub := #[.string a.n, .string a.v]) B1.out aggEntryI rfl (Nd.ent hok) rfl _ rfl rfl ?_))
  refine (eqEntT_any (a.n, a.v) ⟨hok.2.2.1, hok.2.2.2⟩ _).mono ?_
  rintro e w3 ⟨rfl, hx⟩
  replace XW := Lib.hid (XW.out.trans hx)
  clear hx
  go_wp2
  go_ret
  exact ⟨rfl, XW.out⟩
set_option maxHeartbeats 1000000 in
set_option maxRecDepth 100000 in
theorem eqMapNodeS_u (v u : Value) (xs : List Nd) (w : World) (S S' : Nat → Prop) (h : RdL tNd w S v xs) (h' : RdL tNd w S' u xs) :
    Calls Try.prog 11 #[v, u] w fun e w' => e = .returned (.bool true) ∧ Ext w w' := by
  obtain ⟨A, cap, rfl, hcap, hlen, hrd, hok⟩ := h
  obtain ⟨A', cap', rfl, hcap', hlen', hrd', hok'⟩ := h'
  have Hrd := Lib.hid hrd
  have Hrd' := Lib.hid hrd'
  have Hok := Lib.hid hok
  clear hrd hok hrd' hok'
  have hl1 : ((xs.length : Int) != (xs.length : Int)) = false := by simp
  go_enter Try.func11, Try.ntmps11
  go_wp2
  go_loopw [5] (fun i wr => ∃ k : Nat, k ≤ xs.length ∧ i = .int .i64 k ∧ Ext w wr) (fun i _ => xs.length - (intOf i).toNat)
  case atStart => exact ⟨0, by omega, rfl, Ext.refl _⟩
  case round =>
    obtain ⟨k, hk, rfl, hx⟩ := hrel
    have HX := Lib.hid hx
    clear hx hl1
    by_cases hlt : k < xs.length
    · obtain ⟨g, o, rfl, hs, hc⟩ := Hrd.out.elem Hok.out k hlt
      obtain ⟨g2, o2, rfl, hs2, hc2⟩ := Hrd'.out.elem Hok.out k hlt
      have HX0 := Lib.hid (show (tNd).ok xs[k] from Hok.out _ (List.getElem_mem hlt))
      have HD := Lib.hid (show ∀ j u, ((tNd).enc xs[k])[j]? = some u → wr.cell? ⟨g, o + k * 66 + j, none⟩ = some u from fun j u hu => HX.out.cell (hc j u hu))
      have HD2 := Lib.hid (show ∀ j u, ((tNd).enc xs[k])[j]? = some u → wr.cell? ⟨g2, o2 + k * 66 + j, none⟩ = some u from fun j u hu => HX.out.cell (hc2 j u hu))
      clear hc hc2
      have hi : (0 : Int) ≤ (k : Int) := by omega
      have hi2 : (k : Int) < (xs.length : Int) := by omega
      go_wp2_with fail
      refine wp_region_held_drew (S := fun W => Ext wr W) (by kernel_rfl) (Ext.refl _).drew (fun hHeld => ?_)
      iterate 3
        refine tkD 0 (by simp only [List.size_toArray, List.length_cons, List.length_nil]; rfl) (by simp only [List.getElem?_toArray, List.getElem?_cons_zero, List.getElem?_cons_succ]; rfl) (by kernel_rfl) (by exact fun _ _ _ h => h) (by first | (exact Or.inl ⟨by rfl, by intro w hSw; (try dsimp only at hSw); go_simp; with_reducible rfl⟩) | (exact Or.inr ⟨by rfl, by rfl⟩)) (by assumption) ?_
        try simp only [Act.put, List.setIfInBounds_toArray, List.set_cons_zero, List.set_cons_succ]
      refine tkI 3 (v := (.agg ((tNd).enc xs[k]).toArray)) (by simp only [List.getElem?_toArray, List.getElem?_cons_zero, List.getElem?_cons_succ]; rfl) (by kernel_rfl) (by exact fun _ _ _ h => h) (by refine yields_loadR g (o + k * 66) ((tNd).enc xs[k]) (by rw [(tNd).len _ HX0.out]; exact aggNodeI) HD.out ?_ _ rfl rfl; rfl) (by assumption) ?_
      try simp only [Act.put, List.setIfInBounds_toArray, List.set_cons_zero, List.set_cons_succ]
      iterate 3
        refine tkD 0 (by simp only [List.size_toArray, List.length_cons, List.length_nil]; rfl) (by simp only [List.getElem?_toArray, List.getElem?_cons_zero, List.getElem?_cons_succ]; rfl) (by kernel_rfl) (by exact fun _ _ _ h => h) (by first | (exact Or.inl ⟨by rfl, by intro w hSw; (try dsimp only at hSw); go_simp; with_reducible rfl⟩) | (exact Or.inr ⟨by rfl, by rfl⟩)) (by assumption) ?_
        try simp only [Act.put, List.setIfInBounds_toArray, List.set_cons_zero, List.set_cons_succ]
      refine tkI 7 (v := (.agg ((tNd).enc xs[k]).toArray)) (by simp only [List.getElem?_toArray, List.getElem?_cons_zero, List.getElem?_cons_succ]; rfl) (by kernel_rfl) (by exact fun _ _ _ h => h) (by refine yields_loadR g2 (o2 + k * 66) ((tNd).enc xs[k]) (by rw [(tNd).len _ HX0.out]; exact aggNodeI) HD2.out ?_ _ rfl rfl; rfl) (by assumption) ?_
      try simp only [Act.put, List.setIfInBounds_toArray, List.set_cons_zero, List.set_cons_succ]
      refine wpAnyH_ready (rs := [8]) (by kernel_rfl) (by simp) (AllReadyH.cons (o := ?o8) ?h8 (fun K hK => ?s8) AllReadyH.nil)
      case h8 => simp only [List.getElem?_toArray, List.getElem?_cons_zero, List.getElem?_cons_succ]; rfl
      go_simp
      refine (eqNdT_any xs[k] HX0.out _).mono ?_
      rintro e w1 ⟨rfl, hx⟩
      have hH2 := hHeld.trans hx
      refine hK.out _ _ hH2 (fun _ => ?_)
      clear hHeld hK K
      have hHeld := hH2
      clear hH2 hx
      try simp only [Act.put, List.setIfInBounds_toArray, List.set_cons_zero, List.set_cons_succ]
      refine tkI 9 (by simp only [List.getElem?_toArray, List.getElem?_cons_zero, List.getElem?_cons_succ]; rfl) (by kernel_rfl) (by exact fun _ _ _ h => h) (by first | (exact Or.inl ⟨by rfl, by intro w hSw; (try dsimp only at hSw); go_simp; with_reducible rfl⟩) | (exact Or.inr ⟨by rfl, by rfl⟩)) (by assumption) ?_
      try simp only [Act.put, List.setIfInBounds_toArray, List.set_cons_zero, List.set_cons_succ]
      refine wpAnyH_done (by kernel_rfl) ?_ _
      have HX2 := Lib.hid (HX.out.trans hHeld)
      clear hHeld
      go_wp2
      go_roundw
      case rel => exact ⟨k + 1, by omega, by go_num, HX2.out⟩
      case measure => simp [intOf]; omega
    · go_wp2
      go_ret
      exact ⟨rfl, HX.out⟩

/-- how much the entries take -/
@[irreducible] def ndsN (l : List Nd) : Nat := l.length + (l.map fun e => e.n.size + e.v.size).sum
theorem ndsN_eq (l : List Nd) : ndsN l = l.length + (l.map fun e => e.n.size + e.v.size).sum := by rw [ndsN]
def sumNd (l : List Nd) (k : Nat) : Nat := ((l.take k).map fun e => e.n.size + e.v.size).sum
theorem sumNd_zero (l : List Nd) : sumNd l 0 = 0 := by simp [sumNd]
theorem sumNd_succ (l : List Nd) (k : Nat) (h : k < l.length) : sumNd l (k + 1) = sumNd l k + (l[k].n.size + l[k].v.size) := by
  unfold sumNd
  rw [List.take_succ_eq_append_getElem h, List.map_append, List.sum_append]; simp
theorem sumNd_le (l : List Nd) (k : Nat) : sumNd l k ≤ (l.map fun e => e.n.size + e.v.size).sum := by
  unfold sumNd
  conv => rhs; rw [← List.take_append_drop k l, List.map_append, List.sum_append]
  omega
set_option maxHeartbeats 1000000 in
set_option maxRecDepth 100000 in
theorem szMapNodeS_u (v : Value) (xs : List Nd) (l : Int) (w : World) (S : Nat → Prop) (h : RdL tNd w S v xs) (h0 : -1 ≤ l) (h1 : l ≤ 1048576) :
    Calls Try.prog 5 #[v, .int .i64 l] w fun e w' => e = .returned (.int .i64 (if l - (ndsN xs : Nat) < 0 then -1 else l - (ndsN xs : Nat))) ∧ Ext w w' := by
  rw [ndsN_eq]
  obtain ⟨A, cap, rfl, hcap, hlen, hrd, hok⟩ := h
  have Hrd := Lib.hid hrd
  have Hok := Lib.hid hok
  obtain ⟨T, hT⟩ : ∃ T, (xs.map fun e => e.n.size + e.v.size).sum = T := ⟨_, rfl⟩
  have hle := fun k => sumNd_le xs k
  rw [hT] at hle ⊢
  have HT := Lib.hid hT
  have HLE := Lib.hid hle
  clear hrd hok hT hle
  by_cases h2 : l - (xs.length : Int) < 0
  · rw [if_pos (by omega)]
    go_enter Try.func5, Try.ntmps5
    go_wp2
    go_ret
    exact ⟨rfl, Ext.refl _⟩
  · obtain ⟨z, hz⟩ : ∃ z : Int, (if l - ((xs.length + T : Nat) : Int) < 0 then -1 else l - ((xs.length + T : Nat) : Int)) = z := ⟨_, rfl⟩
    rw [hz]
    have HZ := Lib.hid hz
    clear hz
    go_enter Try.func5, Try.ntmps5
    go_wp2
    go_loopw [1, 5] (fun q i wr => ∃ k : Nat, k ≤ xs.length ∧ i = .int .i64 k ∧ q = .int .i64 (l - xs.length - (sumNd xs k : Nat)) ∧ 0 ≤ l - (xs.length : Int) - (sumNd xs k : Nat) ∧ Ext w wr) (fun _ i _ => xs.length - (intOf i).toNat)
    case atStart => exact ⟨0, by omega, rfl, by rw [sumNd_zero]; simp, by rw [sumNd_zero]; omega, Ext.refl _⟩
    case round =>
      obtain ⟨k, hk, rfl, rfl, hs, hx⟩ := hrel
      have HX := Lib.hid hx
      clear hx
      by_cases hlt : k < xs.length
      · obtain ⟨g, o, rfl, hs0, hc⟩ := Hrd.out.elem Hok.out k hlt
        have HX0 := Lib.hid (show tNd.ok xs[k] from Hok.out _ (List.getElem_mem hlt))
        have HD0 := Lib.hid (show ∀ j u, (tNd.enc xs[k])[j]? = some u → wr.cell? ⟨g, o + k * 66 + j, none⟩ = some u from fun j u hu => HX.out.cell (hc j u hu))
        have HSS := Lib.hid (sumNd_succ xs k hlt)
        have hq := HLE.out (k + 1)
        rw [HSS.out] at hq
        clear hc
        have hi : (0 : Int) ≤ (k : Int) := by omega
        have hi2 : (k : Int) < (xs.length : Int) := by omega
        have hcz := fun W => szMapNode_u (tNd.enc xs[k]).toArray xs[k] (l - xs.length - (sumNd xs k : Nat)) W (fun _ => True) ⟨rfl, HX0.out⟩ (by omega) (by omega)
        by_cases h3 : l - (xs.length : Int) - (sumNd xs k : Nat) - (xs[k].n.size + xs[k].v.size : Nat) < 0
        · simp only [if_pos h3] at hcz
          have HP := Lib.hid (show l - ((xs.length + T : Nat) : Int) < 0 by omega)
          go_wp2_with (refine wpl_load ⟨g, o + k * 66, none⟩ (tNd.enc xs[k]) (by rw [tNd.len _ HX0.out]; exact aggNodeL) rfl _ rfl rfl (fun j u hu => by rw [Addr.add_lit]; exact HD0.out j u hu) ?_)
          refine (hcz _).mono ?_
          rintro e w1 ⟨rfl, hx⟩
          have HX2 := Lib.hid (HX.out.trans hx)
          clear hx
          go_wp2
          go_ret
          exact ⟨by rw [← HZ.out, if_pos HP.out]; rfl, HX2.out⟩
        · simp only [if_neg h3] at hcz
          go_wp2_with (refine wpl_load ⟨g, o + k * 66, none⟩ (tNd.enc xs[k]) (by rw [tNd.len _ HX0.out]; exact aggNodeL) rfl _ rfl rfl (fun j u hu => by rw [Addr.add_lit]; exact HD0.out j u hu) ?_)
          refine (hcz _).mono ?_
          rintro e w1 ⟨rfl, hx⟩
          have HX2 := Lib.hid (HX.out.trans hx)
          clear hx hcz
          go_wp2
          go_roundw
          case rel => exact ⟨k + 1, by omega, by go_num, by rw [HSS.out]; go_num, by rw [HSS.out]; omega, HX2.out⟩
          case measure => simp [intOf]; omega
      · obtain rfl : k = xs.length := by omega
        have e : sumNd xs xs.length = T := by rw [sumNd, List.take_length]; exact HT.out
        have HE := Lib.hid e
        rw [e] at hs
        clear e
        have HP := Lib.hid (show ¬ l - ((xs.length + T : Nat) : Int) < 0 by omega)
        go_wp2
        go_ret
        exact ⟨by rw [← HZ.out, if_neg (Int.not_lt.2 HP.out), HE.out]; exact ret_int (by omega), HX.out⟩

end Go.Proofs.Ytipeaoanhcjnjaa
/- The key of a node that lies in a row. No condition. -/
namespace Go.Proofs.Ytipeaoanhcjnjaa
open Go.RowKit
set_option linter.unusedVariables false
set_option linter.unusedSimpArgs false

end Go.Proofs.Ytipeaoanhcjnjaa
/- Arrays of bytes held against each other by == and !=. No condition. -/
namespace Go.Proofs.Ytipeaoanhcjnjaa
open Go.RowKit
set_option linter.unusedVariables false
set_option linter.unusedSimpArgs false

def eqArr (d : Nat) (e : TypeId) (n : Nat) (xs ys : Array Value) : List Nat → Sem Bool
  | [] => pure true
  | i :: is => do
    let a ← part e xs (i * n)
    let b ← part e ys (i * n)
    let r ← Op.equalIn d e a b
    if (!r) = true then pure false else eqArr d e n xs ys is
section
variable {P : Program} (w : World)
theorem run_equalIn_array (d : Nat) (t e : TypeId) (len n : Nat) (xs ys : Array Value) (ht : P.underlying t = some (.array len e)) (hn : ∀ w, (sizeOf e).run P w = .ok n w) :
    (Op.equalIn (d + 1) t (.agg xs) (.agg ys)).run P w = (eqArr d e n xs ys (List.range' 0 len)).run P w := by
  simp only [Op.equalIn, Sem.run_bind, run_underlying ht, Result.andThen_ok, hn]
  rw [Std.Legacy.Range.forIn_eq_forIn_range']
  simp only [Std.Legacy.Range.size, Nat.sub_zero, Nat.add_sub_cancel, Nat.div_one]
  generalize List.range' 0 len = l
  clear ht
  induction l generalizing w with
  | nil => simp [eqArr]
  | cons f fs ih =>
    simp only [List.forIn_cons, eqArr, Sem.run_bind, Sem.run_ite]
    generalize (part e xs (f * n)).run P w = r1
    cases r1 with
    | ok a w1 =>
      simp only [Result.andThen_ok]
      generalize (part e ys (f * n)).run P w1 = r2
      cases r2 with
      | ok b w2 =>
        simp only [Result.andThen_ok]
        generalize (Op.equalIn d e a b).run P w2 = r3
        cases r3 with
        | ok r w3 =>
          cases r
          · simp only [Result.andThen_ok, Bool.not_false, if_true, Sem.run_pure]
          · simp only [Result.andThen_ok, Bool.not_true, Bool.false_eq_true, if_false, Sem.run_pure]
            exact ih w3
        | halt x w3 => simp [Result.andThen]
      | halt x w2 => simp [Result.andThen]
    | halt x w1 => simp [Result.andThen]
theorem run_eqArr (d : Nat) (e : TypeId) (k' : IntKind) (he : P.underlying e = some (.int k')) (k : IntKind) (a b : List Int) (hl : a.length = b.length) (m i : Nat) (hi : i + m = a.length) :
    (eqArr (d + 1) e 1 (numsA k a) (numsA k b) (List.range' i m)).run P w = .ok (decide (a.drop i = b.drop i)) w := by
  have hagg : (isAgg e).run P w = .ok false w := by
    unfold isAgg
    rw [Sem.run_bind, run_underlying he w]
    rfl
  induction m generalizing i with
  | zero =>
    rw [List.drop_eq_nil_of_le (by omega), List.drop_eq_nil_of_le (by omega)]
    simp [eqArr]
  | succ m ih =>
    have h1 : i < a.length := by omega
    have h2 : i < b.length := by omega
    have e1 := numsA_at k a i h1
    have e2 := numsA_at k b i h2
    rw [List.range'_succ]
    simp only [eqArr, Sem.run_bind, part, hagg, Result.andThen_ok, Bool.false_eq_true, if_false, Nat.mul_one, e1, e2, Sem.run_pure, run_equalIn_int w d e k k' _ _ he, Sem.run_ite]
    rw [List.drop_eq_getElem_cons h1, List.drop_eq_getElem_cons h2]
    by_cases hq : gI a i = gI b i
    · have h3 : (gI a i == gI b i) = true := by simpa using hq
      simp only [h3, Bool.not_true, Bool.false_eq_true, if_false]
      rw [ih (i + 1) (by omega)]
      rw [gI_lt h1, gI_lt h2] at hq
      simp only [List.cons.injEq, hq, true_and]
    · have h3 : (gI a i == gI b i) = false := by simpa using hq
      simp only [h3, Bool.not_false, if_true]
      rw [gI_lt h1, gI_lt h2] at hq
      simp only [List.cons.injEq, hq, false_and, decide_false]
end
theorem run_eqKey (a b : List Int) (ha : K32 a) (hb : K32 b) (W : World) : (binOp .eql 28 (.agg (numsA .u8 a)) (.agg (numsA .u8 b))).run Try.prog W = .ok (.bool (decide (a = b))) W := by
  rw [run_eql_struct, run_equalIn_array (P := Try.prog) W 9999 28 5 32 1 _ _ (by kernel_rfl) (fun w => by kernel_rfl), run_eqArr (P := Try.prog) W 9998 5 .u8 (by kernel_rfl) .u8 a b (by rw [ha.1, hb.1]) 32 0 (by rw [ha.1])]
  simp
theorem run_neqKey (a b : List Int) (ha : K32 a) (hb : K32 b) (W : World) : (binOp .neq 28 (.agg (numsA .u8 a)) (.agg (numsA .u8 b))).run Try.prog W = .ok (.bool (!decide (a = b))) W := by
  rw [run_neq_struct, run_equalIn_array (P := Try.prog) W 9999 28 5 32 1 _ _ (by kernel_rfl) (fun w => by kernel_rfl), run_eqArr (P := Try.prog) W 9998 5 .u8 (by kernel_rfl) .u8 a b (by rw [ha.1, hb.1]) 32 0 (by rw [ha.1])]
  simp

end Go.Proofs.Ytipeaoanhcjnjaa
/- What a path tells about a name, plainly; which nodes are valid: the reference. No condition. -/
namespace Go.Proofs.Ytipeaoanhcjnjaa
open Go.RowKit
set_option linter.unusedVariables false
set_option linter.unusedSimpArgs false

/-- all nodes are valid -/
def okNs (L : List Nd) : Bool := L.all fun x => entB x.n x.v
theorem okNs_bad {L : List Nd} {k : Nat} (hk : k < L.length) (h : entB L[k].n L[k].v = false) : okNs L = false := by
  unfold okNs
  rw [List.all_eq_false]
  exact ⟨L[k], List.getElem_mem hk, by rw [h]; decide⟩
theorem okNs_good {L : List Nd} (h : ∀ p (hp : p < L.length), entB L[p].n L[p].v = true) : okNs L = true := by
  unfold okNs
  rw [List.all_eq_true]
  intro x hx
  obtain ⟨i, hi, rfl⟩ := List.getElem_of_mem hx
  exact h i hi
theorem okNs_at {L : List Nd} (h : okNs L = true) {k : Nat} (hk : k < L.length) : entB L[k].n L[k].v = true := by
  unfold okNs at h
  rw [List.all_eq_true] at h
  exact h _ (List.getElem_mem hk)
attribute [irreducible] okNs
/-- what a path tells: whether the name is there, its value, whether the path is as it should be -/
def ckS (s : ByteArray) (due : List Int) (x : Nd) (last : Bool) (r : Bool × ByteArray × Bool) : Bool × ByteArray × Bool := if hashL 5 (nodeL x) = due then (if x.n = s then (last, x.v, last) else r) else (false, ⟨#[]⟩, false)
def ckF (s : ByteArray) : List Int → List Nd → Bool × ByteArray × Bool
  | due, [] => (false, ⟨#[]⟩, decide (due = emptyL))
  | due, x :: r => ckS s due x r.isEmpty (ckF s (if ltB s x.n then x.l else x.r) r)
attribute [irreducible] ckF
/-- the code of some nodes -/
def givenR (L : List Nd) : Int := if okNs L then (if 64 < L.length then 3 else 0) else 1
set_option maxHeartbeats 1000000 in
set_option maxRecDepth 100000 in
theorem l04Given_any (v : Value) (L : List Nd) (w : World) (S : Nat → Prop) (h : RdL tNd w S v L) :
    Calls Try.prog 30 #[v] w fun e w' => e = .returned (.int .i64 (givenR L)) ∧ Ext w w' := by
  obtain ⟨A, cap, rfl, hcap, hlen, hrd, hok⟩ := h
  have Hrd := Lib.hid hrd
  have Hok := Lib.hid hok
  have HR := Lib.hid (show givenR L = if okNs L then (if 64 < L.length then 3 else 0) else 1 from rfl)
  clear hrd hok
  go_enter Try.func30, Try.ntmps30
  go_wp2
  go_loopw [3] (fun i wr => ∃ k : Nat, k ≤ L.length ∧ i = .int .i64 k ∧ (∀ p (hp : p < L.length), p < k → entB L[p].n L[p].v = true) ∧ Ext w wr) (fun i _ => L.length - (intOf i).toNat)
  case atStart => exact ⟨0, by omega, rfl, fun p hp h => by omega, Ext.refl _⟩
  case round =>
    obtain ⟨k, hk, rfl, hm, hx⟩ := hrel
    have HX := Lib.hid hx
    have HM := Lib.hid hm
    clear hx hm
    by_cases hlt : k < L.length
    · obtain ⟨g, o, rfl, hs0, hc⟩ := Hrd.out.elem Hok.out k hlt
      have hx0 : L[k].ok := Hok.out _ (List.getElem_mem hlt)
      have c0 : wr.cell? ⟨g, o + k * 66 + 64, none⟩ = some (.string L[k].n) := HX.out.cell (hc 64 _ (by have := Nd.at64 hx0; rwa [List.getElem?_toArray] at this))
      have c1 : wr.cell? ⟨g, o + k * 66 + 64 + 1, none⟩ = some (.string L[k].v) := HX.out.cell (hc 65 _ (by have := Nd.at65 hx0; rwa [List.getElem?_toArray] at this))
      have hen := l04Entry_any L[k].n L[k].v hx0.2.2.1 hx0.2.2.2 g (o + k * 66 + 64) wr c0 c1
      have hi : (0 : Int) ≤ (k : Int) := by omega
      have hi2 : (k : Int) < (L.length : Int) := by omega
      clear hc c0 c1 hx0
      cases hb : entB L[k].n L[k].v with
      | true =>
        simp only [hb] at hen
        go_wp2_with fail
        refine hen.mono ?_
        rintro e w' ⟨rfl, rfl⟩
        clear hen
        go_wp2
        go_roundw
        case rel => exact ⟨k + 1, by omega, by go_num, fun p hp h => by
          by_cases e : p = k
          · subst e; exact hb
          · exact HM.out p hp (by omega), HX.out⟩
        case measure => simp [intOf]; omega
      | false =>
        simp only [hb] at hen
        have HQ := Lib.hid (show givenR L = 1 by rw [HR.out, okNs_bad hlt hb]; rfl)
        go_wp2_with fail
        refine hen.mono ?_
        rintro e w' ⟨rfl, rfl⟩
        clear hen
        go_wp2
        go_ret
        exact ⟨by rw [HQ.out]; rfl, HX.out⟩
    · obtain rfl : k = L.length := by omega
      have hg : okNs L = true := okNs_good fun p hp => HM.out p hp hp
      by_cases h64 : 64 < L.length
      · have HQ := Lib.hid (show givenR L = 3 by rw [HR.out, hg, if_pos rfl, if_pos h64])
        have h2 : (64 : Int) < (L.length : Int) := by omega
        go_wp2
        go_ret
        exact ⟨by rw [HQ.out]; rfl, HX.out⟩
      · have HQ := Lib.hid (show givenR L = 0 by rw [HR.out, hg, if_pos rfl, if_neg h64])
        have h2 : ¬ (64 : Int) < (L.length : Int) := by omega
        go_wp2
        go_ret
        exact ⟨by rw [HQ.out]; rfl, HX.out⟩
end Go.Proofs.Ytipeaoanhcjnjaa
/- The place of the greatest priority: the reference. No condition. -/
namespace Go.Proofs.Ytipeaoanhcjnjaa
open Go.RowKit
set_option linter.unusedVariables false
set_option linter.unusedSimpArgs false

end Go.Proofs.Ytipeaoanhcjnjaa
/- The nodes of a map and its key: the reference. No condition. -/
namespace Go.Proofs.Ytipeaoanhcjnjaa
open Go.RowKit
set_option linter.unusedVariables false
set_option linter.unusedSimpArgs false

end Go.Proofs.Ytipeaoanhcjnjaa
/- The tree of a map: the program's, and its key. No condition. -/
namespace Go.Proofs.Ytipeaoanhcjnjaa
open Go.RowKit
set_option linter.unusedVariables false
set_option linter.unusedSimpArgs false

/-- v points to the tree T -/
def TrAt (w : World) : Value → Tr → Prop
  | v, .leaf => v = .pointer none
  | v, .node x l r => ∃ g pl pr, v = .pointer (some ⟨g, 0, none⟩) ∧ Blk w g 110 (x.enc ++ [pl, pr]).toArray ∧ TrAt w pl l ∧ TrAt w pr r
theorem TrAt.ext {w w' : World} {v : Value} {T : Tr} (h : TrAt w v T) (e : Ext w w') : TrAt w' v T := by
  induction T generalizing v with
  | leaf => exact h
  | node x l r il ir =>
    obtain ⟨g, pl, pr, h1, h2, h3, h4⟩ := h
    exact ⟨g, pl, pr, h1, h2.ext e, il h3, ir h4⟩
theorem enc_in (x : Nd) (a b : Value) (j : Nat) (u : Value) (hu : x.enc.toArray[j]? = some u) : (x.enc ++ [a, b]).toArray[0 + j]? = some u := by
  rw [Nat.zero_add, List.getElem?_toArray] at *
  have hj := (List.getElem?_eq_some_iff.1 hu).1
  rw [List.getElem?_append_left hj]
  exact hu
theorem yields_loadS {P : Program} {ops : Array Oper} {op : Oper} {a : Act} {S : World → Prop} {t : Nat} (g o : Nat) (cs : List Value) (ht : Agg P t cs.length) (hc : ∀ W, S W → ∀ j u, cs[j]? = some u → W.cell? ⟨g, o + j, none⟩ = some u) (hw : Region.wanted op (yielded ops a.tmps) = true) (x : Operand) (ho : op.op = .load t x) (hx : a.eval x = .pointer (some ⟨g, o, none⟩)) :
    YieldsIf P ops S op (.agg cs.toArray) a := Or.inl ⟨hw, fun W hW => by
  have hl := run_loadVar_at (P := P) (w := W) (t := t) ⟨g, o, none⟩ cs ht (fun j u hu => by rw [Addr.add_lit]; exact hc W hW j u hu)
  unfold execOp
  simp only [ho, hx, Instr.loadAt, Instr.sureAddr, Sem.run_bind, Sem.run_pure, Result.andThen_ok, hl]⟩
theorem enc_66 {x : Nd} (h : x.ok) (p q : Value) : (x.enc ++ [p, q]).toArray[66]? = some p := by
  rw [List.getElem?_toArray, List.getElem?_append_right (by rw [Nd.enc_length h]; decide), Nd.enc_length h]; rfl
theorem enc_67 {x : Nd} (h : x.ok) (p q : Value) : (x.enc ++ [p, q]).toArray[67]? = some q := by
  rw [List.getElem?_toArray, List.getElem?_append_right (by rw [Nd.enc_length h]; decide), Nd.enc_length h]; rfl
theorem RdL.cutN {α : Type} {T : Ty α} {w : World} {S : Nat → Prop} {A : Option Addr} {xs : List α} {n cap : Nat} (h : RdL T w S (.slice A n cap) xs) (hn : n = xs.length) {k : Nat} (hk : k ≤ n) :
    RdL T w S (.slice (if cap = k then A else A.map (·.add (k * T.sz))) (n - k) (cap - k)) (xs.drop k) := by
  subst hn; exact h.cut hk
end Go.Proofs.Ytipeaoanhcjnjaa
/- The tree of a map and its key: the program. No condition. -/
namespace Go.Proofs.Ytipeaoanhcjnjaa
open Go.RowKit
set_option linter.unusedVariables false
set_option linter.unusedSimpArgs false

end Go.Proofs.Ytipeaoanhcjnjaa
/- The nodes of a tree that are looked at. No condition. -/
namespace Go.Proofs.Ytipeaoanhcjnjaa
open Go.RowKit
set_option linter.unusedVariables false
set_option linter.unusedSimpArgs false

theorem TrAt.cells {w : World} {g : Nat} {x : Nd} (hx : x.ok) {pl pr : Value} (h : Blk w g 110 (x.enc ++ [pl, pr]).toArray) : w.cell? ⟨g, 64, none⟩ = some (.string x.n) ∧ w.cell? ⟨g, 66, none⟩ = some pl ∧ w.cell? ⟨g, 67, none⟩ = some pr := by
  refine ⟨?_, h.at_ 66 (enc_66 hx _ _), h.at_ 67 (enc_67 hx _ _)⟩
  have := enc_in x pl pr 64 _ (Nd.at64 hx)
  rw [Nat.zero_add] at this
  exact h.at_ 64 this
end Go.Proofs.Ytipeaoanhcjnjaa
/- The path to a name: the reference. No condition. -/
namespace Go.Proofs.Ytipeaoanhcjnjaa
open Go.RowKit
set_option linter.unusedVariables false
set_option linter.unusedSimpArgs false

end Go.Proofs.Ytipeaoanhcjnjaa
/- The path to a name, as it is asked for. No condition. -/
namespace Go.Proofs.Ytipeaoanhcjnjaa
open Go.RowKit
set_option linter.unusedVariables false
set_option linter.unusedSimpArgs false

end Go.Proofs.Ytipeaoanhcjnjaa
/- A name struck out of a map: the reference. No condition. -/
namespace Go.Proofs.Ytipeaoanhcjnjaa
open Go.RowKit
set_option linter.unusedVariables false
set_option linter.unusedSimpArgs false

end Go.Proofs.Ytipeaoanhcjnjaa
/- An entry struck out of a row of one's own. No condition. -/
namespace Go.Proofs.Ytipeaoanhcjnjaa
open Go.RowKit
set_option linter.unusedVariables false
set_option linter.unusedSimpArgs false

end Go.Proofs.Ytipeaoanhcjnjaa
/- Rows of entries: copied within a row of one's own; an entry set in between. No condition. -/
namespace Go.Proofs.Ytipeaoanhcjnjaa
open Go.RowKit
set_option linter.unusedVariables false
set_option linter.unusedSimpArgs false

end Go.Proofs.Ytipeaoanhcjnjaa
/- An entry set into a row of one's own: slices.Insert. No condition. -/
namespace Go.Proofs.Ytipeaoanhcjnjaa
open Go.RowKit
set_option linter.unusedVariables false
set_option linter.unusedSimpArgs false

end Go.Proofs.Ytipeaoanhcjnjaa
/- An entry set into a row of one's own: slices.Insert at the end. No condition. -/
namespace Go.Proofs.Ytipeaoanhcjnjaa
open Go.RowKit
set_option linter.unusedVariables false
set_option linter.unusedSimpArgs false


end Go.Proofs.Ytipeaoanhcjnjaa
/- An entry set into a row of one's own: slices.Insert where there is room. No condition. -/
namespace Go.Proofs.Ytipeaoanhcjnjaa
open Go.RowKit
set_option linter.unusedVariables false
set_option linter.unusedSimpArgs false


end Go.Proofs.Ytipeaoanhcjnjaa
/- An entry set into a row of one's own: slices.Insert where there is no room. No condition. -/
namespace Go.Proofs.Ytipeaoanhcjnjaa
open Go.RowKit
set_option linter.unusedVariables false
set_option linter.unusedSimpArgs false


end Go.Proofs.Ytipeaoanhcjnjaa
/- An entry set into a row of one's own: slices.Insert. No condition. -/
namespace Go.Proofs.Ytipeaoanhcjnjaa
open Go.RowKit
set_option linter.unusedVariables false
set_option linter.unusedSimpArgs false


end Go.Proofs.Ytipeaoanhcjnjaa
/- An entry put into a map: the plain law. No condition. -/
namespace Go.Proofs.Ytipeaoanhcjnjaa
open Go.RowKit
set_option linter.unusedVariables false
set_option linter.unusedSimpArgs false

end Go.Proofs.Ytipeaoanhcjnjaa
/- An entry put into a map: the reference. No condition. -/
namespace Go.Proofs.Ytipeaoanhcjnjaa
open Go.RowKit
set_option linter.unusedVariables false
set_option linter.unusedSimpArgs false

end Go.Proofs.Ytipeaoanhcjnjaa
/- An entry put into a map: the reference. No condition. -/
namespace Go.Proofs.Ytipeaoanhcjnjaa
open Go.RowKit
set_option linter.unusedVariables false
set_option linter.unusedSimpArgs false

end Go.Proofs.Ytipeaoanhcjnjaa
/- The entries of a range: the program's predicate; the first entry outside. No condition. -/
namespace Go.Proofs.Ytipeaoanhcjnjaa
open Go.RowKit
set_option linter.unusedVariables false
set_option linter.unusedSimpArgs false

end Go.Proofs.Ytipeaoanhcjnjaa
/- An entry put into a map: the program. No condition. -/
namespace Go.Proofs.Ytipeaoanhcjnjaa
open Go.RowKit
set_option linter.unusedVariables false
set_option linter.unusedSimpArgs false

end Go.Proofs.Ytipeaoanhcjnjaa
/- The value of a name in a map: the reference and the program. No condition. -/
namespace Go.Proofs.Ytipeaoanhcjnjaa
open Go.RowKit
set_option linter.unusedVariables false
set_option linter.unusedSimpArgs false

end Go.Proofs.Ytipeaoanhcjnjaa
/- A name struck out of a map: the program. No condition. -/
namespace Go.Proofs.Ytipeaoanhcjnjaa
open Go.RowKit
set_option linter.unusedVariables false
set_option linter.unusedSimpArgs false

end Go.Proofs.Ytipeaoanhcjnjaa
/- Maps stay maps when an entry is put or struck out. No condition. -/
namespace Go.Proofs.Ytipeaoanhcjnjaa
open Go.RowKit
set_option linter.unusedVariables false
set_option linter.unusedSimpArgs false

end Go.Proofs.Ytipeaoanhcjnjaa
/- A map's own path, checked; where two paths part: plainly. No condition. -/
namespace Go.Proofs.Ytipeaoanhcjnjaa
open Go.RowKit
set_option linter.unusedVariables false
set_option linter.unusedSimpArgs false

/-- the node of zeros -/
def zeroN : Nd := ⟨List.replicate 32 0, List.replicate 32 0, ⟨#[]⟩, ⟨#[]⟩⟩
deriving instance DecidableEq for Nd
theorem alike {A B : List Nd} (hl : A.length = B.length) (h : ∀ p, p < A.length → A.getD p zeroN = B.getD p zeroN) : A = B := by
  refine List.ext_getElem hl fun i h1 h2 => ?_
  have := h i h1
  rw [List.getD_eq_getElem?_getD, List.getD_eq_getElem?_getD, List.getElem?_eq_getElem h1, List.getElem?_eq_getElem h2] at this
  exact this
end Go.Proofs.Ytipeaoanhcjnjaa
/- The nodes of a map, as they are asked for. No condition. -/
namespace Go.Proofs.Ytipeaoanhcjnjaa
open Go.RowKit
set_option linter.unusedVariables false
set_option linter.unusedSimpArgs false

end Go.Proofs.Ytipeaoanhcjnjaa
/- How deep a name lies. No condition. -/
namespace Go.Proofs.Ytipeaoanhcjnjaa
open Go.RowKit
set_option linter.unusedVariables false
set_option linter.unusedSimpArgs false

end Go.Proofs.Ytipeaoanhcjnjaa
/- What a map's tree is like: each entry once, names in order, priorities that fall: plainly. No condition. -/
namespace Go.Proofs.Ytipeaoanhcjnjaa
open Go.RowKit
set_option linter.unusedVariables false
set_option linter.unusedSimpArgs false

/-! the entries of a tree, from the left to the right -/
def Tr.ino : Tr → List En
  | .leaf => []
  | .node x l r => l.ino ++ (x.n, x.v) :: r.ino
/-- no node stands above one of a greater priority -/
def Tr.heap : Tr → Prop
  | .leaf => True
  | .node x l r => (∀ e ∈ l.ino ++ r.ino, cmpL (prioL e.1) (prioL x.n) ≤ 0) ∧ l.heap ∧ r.heap
end Go.Proofs.Ytipeaoanhcjnjaa
/- Two variables of a struct's type, made and filled at once. No condition. -/
namespace Go.Proofs.Ytipeaoanhcjnjaa
open Go.RowKit Go.BigFrame
set_option linter.unusedVariables false
set_option linter.unusedSimpArgs false

end Go.Proofs.Ytipeaoanhcjnjaa
/- The nodes that two maps share: what is counted. No condition. -/
namespace Go.Proofs.Ytipeaoanhcjnjaa
open Go.RowKit
set_option linter.unusedVariables false
set_option linter.unusedSimpArgs false

/-- the key of a node -/
def kN (x : Nd) : List Int := hashL 5 (nodeL x)
def kNs (M : List Nd) : List (List Int) := M.map kN
/-- how many nodes have a key of the list -/
def cntK (ks : List (List Int)) (M : List Nd) : Nat := M.countP fun y => ks.contains (kN y)
theorem kN_ok (x : Nd) : K32 (kN x) := hashL_ok 5 (nodeL x)
attribute [irreducible] kN kNs cntK
end Go.Proofs.Ytipeaoanhcjnjaa
/- A source of choices: what is drawn lies in its bounds. No condition. -/
namespace Go.Proofs.Ytipeaoanhcjnjaa
open Go.RowKit
set_option linter.unusedVariables false
set_option linter.unusedSimpArgs false

/-- a source in block g that has been asked at most b times; what it reads lies in older blocks -/
def Src (w : World) (g : Nat) (b : Int) : Prop :=
  ∃ (A : Option Addr) (cap : Nat) (xs : List Int) (p q : Int), Blk w g 106 #[.slice A xs.length cap, .int .i64 p, .int .u64 q] ∧ RdL tByte w (fun k => k < g) (.slice A xs.length cap) xs ∧ 0 ≤ p ∧ p ≤ b
theorem Src.lt {w : World} {g : Nat} {b : Int} (h : Src w g b) : g < w.heap.size := by
  obtain ⟨A, cap, xs, p, q, hB, _⟩ := h
  exact hB.lt
theorem Src.le {w : World} {g : Nat} {b c : Int} (h : Src w g b) (hc : b ≤ c) : Src w g c := by
  obtain ⟨A, cap, xs, p, q, hB, hr, h0, h1⟩ := h
  exact ⟨A, cap, xs, p, q, hB, hr, h0, by omega⟩
theorem Src.later {w w' : World} {g : Nat} {b : Int} {row : Option Nat} (h : Src w g b) (hg : w.grownBy w' row) (hr : ∀ k, row = some k → g < k) : Src w' g b := by
  obtain ⟨A, cap, xs, p, q, hB, hrd, h0, h1⟩ := h
  refine ⟨A, cap, xs, p, q, hB.grown hg (fun e => ?_), hrd.keep (fun k hk => hg.block k (Nat.lt_trans hk hB.lt) (fun e => ?_)), h0, h1⟩
  · have := hr g e.symm; omega
  · have := hr k e.symm; omega
theorem Src.ext {w w' : World} {g : Nat} {b : Int} (h : Src w g b) (hx : Ext w w') : Src w' g b := h.later (ext_grown none hx) (fun k e => by cases e)
theorem RdL.grownG {α : Type} {T : Ty α} {w w' : World} {S : Nat → Prop} {v : Value} {xs : List α} {g : Nat} (h : RdL T w S v xs) (hz : 0 < T.sz) (hg : w.grownBy w' (some g)) (hS : ∀ k, S k → k ≠ g) : RdL T w' S v xs := by
  obtain ⟨A, cap, he, h1, h2, h3, h4⟩ := h
  refine ⟨A, cap, he, h1, h2, ((h3.old hz).keep (fun k hk => hg.block k hk.2 (fun e => hS k hk.1 (by injection e)))).mono (fun k hk => hk.1), h4⟩
end Go.Proofs.Ytipeaoanhcjnjaa
/- What has been put is got, what has been deleted is not, and what is put back makes the map that was: plainly. No condition. -/
namespace Go.Proofs.Ytipeaoanhcjnjaa
open Go.RowKit
set_option linter.unusedVariables false
set_option linter.unusedSimpArgs false

theorem entB_name {e : En} (h : entB e.1 e.2 = true) : nameB e.1 = true := by
  rw [entB_eq, Bool.and_eq_true] at h
  exact h.1
end Go.Proofs.Ytipeaoanhcjnjaa
/- Names, entries and maps that are drawn from a source. No condition. -/
namespace Go.Proofs.Ytipeaoanhcjnjaa
open Go.RowKit
set_option linter.unusedVariables false
set_option linter.unusedSimpArgs false

end Go.Proofs.Ytipeaoanhcjnjaa
/- Nodes taken one after the other (the range of a map that nodes tell): plainly; the state of the walk. No condition. -/
namespace Go.Proofs.Ytipeaoanhcjnjaa
open Go.RowKit
set_option linter.unusedVariables false
set_option linter.unusedSimpArgs false

/-- what is left, what has been found, and whether something was amiss -/
structure Sw where
  R : List Nd
  O : List En
  bad : Bool
/-- the entry of a node that lies in the range -/
def trPut (fr to : ByteArray) (x : Nd) (s : Sw) : Sw := if !ltB x.n fr && ltB x.n to then ⟨s.R, s.O ++ [(x.n, x.v)], s.bad⟩ else s
def tr (fr to : ByteArray) : Nat → List Int → ByteArray → ByteArray → Bool → Sw → Sw
  | 0, K, _, _, _, s => if s.bad || decide (K = emptyL) then s else ⟨s.R, s.O, true⟩
  | f + 1, K, lo, hi, b, s => if s.bad || decide (K = emptyL) then s else
    match s.R with
    | [] => ⟨[], s.O, true⟩
    | x :: R' => if !decide (kN x = K) || !ltB lo x.n || (b && !ltB x.n hi) then ⟨R', s.O, true⟩ else
      if ltB x.n to then tr fr to f x.r x.n hi b (trPut fr to x (if ltB fr x.n then tr fr to f x.l lo x.n true ⟨R', s.O, false⟩ else ⟨R', s.O, false⟩))
      else trPut fr to x (if ltB fr x.n then tr fr to f x.l lo x.n true ⟨R', s.O, false⟩ else ⟨R', s.O, false⟩)
theorem tr_idle (fr to : ByteArray) (f : Nat) (K : List Int) (lo hi : ByteArray) (b : Bool) (s : Sw) (h : (s.bad || decide (K = emptyL)) = true) : tr fr to f K lo hi b s = s := by
  cases f <;> (rw [tr, if_pos h])
theorem tr_none (fr to : ByteArray) (f : Nat) (K : List Int) (lo hi : ByteArray) (b : Bool) (O : List En) (h : K ≠ emptyL) : tr fr to f K lo hi b ⟨[], O, false⟩ = ⟨[], O, true⟩ := by
  cases f <;> (rw [tr, if_neg (by simpa using h)])
theorem tr_cons (fr to : ByteArray) (f : Nat) (K : List Int) (lo hi : ByteArray) (b : Bool) (x : Nd) (R' : List Nd) (O : List En) (h : K ≠ emptyL) :
    tr fr to (f + 1) K lo hi b ⟨x :: R', O, false⟩ = if !decide (kN x = K) || !ltB lo x.n || (b && !ltB x.n hi) then ⟨R', O, true⟩ else
      if ltB x.n to then tr fr to f x.r x.n hi b (trPut fr to x (if ltB fr x.n then tr fr to f x.l lo x.n true ⟨R', O, false⟩ else ⟨R', O, false⟩))
      else trPut fr to x (if ltB fr x.n then tr fr to f x.l lo x.n true ⟨R', O, false⟩ else ⟨R', O, false⟩) := by
  rw [tr, if_neg (by simpa using h)]
/-- what the walk keeps -/
structure SwLe (s' s : Sw) : Prop where
  r : s'.R.length ≤ s.R.length
  o : s'.O.length + s'.R.length ≤ s.O.length + s.R.length
  m : ∀ x ∈ s'.R, x ∈ s.R
theorem SwLe.refl (s : Sw) : SwLe s s := ⟨Nat.le_refl _, Nat.le_refl _, fun _ h => h⟩
theorem SwLe.trans {a b c : Sw} (h : SwLe a b) (k : SwLe b c) : SwLe a c := ⟨Nat.le_trans h.r k.r, Nat.le_trans h.o k.o, fun x hx => k.m x (h.m x hx)⟩
theorem trPut_len (fr to : ByteArray) (x : Nd) (s : Sw) : (trPut fr to x s).R = s.R ∧ (trPut fr to x s).O.length ≤ s.O.length + 1 ∧ (trPut fr to x s).bad = s.bad := by
  unfold trPut
  split
  · exact ⟨rfl, by simp, rfl⟩
  · exact ⟨rfl, by omega, rfl⟩
theorem tr_le (fr to : ByteArray) (f : Nat) : ∀ (K : List Int) (lo hi : ByteArray) (b : Bool) (s : Sw), SwLe (tr fr to f K lo hi b s) s := by
  induction f with
  | zero =>
    intro K lo hi b s
    rw [tr]
    split
    · exact SwLe.refl s
    · exact ⟨Nat.le_refl _, Nat.le_refl _, fun _ h => h⟩
  | succ f ih =>
    intro K lo hi b s
    by_cases h : (s.bad || decide (K = emptyL)) = true
    · rw [tr_idle _ _ _ _ _ _ _ _ h]; exact SwLe.refl s
    · obtain ⟨R, O, bad⟩ := s
      obtain ⟨rfl, hk⟩ : bad = false ∧ K ≠ emptyL := by simpa using h
      match R with
      | [] => rw [tr_none _ _ _ _ _ _ _ _ hk]; exact ⟨Nat.le_refl _, Nat.le_refl _, fun _ h => h⟩
      | x :: R' =>
        rw [tr_cons _ _ _ _ _ _ _ _ _ _ hk]
        have h0 : ∀ c, SwLe ⟨R', O, c⟩ ⟨x :: R', O, false⟩ := fun c => ⟨by simp, by simp, fun y hy => by simp; exact .inr hy⟩
        have h1 : SwLe (if ltB fr x.n then tr fr to f x.l lo x.n true ⟨R', O, false⟩ else ⟨R', O, false⟩) ⟨R', O, false⟩ := by
          split
          · exact ih _ _ _ _ _
          · exact SwLe.refl _
        generalize (if ltB fr x.n then tr fr to f x.l lo x.n true ⟨R', O, false⟩ else ⟨R', O, false⟩) = s1 at h1
        obtain ⟨q1, q2, _⟩ := trPut_len fr to x s1
        have h2 : SwLe (trPut fr to x s1) ⟨x :: R', O, false⟩ := ⟨by rw [q1]; have := h1.r; simp only [List.length_cons] at *; omega, by rw [q1]; have := h1.o; simp only [List.length_cons] at *; omega, fun y hy => by rw [q1] at hy; have := h1.m y hy; simp; exact .inr this⟩
        split
        · exact h0 true
        · split
          · exact (ih _ _ _ _ _).trans h2
          · exact h2
/-- all blocks stand but two -/
structure Fr (w w' : World) (g : Nat) (v : Option Nat) : Prop where
  os : w'.os = w.os
  tape : w'.tape = w.tape
  output : w'.output = w.output
  size : w.heap.size ≤ w'.heap.size
  block : ∀ i, i < w.heap.size → i ≠ g → some i ≠ v → w'.heap[i]? = w.heap[i]?
theorem Fr.refl (w : World) (g : Nat) (v : Option Nat) : Fr w w g v := ⟨rfl, rfl, rfl, Nat.le_refl _, fun _ _ _ _ => rfl⟩
theorem Fr.trans {a b c : World} {g : Nat} {v v' : Option Nat} (h : Fr a b g v) (k : Fr b c g v') (hv : v' = v ∨ ∃ j, v' = some j ∧ a.heap.size ≤ j) : Fr a c g v :=
  ⟨k.os.trans h.os, k.tape.trans h.tape, k.output.trans h.output, Nat.le_trans h.size k.size, fun i hi hg hn => (k.block i (Nat.lt_of_lt_of_le hi h.size) hg (fun e => by
    rcases hv with rfl | ⟨j, rfl, hj⟩
    · exact hn e
    · injection e with e; omega)).trans (h.block i hi hg hn)⟩
theorem Fr.grown {a b : World} {g : Nat} {v : Option Nat} (h : a.grownBy b v) : Fr a b g v := ⟨h.os, h.tape, h.output, h.size, fun i hi _ hn => h.block i hi hn⟩
theorem Fr.grownG {a b : World} {g : Nat} {v : Option Nat} (h : a.grownBy b (some g)) : Fr a b g v := ⟨h.os, h.tape, h.output, h.size, fun i hi hg _ => h.block i hi (fun e => by injection e with e; exact hg e)⟩
theorem Fr.ext {a b : World} {g : Nat} {v : Option Nat} (h : Ext a b) : Fr a b g v := Fr.grown (ext_grown v h)
theorem Blk.fr {w w' : World} {i g t : Nat} {cs : Array Value} {v : Option Nat} (h : Blk w i t cs) (k : Fr w w' g v) (hg : i ≠ g) (hv : some i ≠ v) : Blk w' i t cs := (k.block i h.lt hg hv).trans h
theorem Own.row_at {α : Type} {T : Ty α} {e : TypeId} {w : World} {base : Nat} {v : Value} {xs : List α} (h : Own T e w base v xs) {k : Nat} (hk : v.ownBlock = some k) : ∃ cur, Blk w k e cur := by
  obtain ⟨⟨hl, hx⟩, _⟩ := h
  rcases hx with ⟨rfl, _⟩ | ⟨g, cap, cur, rfl, hb, hg, _⟩
  · cases hk
  · injection hk with hk
    subst hk
    exact ⟨cur, hg⟩
/-- the walk's block g and its row, seen from the start w of a call -/
structure Cx (t : TypeId) (w0 w W : World) (g : Nat) (cs : Array Value) (vO0 vO : Value) (O : List En) : Prop where
  blk : Blk W g t cs
  own : Own tEnt 50 W w0.heap.size vO O
  ext : Ext w0 W
  fr : Fr w W g vO0.ownBlock
  loc : vO.ownBlock = vO0.ownBlock ∨ ∃ k, vO.ownBlock = some k ∧ w.heap.size ≤ k
  ne : vO.ownBlock ≠ some g
  base : w0.heap.size ≤ g
  lt : g < w.heap.size
section
variable {t : TypeId} {w0 w W W' : World} {g : Nat} {cs cs' : Array Value} {vO0 vO vO' : Value} {O O' : List En}
theorem Cx.start (hb : Blk w g t cs) (ho : Own tEnt 50 w w0.heap.size vO O) (hx : Ext w0 w) (hn : vO.ownBlock ≠ some g) (hg : w0.heap.size ≤ g) : Cx t w0 w w g cs vO vO O := ⟨hb, ho, hx, Fr.refl _ _ _, .inl rfl, hn, hg, hb.lt⟩
theorem Cx.again (h : Cx t w0 w W g cs vO0 vO O) : Cx t w0 W W g cs vO vO O := Cx.start h.blk h.own h.ext h.ne h.base
theorem Cx.go (h : Cx t w0 w W g cs vO0 vO O) (hx : Ext W W') : Cx t w0 w W' g cs vO0 vO O := ⟨h.blk.ext hx, h.own.ext hx, h.ext.trans hx, h.fr.trans (Fr.ext (v := vO0.ownBlock) hx) (.inl rfl), h.loc, h.ne, h.base, h.lt⟩
theorem Cx.set (h : Cx t w0 w W g cs vO0 vO O) (i : Nat) (u : Value) : Cx t w0 w (W.setCell ⟨g, i, none⟩ u) g (cs.setIfInBounds i u) vO0 vO O :=
  have hg : W.grownBy (W.setCell ⟨g, i, none⟩ u) (some g) := grown_set (grown_refl _ _) _
  ⟨h.blk.set i u, h.own.kept hg (.inr h.ne), h.ext.grown hg (fun k e => by injection e with e; rw [← e]; exact h.base), h.fr.trans (Fr.grownG (v := vO0.ownBlock) hg) (.inl rfl), h.loc, h.ne, h.base, h.lt⟩
theorem Cx.call (h : Cx t w0 w W g cs vO0 vO O) (k : Cx t w0 W W' g cs' vO vO' O') : Cx t w0 w W' g cs' vO0 vO' O' :=
  ⟨k.blk, k.own, k.ext, h.fr.trans k.fr h.loc, by
    rcases k.loc with e | ⟨j, e, hj⟩
    · rw [e]; exact h.loc
    · exact .inr ⟨j, e, Nat.le_trans h.fr.size hj⟩, k.ne, k.base, h.lt⟩
theorem Cx.app (h : Cx t w0 w W g cs vO0 vO O) (ho : Own tEnt 50 W' w0.heap.size vO' O') (hg : W.grownBy W' vO.ownBlock) (hat : vO'.ownBlock = vO.ownBlock ∨ vO'.ownBlock = some W.heap.size) : Cx t w0 w W' g cs vO0 vO' O' := by
  refine ⟨h.blk.grown hg (fun e => h.ne e.symm), ho, h.ext.grown hg (fun k e => (h.own.base_le k e).1), h.fr.trans (Fr.grown hg) h.loc, ?_, ?_, h.base, h.lt⟩
  · rcases hat with e | e
    · rw [e]; exact h.loc
    · exact .inr ⟨_, e, h.fr.size⟩
  · rcases hat with e | e
    · rw [e]; exact h.ne
    · intro e2
      rw [e] at e2
      injection e2 with e2
      have := h.blk.lt
      omega
theorem Blk.cx {i t2 : TypeId} {cs2 : Array Value} (hb : Blk W i t2 cs2) (h : Cx t w0 w W g cs vO0 vO O) (k : Cx t w0 W W' g cs' vO vO' O') (hi : i ≠ g) (ht : t2 ≠ 50) : Blk W' i t2 cs2 := by
  refine hb.fr k.fr hi fun e => ?_
  obtain ⟨cur, hc⟩ := h.own.row_at e.symm
  unfold Blk at hb hc
  rw [hb] at hc
  injection hc with hc
  injection hc with _ hc
  exact ht hc
end
/-- s[1:] -/
theorem wpl_cut1 {P : Program} {ops : Array Oper} {rest : List Oper} {o : Oper} {a : Act} {w : World} {Q : Exit → Act → World → Prop} {t : TypeId} {A : Option Addr} {n c sz : Nat} (ht : P.underlying t = some (.slice (P.elem t))) (hz : (sizeOf (P.elem t)).run P w = .ok sz w) (hg : o.guard = none) (x : Operand)
    (ho : o.op = .slice t x (some (.const (.int .i64 1))) none none) (hx : a.eval x = .slice A n c) (hn : 1 ≤ n) (h : wpList P ops Q rest (a.put o.dst (.slice (if c = 1 then A else A.map (·.add (1 * sz))) (n - 1) (c - 1))) w) : wpList P ops Q (o :: rest) a w := by
  refine wpList_plain hg fun K hK => ?_
  have hr := run_slice_l (P := P) w t A n c ht .i64 1 (by decide) (by omega)
  rw [hz] at hr
  have hc1 : a.eval (.const (.int .i64 1)) = .int .i64 1 := rfl
  have hr2 : (Instr.sliceAt t (.slice A n c) (some (.int .i64 1)) none none).run P w = .ok (.slice (if c = 1 then A else A.map (·.add (1 * sz))) (n - 1) (c - 1)) w := by
    rw [run_sliceAt_slice (P := P) w t _ _ _ _ ht, hr]; rfl
  generalize (Value.slice (if c = 1 then A else A.map (·.add (1 * sz))) (n - 1) (c - 1)) = sl at hr2 h
  unfold Oper.wp
  simp [execOp, ho, hx, hc1, hr2, Result.andThen]
  exact hK _ _ h
end Go.Proofs.Ytipeaoanhcjnjaa
/- Nodes held against each other by == and !=. No condition. -/
namespace Go.Proofs.Ytipeaoanhcjnjaa
open Go.RowKit
set_option linter.unusedVariables false
set_option linter.unusedSimpArgs false

section
variable {P : Program} (w : World)
end
end Go.Proofs.Ytipeaoanhcjnjaa
/- Two nodes in variables and a code are the results; the node at a place of a path. No condition. -/
namespace Go.Proofs.Ytipeaoanhcjnjaa
open Go.RowKit
set_option linter.unusedVariables false
set_option linter.unusedSimpArgs false

end Go.Proofs.Ytipeaoanhcjnjaa
/- The reference's walk over nodes that tell a range. No condition. -/
namespace Go.Proofs.Ytipeaoanhcjnjaa
open Go.RowKit
set_option linter.unusedVariables false
set_option linter.unusedSimpArgs false

def TreeC (f : Nat) : Prop := ∀ (fr to : ByteArray) (w0 : World) (S0 : Nat → Prop) (K : List Int) (lo hi : ByteArray) (b : Bool) (s : Sw), s.R.length ≤ f → s.O.length + s.R.length ≤ 64 → (∀ x ∈ s.R, x.ok ∧ entB x.n x.v = true) → K32 K →
  ∀ (w : World) (g : Nat) (A : Option Addr) (c : Nat) (vO : Value), RdL tNd w0 S0 (.slice A s.R.length c) s.R → Cx 62 w0 w w g #[.string fr, .string to, .slice A s.R.length c, vO, .bool s.bad] vO vO s.O →
  Calls Try.prog 31 #[.pointer (some ⟨g, 0, none⟩), .agg (numsA .u8 K), .string lo, .string hi, .bool b] w fun e w' => ∃ A' c' vO', e = .returned (.tuple #[]) ∧ RdL tNd w0 S0 (.slice A' (tr fr to f K lo hi b s).R.length c') (tr fr to f K lo hi b s).R ∧
    Cx 62 w0 w w' g #[.string fr, .string to, .slice A' (tr fr to f K lo hi b s).R.length c', vO', .bool (tr fr to f K lo hi b s).bad] vO vO' (tr fr to f K lo hi b s).O

set_option maxHeartbeats 1000000 in
set_option maxRecDepth 100000 in
theorem tree_bad (f : Nat) (fr to : ByteArray) (w0 : World) (S0 : Nat → Prop) (K : List Int) (lo hi : ByteArray) (b : Bool) (s : Sw) (hbd : s.bad = true) (hK : K32 K)
    (w : World) (g : Nat) (A : Option Addr) (c : Nat) (vO : Value) (hr : RdL tNd w0 S0 (.slice A s.R.length c) s.R) (hC : Cx 62 w0 w w g #[.string fr, .string to, .slice A s.R.length c, vO, .bool s.bad] vO vO s.O) :
    Calls Try.prog 31 #[.pointer (some ⟨g, 0, none⟩), .agg (numsA .u8 K), .string lo, .string hi, .bool b] w fun e w' => ∃ A' c' vO', e = .returned (.tuple #[]) ∧ RdL tNd w0 S0 (.slice A' (tr fr to f K lo hi b s).R.length c') (tr fr to f K lo hi b s).R ∧
      Cx 62 w0 w w' g #[.string fr, .string to, .slice A' (tr fr to f K lo hi b s).R.length c', vO', .bool (tr fr to f K lo hi b s).bad] vO vO' (tr fr to f K lo hi b s).O := by
  rw [tr_idle _ _ _ _ _ _ _ _ (by rw [hbd]; rfl)]
  rw [hbd] at hC ⊢
  have HC := Lib.hid hC
  have HR := Lib.hid hr
  have hkl := hK.1
  generalize s.R.length = nR at HR HC ⊢
  clear hbd hC hr hK
  have c0 := HC.out.blk.at_ 0 rfl
  have c1 := HC.out.blk.at_ 1 rfl
  have c2 := HC.out.blk.at_ 2 rfl
  have c3 := HC.out.blk.at_ 3 rfl
  have c4 := HC.out.blk.at_ 4 rfl
  have f2 := HC.out.blk.free 2
  have f3 := HC.out.blk.free 3
  have f4 := HC.out.blk.free 4
  go_enter Try.func31, Try.ntmps31
  go_wp2_with fail
  have HA := Lib.hid (HC.out.go (ext_alloc w (.cells (numsA .u8 K) 28)))
  have HKB := Lib.hid (Blk.new w 28 (numsA .u8 K))
  clear c0 c1 c2 c3 c4 f2 f3 f4
  generalize w.alloc (.cells (numsA .u8 K) 28) = wa at HA HKB ⊢
  have cd : ∀ W, Ext wa W → W.cell? ⟨g, 4, none⟩ = some (.bool true) := fun W hW => (HA.out.blk.ext hW).at_ 4 rfl
  refine wp_region_held_drew (S := fun W => Ext wa W) (by kernel_rfl) (Ext.refl _).drew (fun hHeld => ?_)
  iterate 9
    refine tkD 0 (by simp only [List.size_toArray, List.length_cons, List.length_nil]; rfl) (by simp only [List.getElem?_toArray, List.getElem?_cons_zero, List.getElem?_cons_succ]; rfl) (by kernel_rfl) (by exact fun _ _ _ h => h) (by first | (exact Or.inl ⟨by rfl, by intro w hSw; (try dsimp only at hSw); go_simp; with_reducible rfl⟩) | (exact Or.inr ⟨by rfl, by rfl⟩)) (by assumption) ?_
    try simp only [Act.put, List.setIfInBounds_toArray, List.set_cons_zero, List.set_cons_succ]
  refine wpAnyH_done (by kernel_rfl) ?_ _
  have hAx := HA.out.go hHeld
  have HK2 := Lib.hid (HKB.out.ext hHeld)
  clear cd hHeld
  revert hAx HK2
  generalize World.drew wa = w1
  intro hAx HK2
  have HB1 := Lib.hid hAx
  clear hAx HA HKB
  go_wp2
  refine bodyPost_ret (results_none rfl _ _ _) rfl ?_
  exact ⟨_, _, _, rfl, HR.out, HB1.out⟩
set_option maxHeartbeats 1000000 in
set_option maxRecDepth 100000 in
theorem tree_empty (f : Nat) (fr to : ByteArray) (w0 : World) (S0 : Nat → Prop) (K : List Int) (lo hi : ByteArray) (b : Bool) (s : Sw) (hbd : s.bad = false) (hKe : K = emptyL) (hK : K32 K)
    (w : World) (g : Nat) (A : Option Addr) (c : Nat) (vO : Value) (hr : RdL tNd w0 S0 (.slice A s.R.length c) s.R) (hC : Cx 62 w0 w w g #[.string fr, .string to, .slice A s.R.length c, vO, .bool s.bad] vO vO s.O) :
    Calls Try.prog 31 #[.pointer (some ⟨g, 0, none⟩), .agg (numsA .u8 K), .string lo, .string hi, .bool b] w fun e w' => ∃ A' c' vO', e = .returned (.tuple #[]) ∧ RdL tNd w0 S0 (.slice A' (tr fr to f K lo hi b s).R.length c') (tr fr to f K lo hi b s).R ∧
      Cx 62 w0 w w' g #[.string fr, .string to, .slice A' (tr fr to f K lo hi b s).R.length c', vO', .bool (tr fr to f K lo hi b s).bad] vO vO' (tr fr to f K lo hi b s).O := by
  rw [tr_idle _ _ _ _ _ _ _ _ (by rw [hKe]; simp)]
  rw [hbd] at hC ⊢
  have HC := Lib.hid hC
  have HR := Lib.hid hr
  have hkl := hK.1
  have heql : ∀ W, (binOp .eql 28 (.agg (numsA .u8 K)) (.agg (numsA .u8 emptyL))).run Try.prog W = .ok (.bool true) W := fun W => by
    have := run_eqKey K emptyL hK emptyL_ok W
    rw [decide_eq_true hKe] at this
    exact this
  generalize s.R.length = nR at HR HC ⊢
  clear hbd hC hr hK hKe
  have c0 := HC.out.blk.at_ 0 rfl
  have c1 := HC.out.blk.at_ 1 rfl
  have c2 := HC.out.blk.at_ 2 rfl
  have c3 := HC.out.blk.at_ 3 rfl
  have c4 := HC.out.blk.at_ 4 rfl
  have f2 := HC.out.blk.free 2
  have f3 := HC.out.blk.free 3
  have f4 := HC.out.blk.free 4
  go_enter Try.func31, Try.ntmps31
  go_wp2_with fail
  have HA := Lib.hid (HC.out.go (ext_alloc w (.cells (numsA .u8 K) 28)))
  have HKB := Lib.hid (Blk.new w 28 (numsA .u8 K))
  clear c0 c1 c2 c3 c4 f2 f3 f4
  generalize w.alloc (.cells (numsA .u8 K) 28) = wa at HA HKB ⊢
  have cd : ∀ W, Ext wa W → W.cell? ⟨g, 4, none⟩ = some (.bool false) := fun W hW => (HA.out.blk.ext hW).at_ 4 rfl
  refine wp_region_held_drew (S := fun W => Ext wa W) (by kernel_rfl) (Ext.refl _).drew (fun hHeld => ?_)
  iterate 5
    refine tkD 0 (by simp only [List.size_toArray, List.length_cons, List.length_nil]; rfl) (by simp only [List.getElem?_toArray, List.getElem?_cons_zero, List.getElem?_cons_succ]; rfl) (by kernel_rfl) (by exact fun _ _ _ h => h) (by first | (exact Or.inl ⟨by rfl, by intro w hSw; (try dsimp only at hSw); go_simp; with_reducible rfl⟩) | (exact Or.inr ⟨by rfl, by rfl⟩)) (by assumption) ?_
    try simp only [Act.put, List.setIfInBounds_toArray, List.set_cons_zero, List.set_cons_succ]
  refine tkI 5 (v := (.agg (numsA .u8 K))) (by simp only [List.getElem?_toArray, List.getElem?_cons_zero, List.getElem?_cons_succ]; rfl) (by kernel_rfl) (by exact fun _ _ _ h => h) (by refine yields_loadB HKB.out aggKey (sizeN hkl) ?_ _ rfl rfl; rfl) (by assumption) ?_
  try simp only [Act.put, List.setIfInBounds_toArray, List.set_cons_zero, List.set_cons_succ]
  refine wpAnyH_ready (rs := [6]) (by kernel_rfl) (by simp) (AllReadyH.cons (o := ?oy166) ?hy166 (fun K hK => ?sy166) AllReadyH.nil)
  case hy166 => simp only [List.getElem?_toArray, List.getElem?_cons_zero, List.getElem?_cons_succ]; rfl
  go_simp
  refine (l04Empty_any _).mono ?_
  rintro e w9 ⟨rfl, hx⟩
  have hH2 := hHeld.trans hx
  refine hK.out _ _ hH2 (fun _ => ?_)
  clear hHeld hK K
  have hHeld := hH2
  clear hH2
  try simp only [Act.put, List.setIfInBounds_toArray, List.set_cons_zero, List.set_cons_succ]
  iterate 2
    refine tkD 0 (by simp only [List.size_toArray, List.length_cons, List.length_nil]; rfl) (by simp only [List.getElem?_toArray, List.getElem?_cons_zero, List.getElem?_cons_succ]; rfl) (by kernel_rfl) (by exact fun _ _ _ h => h) (by first | (exact Or.inl ⟨by rfl, by intro w hSw; (try dsimp only at hSw); go_simp; with_reducible rfl⟩) | (exact Or.inr ⟨by rfl, by rfl⟩)) (by assumption) ?_
    try simp only [Act.put, List.setIfInBounds_toArray, List.set_cons_zero, List.set_cons_succ]
  refine wpAnyH_done (by kernel_rfl) ?_ _
  have hAx := HA.out.go hHeld
  have HK2 := Lib.hid (HKB.out.ext hHeld)
  clear cd hHeld
  revert hAx HK2
  skip
  intro hAx HK2
  have HB1 := Lib.hid hAx
  clear hAx HA HKB
  go_wp2
  refine bodyPost_ret (results_none rfl _ _ _) rfl ?_
  exact ⟨_, _, _, rfl, HR.out, HB1.out⟩
set_option maxHeartbeats 1000000 in
set_option maxRecDepth 100000 in
theorem tree_none (f : Nat) (fr to : ByteArray) (w0 : World) (S0 : Nat → Prop) (K : List Int) (lo hi : ByteArray) (b : Bool) (O : List En) (hKe : K ≠ emptyL) (hK : K32 K)
    (w : World) (g : Nat) (A : Option Addr) (c : Nat) (vO : Value) (hr : RdL tNd w0 S0 (.slice A 0 c) []) (hC : Cx 62 w0 w w g #[.string fr, .string to, .slice A 0 c, vO, .bool false] vO vO O) :
    Calls Try.prog 31 #[.pointer (some ⟨g, 0, none⟩), .agg (numsA .u8 K), .string lo, .string hi, .bool b] w fun e w' => ∃ A' c' vO', e = .returned (.tuple #[]) ∧ RdL tNd w0 S0 (.slice A' (tr fr to f K lo hi b ⟨[], O, false⟩).R.length c') (tr fr to f K lo hi b ⟨[], O, false⟩).R ∧
      Cx 62 w0 w w' g #[.string fr, .string to, .slice A' (tr fr to f K lo hi b ⟨[], O, false⟩).R.length c', vO', .bool (tr fr to f K lo hi b ⟨[], O, false⟩).bad] vO vO' (tr fr to f K lo hi b ⟨[], O, false⟩).O := by
  rw [tr_none _ _ _ _ _ _ _ _ hKe]
  have HC := Lib.hid hC
  have HR := Lib.hid hr
  have hkl := hK.1
  have heql : ∀ W, (binOp .eql 28 (.agg (numsA .u8 K)) (.agg (numsA .u8 emptyL))).run Try.prog W = .ok (.bool false) W := fun W => by
    have := run_eqKey K emptyL hK emptyL_ok W
    rw [decide_eq_false hKe] at this
    exact this
  clear hC hr hK hKe
  have c0 := HC.out.blk.at_ 0 rfl
  have c1 := HC.out.blk.at_ 1 rfl
  have c2 := HC.out.blk.at_ 2 rfl
  have c3 := HC.out.blk.at_ 3 rfl
  have c4 := HC.out.blk.at_ 4 rfl
  have f2 := HC.out.blk.free 2
  have f3 := HC.out.blk.free 3
  have f4 := HC.out.blk.free 4
  go_enter Try.func31, Try.ntmps31
  go_wp2_with fail
  have HA := Lib.hid (HC.out.go (ext_alloc w (.cells (numsA .u8 K) 28)))
  have HKB := Lib.hid (Blk.new w 28 (numsA .u8 K))
  clear c0 c1 c2 c3 c4 f2 f3 f4
  generalize w.alloc (.cells (numsA .u8 K) 28) = wa at HA HKB ⊢
  have cd : ∀ W, Ext wa W → W.cell? ⟨g, 4, none⟩ = some (.bool false) := fun W hW => (HA.out.blk.ext hW).at_ 4 rfl
  refine wp_region_held_drew (S := fun W => Ext wa W) (by kernel_rfl) (Ext.refl _).drew (fun hHeld => ?_)
  iterate 5
    refine tkD 0 (by simp only [List.size_toArray, List.length_cons, List.length_nil]; rfl) (by simp only [List.getElem?_toArray, List.getElem?_cons_zero, List.getElem?_cons_succ]; rfl) (by kernel_rfl) (by exact fun _ _ _ h => h) (by first | (exact Or.inl ⟨by rfl, by intro w hSw; (try dsimp only at hSw); go_simp; with_reducible rfl⟩) | (exact Or.inr ⟨by rfl, by rfl⟩)) (by assumption) ?_
    try simp only [Act.put, List.setIfInBounds_toArray, List.set_cons_zero, List.set_cons_succ]
  refine tkI 5 (v := (.agg (numsA .u8 K))) (by simp only [List.getElem?_toArray, List.getElem?_cons_zero, List.getElem?_cons_succ]; rfl) (by kernel_rfl) (by exact fun _ _ _ h => h) (by refine yields_loadB HKB.out aggKey (sizeN hkl) ?_ _ rfl rfl; rfl) (by assumption) ?_
  try simp only [Act.put, List.setIfInBounds_toArray, List.set_cons_zero, List.set_cons_succ]
  refine wpAnyH_ready (rs := [6]) (by kernel_rfl) (by simp) (AllReadyH.cons (o := ?oy256) ?hy256 (fun K hK => ?sy256) AllReadyH.nil)
  case hy256 => simp only [List.getElem?_toArray, List.getElem?_cons_zero, List.getElem?_cons_succ]; rfl
  go_simp
  refine (l04Empty_any _).mono ?_
  rintro e w9 ⟨rfl, hx⟩
  have hH2 := hHeld.trans hx
  refine hK.out _ _ hH2 (fun _ => ?_)
  clear hHeld hK K
  have hHeld := hH2
  clear hH2
  try simp only [Act.put, List.setIfInBounds_toArray, List.set_cons_zero, List.set_cons_succ]
  iterate 2
    refine tkD 0 (by simp only [List.size_toArray, List.length_cons, List.length_nil]; rfl) (by simp only [List.getElem?_toArray, List.getElem?_cons_zero, List.getElem?_cons_succ]; rfl) (by kernel_rfl) (by exact fun _ _ _ h => h) (by first | (exact Or.inl ⟨by rfl, by intro w hSw; (try dsimp only at hSw); go_simp; with_reducible rfl⟩) | (exact Or.inr ⟨by rfl, by rfl⟩)) (by assumption) ?_
    try simp only [Act.put, List.setIfInBounds_toArray, List.set_cons_zero, List.set_cons_succ]
  refine wpAnyH_done (by kernel_rfl) ?_ _
  have hAx := HA.out.go hHeld
  have HK2 := Lib.hid (HKB.out.ext hHeld)
  clear cd hHeld
  revert hAx HK2
  skip
  intro hAx HK2
  have HB1 := Lib.hid hAx
  clear hAx HA HKB
  have d0 := HB1.out.blk.at_ 0 rfl
  have d1 := HB1.out.blk.at_ 1 rfl
  have d2 := HB1.out.blk.at_ 2 rfl
  have d3 := HB1.out.blk.at_ 3 rfl
  have d4 := HB1.out.blk.at_ 4 rfl
  have f2 := HB1.out.blk.free 2
  have f3 := HB1.out.blk.free 3
  have f4 := HB1.out.blk.free 4
  go_wp2
  refine bodyPost_ret (results_none rfl _ _ _) rfl ?_
  exact ⟨_, _, _, rfl, HR.out, HB1.out.set 4 (.bool true)⟩
end Go.Proofs.Ytipeaoanhcjnjaa
