/- What a program makes of a base: the program. No condition. -/
import Derived.Test.YtepmhononinbkaaApply
namespace Go.Proofs.Ytepmhononinbkaa
open Go.RowKit
set_option linter.unusedVariables false
set_option linter.unusedSimpArgs false

set_option maxHeartbeats 16000000 in
set_option maxRecDepth 100000 in
theorem apply_any (v u : Value) (base p : List Int) (w : World) (S S' : Nat → Prop) (h : RdL tByte w S v base) (h' : RdL tByte w S' u p) (hb : base.length ≤ 1024) (hp : p.length ≤ 1024) :
    Calls Try.prog 97 #[v, u] w fun e w' => ∃ v', e = .returned (.tuple #[v', .int .i64 (applyL base p []).2]) ∧ Own tByte 5 w' w.heap.size v' (applyL base p []).1 ∧ Ext w w' := by
  obtain ⟨A, cap, rfl, hcap, hlen, hrd, hok⟩ := h
  obtain ⟨A', cap', rfl, hcap', hlen', hrd', hok'⟩ := h'
  have Hrd := Lib.hid (show Rd w S 1 A base.length (nums .u8 base) by rw [← flat_bytes]; exact hrd)
  have Hrd' := Lib.hid (show Rd w S' 1 A' p.length (nums .u8 p) by rw [← flat_bytes]; exact hrd')
  have Hok := Lib.hid hok
  have Hok' := Lib.hid (show B8 p from hok')
  clear hrd hrd' hok hok'
  go_enter Try.func97, Try.ntmps97
  go_wp2_with fail
  go_loopw [1, 6] (fun i o wr => ∃ (q out : List Int) (A1 : Option Addr) (c1 : Nat), q.length ≤ p.length ∧ i = .slice A1 q.length c1 ∧ q.length ≤ c1 ∧ applyL base p [] = applyL base q out ∧ out.length ≤ 255 * (p.length - q.length) ∧ B8 q ∧ Rd w S' 1 A1 q.length (nums .u8 q) ∧ Own tByte 5 wr w.heap.size o out ∧ Ext w wr)
    (fun i _ _ => lenV i)
  case atStart => exact ⟨p, [], A', cap', by omega, rfl, hcap', rfl, by simp, Hok'.out, Hrd'.out, Own.empty _ _ _ _ (Nat.le_refl _), ext_alloc _ _⟩
  case round =>
    obtain ⟨q, out, A1, c1, hqp, rfl, hqc, hF, hol, hBq, hRq, hO, hX⟩ := hrel
    have HF := Lib.hid hF
    have HO := Lib.hid hO
    have HX := Lib.hid hX
    have HBq := Lib.hid hBq
    have HRq := Lib.hid hRq
    obtain ⟨B, bc, rfl⟩ := hO.shape
    clear hF hO hX hBq hRq
    by_cases hq : q.length = 0
    · obtain rfl : q = [] := List.eq_nil_of_length_eq_zero hq
      have hend := applyL_end base out
      by_cases h1 : 1024 < out.length
      · rw [if_pos h1] at hend
        have HE := Lib.hid hend
        clear hend
        go_wp2_with fail
        go_ret2
        rw [HF.out, HE.out]
        exact ⟨_, rfl, Own.nil _ _ _ _, HX.out⟩
      · rw [if_neg h1] at hend
        have HE := Lib.hid hend
        clear hend
        go_wp2_with fail
        go_ret2
        rw [HF.out, HE.out]
        exact ⟨_, rfl, HO.out, HX.out⟩
    obtain ⟨g, o, rfl, hs, hcq⟩ := HRq.out.2 (by omega)
    have cellq : ∀ j, j < q.length → wr.cell? ⟨g, o + j, none⟩ = some (.int .u8 (gI q j)) := fun j hj => HX.out.cell (hcq j _ (nums_at _ _ _ hj))
    have CQ := Lib.hid cellq
    clear hcq cellq
    have hc0 : wr.cell? ⟨g, o, none⟩ = some (.int .u8 (gI q 0)) := CQ.out 0 (by omega)
    have hB0 := B8.get HBq.out 0
    have hbadn : ¬ (gI q 0 = 0 ∧ 1 < q.length ∧ 0 < gI q 1 ∧ 2 + (gI q 1).toNat ≤ q.length) → ¬ (gI q 0 = 1 ∧ 3 < q.length ∧ 0 < gI q 3 ∧ (gI q 1 + 256 * gI q 2).toNat + (gI q 3).toNat ≤ base.length) → applyL base q out = ([], 5) := fun a b => applyL_bad _ _ _ (by omega) a b
    have HB := Lib.hid hbadn
    clear hbadn
    by_cases h0 : gI q 0 = 0
    · rw [h0] at hc0
      have H0 := Lib.hid h0
      clear h0 hB0
      by_cases hl1 : q.length ≤ 1
      · go_wp2_with fail
        go_ret2
        rw [HF.out, HB.out (by omega) (by rw [H0.out]; omega)]
        exact ⟨_, rfl, Own.nil _ _ _ _, HX.out⟩
      have hc1 := CQ.out 1 (by omega)
      have hB1 := B8.get HBq.out 1
      by_cases hz : gI q 1 = 0
      · rw [hz] at hc1
        have HZ := Lib.hid hz
        clear hz hB1
        go_wp2_with fail
        go_ret2
        rw [HF.out, HB.out (by rw [HZ.out]; omega) (by rw [H0.out]; omega)]
        exact ⟨_, rfl, Own.nil _ _ _ _, HX.out⟩
      by_cases hfit : q.length < 2 + (gI q 1).toNat
      · go_wp2_with fail
        go_ret2
        rw [HF.out, HB.out (by omega) (by rw [H0.out]; omega)]
        exact ⟨_, rfl, Own.nil _ _ _ _, HX.out⟩
      have hgood := applyL_lit base q out H0.out (by omega) (by omega) (by omega)
      have HG := Lib.hid hgood
      clear hgood
      have hcut := HRq.out.cut8 (2 + (gI q 1).toNat) c1 (by omega) hqc
      have HCut := Lib.hid hcut
      clear hcut
      go_wp2_with fail
      have W1 : IntKind.i64.wrap (2 + gI q 1) = 2 + gI q 1 := IntWalk.i64_in _ (by omega)
      have W2 : (0 : Int) ≤ 2 + gI q 1 := by omega
      have W3 : (2 + gI q 1 : Int) ≤ (c1 : Int) := by omega
      have W4 : (2 + gI q 1).toNat = 2 + (gI q 1).toNat := by omega
      have W6 : ¬ c1 = 2 := by omega
      have W7 : (2 + gI q 1 : Int) ≤ (q.length : Int) := by omega
      have W8 : max (gI q 1) 0 = gI q 1 := by omega
      have W9 : (2 : Int) ≤ 2 + gI q 1 := by omega
      go_region_law (refine stp_append rowByte rfl (.tmp 44) (.tmp 48) rfl (v := .slice B out.length bc) (by simp [Act.eval, Act.put]) HO.out.drew (A := some ⟨g, o + 2, none⟩) (gI q 1).toNat (c1 - 2) (by simp [Act.eval, Act.put]) (ys := (q.drop 2).take (gI q 1).toNat) (S := S') (by simp; omega) ((HRq.out.ext (by decide) HX.out.drew).sub8 2 _ (by omega)) (fun x hx => HBq.out x (List.mem_of_mem_drop (List.mem_of_mem_take hx))) (by simp; omega) HX.out.size ?_; intro v1 w1 ho1 hg1 hat1; have HO1 := Lib.hid ho1; have HX1 := Lib.hid (HO.out.drew.ext_app HX.out.drew hg1); obtain ⟨B1, bn1, bc1, rfl⟩ := ho1.shape3; clear ho1 hg1 hat1)
      all_goals
        simp only [Act.put, List.setIfInBounds_toArray, List.set_cons_zero, List.set_cons_succ, List.getElem_cons_zero, List.getElem_cons_succ, List.getElem_toArray]
        go_wp2_with fail
        go_roundw
        case rel => exact ⟨q.drop (2 + (gI q 1).toNat), _, _, _, by simp; omega, by rw [List.length_drop], by simp; omega, HF.out.trans HG.out, by simp; omega, HBq.out.drop _, HCut.out, HO1.out, HX1.out⟩
        case measure => simp [lenV]; omega
    · have hbadn2 : ¬ (gI q 0 = 1 ∧ 3 < q.length ∧ 0 < gI q 3 ∧ (gI q 1 + 256 * gI q 2).toNat + (gI q 3).toNat ≤ base.length) → applyL base q out = ([], 5) := fun hh => HB.out (fun a => h0 a.1) hh
      have HB2 := Lib.hid hbadn2
      clear hbadn2 HB
      by_cases h1 : gI q 0 = 1
      · rw [h1] at hc0
        have H1 := Lib.hid h1
        clear h0 h1 hB0
        by_cases hl3 : q.length ≤ 3
        · go_wp2_with fail
          go_ret2
          rw [HF.out, HB2.out (by omega)]
          exact ⟨_, rfl, Own.nil _ _ _ _, HX.out⟩
        have hc3 := CQ.out 3 (by omega)
        have hB1 := B8.get HBq.out 1
        have hB2 := B8.get HBq.out 2
        have hB3 := B8.get HBq.out 3
        by_cases hz : gI q 3 = 0
        · rw [hz] at hc3
          have HZ := Lib.hid hz
          clear hz hB3
          go_wp2_with fail
          go_ret2
          rw [HF.out, HB2.out (by rw [HZ.out]; omega)]
          exact ⟨_, rfl, Own.nil _ _ _ _, HX.out⟩
        have hlit : littleN ((q.drop 1).take 2) = gI q 1 + 256 * gI q 2 := by
          have e : (q.drop 1).take 2 = [gI q 1, gI q 2] := by
            rw [List.drop_eq_getElem_cons (by omega : 1 < q.length), List.drop_eq_getElem_cons (by omega : 2 < q.length), ← gI_lt, ← gI_lt]
            rfl
          rw [e]
          simp [littleN]
        have hsub := (HRq.out.ext (by decide) HX.out).sub8 1 2 (by omega)
        have hl2 : ((q.drop 1).take 2).length = 2 := by simp; omega
        have hrdl : RdL tByte wr S' (.slice (some ⟨g, o + 1, none⟩) 2 (c1 - 1)) ((q.drop 1).take 2) := ⟨_, c1 - 1, by rw [hl2], by rw [hl2]; omega, by rw [hl2]; omega, hsub, fun x hx => HBq.out x (List.mem_of_mem_drop (List.mem_of_mem_take hx))⟩
        have hcall := fun n => littleNumber_any _ _ (wr.drewN n) S' (hrdl.ext (by decide) ((Ext.refl _).drewN n)) (by rw [hl2]; omega)
        rw [hlit] at hcall
        have HC := Lib.hid hcall
        clear hcall hrdl hsub hl2 hlit
        have W0 : ¬ c1 = 1 := by omega
        have V1 : (0 : Int) ≤ 3 := by omega
        have V2 : (3 : Int) ≤ (c1 : Int) := by omega
        go_wp2_with fail
        go_quiet ((go_at_call 151; exact Calls.quiet_of ((HC.out _).mono fun e w' ⟨he, hw⟩ => ⟨he, 0, hw.symm⟩)))
        by_cases hfit : base.length < (gI q 1 + 256 * gI q 2).toNat + (gI q 3).toNat
        · go_wp2_with fail
          go_ret2
          rw [HF.out, HB2.out (by omega)]
          exact ⟨_, rfl, Own.nil _ _ _ _, HX.out.drewN _⟩
        have hgood := applyL_copy base q out H1.out (by omega) (by omega) (by omega)
        have HG := Lib.hid hgood
        have hcut := HRq.out.cut8 4 c1 (by omega) hqc
        have HCut := Lib.hid hcut
        obtain ⟨gb, ob, hA5, _, _⟩ := Hrd.out.2 (by omega)
        subst hA5
        clear hgood hcut
        go_wp2_with fail
        have W1 : IntKind.i64.wrap (gI q 1 + 256 * gI q 2 + gI q 3) = gI q 1 + 256 * gI q 2 + gI q 3 := IntWalk.i64_in _ (by omega)
        have W2 : (0 : Int) ≤ gI q 1 + 256 * gI q 2 + gI q 3 := by omega
        have W3 : (gI q 1 + 256 * gI q 2 + gI q 3 : Int) ≤ (cap : Int) := by omega
        have W4 : (gI q 1 + 256 * gI q 2 + gI q 3).toNat = (gI q 1 + 256 * gI q 2).toNat + (gI q 3).toNat := by omega
        have W5 : (0 : Int) ≤ gI q 1 + 256 * gI q 2 := by omega
        have W6 : ¬ cap = (gI q 1 + 256 * gI q 2).toNat := by omega
        have W7 : gI q 1 + 256 * gI q 2 ≤ max (gI q 1 + 256 * gI q 2 + gI q 3) 0 := by omega
        have W8 : (4 : Int) ≤ (q.length : Int) := by omega
        have W9 : gI q 1 + 256 * gI q 2 ≤ max (gI q 1 + 256 * gI q 2) 0 + max (gI q 3) 0 := by omega
        go_region_law (refine stp_append rowByte rfl (.tmp 84) (.tmp 90) rfl (v := .slice B out.length bc) (by simp [Act.eval, Act.put]) (by first | exact (HO.out.drewN _).drew | exact HO.out.drewN _) (A := some ⟨gb, ob + (gI q 1 + 256 * gI q 2).toNat, none⟩) (gI q 3).toNat (cap - (gI q 1 + 256 * gI q 2).toNat) (by simp [Act.eval, Act.put]) (ys := (base.drop (gI q 1 + 256 * gI q 2).toNat).take (gI q 3).toNat) (S := S) (by simp; omega) ((Hrd.out.ext (by decide) (by first | exact (HX.out.drewN _).drew | exact HX.out.drewN _)).sub8 _ _ (by omega)) (fun x hx => Hok.out x (List.mem_of_mem_drop (List.mem_of_mem_take hx))) (by simp; omega) HX.out.size ?_; intro v1 w1 ho1 hg1 hat1; have HO1 := Lib.hid ho1; have HX1 : Hid (Ext w w1) := by first | exact Lib.hid ((HO.out.drewN _).drew.ext_app (HX.out.drewN _).drew hg1) | exact Lib.hid ((HO.out.drewN _).ext_app (HX.out.drewN _) hg1); obtain ⟨B1, bn1, bc1, rfl⟩ := ho1.shape3; clear ho1 hg1 hat1)
        all_goals
          simp only [Act.put, List.setIfInBounds_toArray, List.set_cons_zero, List.set_cons_succ, List.getElem_cons_zero, List.getElem_cons_succ, List.getElem_toArray]
          go_wp2_with fail
          go_roundw
          case rel => exact ⟨q.drop 4, _, _, _, by simp; omega, by rw [List.length_drop], by simp; omega, HF.out.trans HG.out, by simp; omega, HBq.out.drop _, HCut.out, HO1.out, HX1.out⟩
          case measure => simp [lenV]; omega
      · have hbad := HB2.out (fun a => h1 a.1)
        have HE := Lib.hid hbad
        have hne0 : (gI q 0 == 0) = false := by simpa using h0
        have hne1 : (gI q 0 == 1) = false := by simpa using h1
        clear hbad
        go_wp2_with fail
        go_ret2
        rw [HF.out, HE.out]
        exact ⟨_, rfl, Own.nil _ _ _ _, HX.out⟩

end Go.Proofs.Ytepmhononinbkaa
