/- What the walk of the law FnDeltas needs, part 3 of 3. No condition. -/
import Derived.Test.YteegnbdgfedajaaPFnDeltas2
/- The walk of the law FnDeltas. No condition. -/
namespace Go.Proofs.Yteegnbdgfedajaa
open Go.RowKit
set_option linter.unusedVariables false
set_option linter.unusedSimpArgs false

set_option maxHeartbeats 4000000 in
set_option maxRecDepth 100000 in
theorem FnDeltas_any (w : World) (v0 : Value) (x0 : List Int) (S0 : Nat → Prop) (h0 : RdL tByte w S0 v0 x0) (v1 : Value) (x1 : List Int) (S1 : Nat → Prop) (h1 : RdL tByte w S1 v1 x1) :
    Calls Try.prog 5 #[v0, v1] w fun e w' => e = .returned (.bool true) ∧ Ext w w' := by
  obtain ⟨A0, cap0, rfl, _⟩ := id h0
  obtain ⟨A1, cap1, rfl, _⟩ := id h1
  have H0 := Lib.hid h0
  have H1 := Lib.hid h1
  clear h0 h1
  by_cases hb0 : 4096 < x0.length
  · go_enter Try.func5, Try.ntmps5
    go_wp2_with fail
    refine (f6yes _ _ _ _ hb0).mono ?_
    rintro e w1 ⟨rfl, rfl⟩
    go_wp2
    go_ret
    exact ⟨rfl, Ext.refl _⟩
  by_cases hb1 : 4096 < x1.length
  · go_enter Try.func5, Try.ntmps5
    go_wp2_with fail
    refine (f6no _ _ _ _ hb0).mono ?_
    rintro e w1 ⟨rfl, rfl⟩
    go_wp2_with fail
    refine (f6yes _ _ _ _ hb1).mono ?_
    rintro e w1 ⟨rfl, rfl⟩
    go_wp2
    go_ret
    exact ⟨rfl, Ext.refl _⟩
  go_enter Try.func5, Try.ntmps5
  go_wp2_with fail
  refine (f6no _ _ _ _ hb0).mono ?_
  rintro e w1 ⟨rfl, rfl⟩
  go_wp2_with fail
  refine (f6no _ _ _ _ hb1).mono ?_
  rintro e w1 ⟨rfl, rfl⟩
  clear hb0 hb1
  go_wp2_with fail
  refine (p6Bytes_any _ x0 _ _ (H0.out.ext (by decide) (Ext.refl _))).mono ?_
  rintro e w1 ⟨vB, B, rfl, ho, hBl, hx⟩
  skip
  have XW := Lib.hid hx
  obtain ⟨AB, cB, rfl⟩ := ho.shape
  have OB := Lib.hid ho.rd
  clear ho
  clear hx
  go_wp2_with fail
  refine (p6Bytes_any _ x1 _ _ (H1.out.ext (by decide) XW.out)).mono ?_
  rintro e w2 ⟨vD, D, rfl, ho, hDl, hx⟩
  skip
  replace OB := Lib.hid (OB.out.ext (by decide) hx)
  replace XW := Lib.hid (XW.out.trans hx)
  obtain ⟨AD, cD, rfl⟩ := ho.shape
  have OD := Lib.hid ho.rd
  clear ho
  clear hx
  have HDEL := Lib.hid (delta_ok (B := B) (D := D) (by omega) (by omega)).1
  have HMADE := Lib.hid (made_ok (B := B) (D := D) (by omega) (by omega))
  have HOWN := Lib.hid (delta_ok (B := D) (D := D) (by omega) (by omega)).1
  obtain ⟨Z, hZ⟩ : ∃ Z, dltL B D = Z := ⟨_, rfl⟩
  obtain ⟨Y, hY⟩ : ∃ Y, dltL D D = Y := ⟨_, rfl⟩
  have hYl : 8 ≤ D.length → Y.length = 4 := fun h => by rw [← hY]; exact own_len h (by omega)
  rw [hZ] at HDEL HMADE
  rw [hY] at HOWN
  clear hZ hY
  go_wp2_with fail
  refine (implDeltaOf_any _ _ B D _ _ _ OB.out OD.out).mono ?_
  rintro e w3 ⟨vP, he, ho, hx⟩
  skip
  rw [HDEL.out] at he ho
  subst he
  dsimp only at ho
  replace OB := Lib.hid (OB.out.ext (by decide) hx)
  replace OD := Lib.hid (OD.out.ext (by decide) hx)
  replace XW := Lib.hid (XW.out.trans hx)
  obtain ⟨AP, cP, rfl⟩ := ho.shape
  have OP := Lib.hid ho.rd
  clear ho
  clear hx
  go_wp2_with fail
  refine (specDeltaOf_any _ _ B D _ _ _ OB.out OD.out).mono ?_
  rintro e w4 ⟨vQ, he, ho, hx⟩
  skip
  rw [HDEL.out] at he ho
  subst he
  dsimp only at ho
  replace OB := Lib.hid (OB.out.ext (by decide) hx)
  replace OD := Lib.hid (OD.out.ext (by decide) hx)
  replace OP := Lib.hid (OP.out.ext (by decide) hx)
  replace XW := Lib.hid (XW.out.trans hx)
  obtain ⟨AQ, cQ, rfl⟩ := ho.shape
  have OQ := Lib.hid ho.rd
  clear ho
  clear hx
  go_wp2_with fail
  refine (implApplyDelta_any _ _ B Z _ _ _ OB.out OQ.out).mono ?_
  rintro e w5 ⟨vM, he, ho, hx⟩
  skip
  rw [HMADE.out] at he ho
  subst he
  dsimp only at ho
  replace OB := Lib.hid (OB.out.ext (by decide) hx)
  replace OD := Lib.hid (OD.out.ext (by decide) hx)
  replace OP := Lib.hid (OP.out.ext (by decide) hx)
  replace OQ := Lib.hid (OQ.out.ext (by decide) hx)
  replace XW := Lib.hid (XW.out.trans hx)
  obtain ⟨AM, cM, rfl⟩ := ho.shape
  have OM := Lib.hid ho.rd
  clear ho
  clear hx
  go_wp2_with fail
  refine (implDeltaOf_any _ _ D D _ _ _ OD.out OD.out).mono ?_
  rintro e w6 ⟨vN, he, ho, hx⟩
  skip
  rw [HOWN.out] at he ho
  subst he
  dsimp only at ho
  replace OB := Lib.hid (OB.out.ext (by decide) hx)
  replace OD := Lib.hid (OD.out.ext (by decide) hx)
  replace OP := Lib.hid (OP.out.ext (by decide) hx)
  replace OQ := Lib.hid (OQ.out.ext (by decide) hx)
  replace OM := Lib.hid (OM.out.ext (by decide) hx)
  replace XW := Lib.hid (XW.out.trans hx)
  obtain ⟨AN, cN, rfl⟩ := ho.shape
  have ON := Lib.hid ho.rd
  clear ho
  clear hx
  have HYL := Lib.hid hYl
  clear hYl
  by_cases h8 : D.length < 8
  · have h8d : decide ((D.length : Int) < 8) = true := by rw [decide_eq_true_iff]; omega
    clear HYL h8
    go_wp2_with fail
    refine (sameData_any _ _ Z Z _ _ _ OP.out OQ.out).mono ?_
    rintro e w7 ⟨he, hx⟩
    skip
    rw [beq_self_eq_true Z] at he
    subst he
    replace OB := Lib.hid (OB.out.ext (by decide) hx)
    replace OD := Lib.hid (OD.out.ext (by decide) hx)
    replace OP := Lib.hid (OP.out.ext (by decide) hx)
    replace OQ := Lib.hid (OQ.out.ext (by decide) hx)
    replace OM := Lib.hid (OM.out.ext (by decide) hx)
    replace ON := Lib.hid (ON.out.ext (by decide) hx)
    replace XW := Lib.hid (XW.out.trans hx)
    clear hx
    go_wp2_with fail
    refine (sameData_any _ _ D D _ _ _ OM.out OD.out).mono ?_
    rintro e w8 ⟨he, hx⟩
    skip
    rw [beq_self_eq_true D] at he
    subst he
    replace OB := Lib.hid (OB.out.ext (by decide) hx)
    replace OD := Lib.hid (OD.out.ext (by decide) hx)
    replace OP := Lib.hid (OP.out.ext (by decide) hx)
    replace OQ := Lib.hid (OQ.out.ext (by decide) hx)
    replace OM := Lib.hid (OM.out.ext (by decide) hx)
    replace ON := Lib.hid (ON.out.ext (by decide) hx)
    replace XW := Lib.hid (XW.out.trans hx)
    clear hx
    go_wp2_with fail
    go_ret
    exact ⟨rfl, XW.out⟩
  · have h8d : decide ((D.length : Int) < 8) = false := by rw [decide_eq_false_iff_not]; omega
    have hyl := HYL.out (by omega)
    have hyl2 : (Y.length : Int) = 4 := by omega
    have hq1 : ((D.length : Int) + 254) / 255 = 1 := by omega
    have hqd : Int.tdiv ((D.length : Int) + 254) 255 = 1 := by rw [Int.tdiv_eq_ediv_of_nonneg (by omega)]; exact hq1
    clear HYL h8 hyl
    go_wp2_with fail
    refine (sameData_any _ _ Z Z _ _ _ OP.out OQ.out).mono ?_
    rintro e w7 ⟨he, hx⟩
    skip
    rw [beq_self_eq_true Z] at he
    subst he
    replace OB := Lib.hid (OB.out.ext (by decide) hx)
    replace OD := Lib.hid (OD.out.ext (by decide) hx)
    replace OP := Lib.hid (OP.out.ext (by decide) hx)
    replace OQ := Lib.hid (OQ.out.ext (by decide) hx)
    replace OM := Lib.hid (OM.out.ext (by decide) hx)
    replace ON := Lib.hid (ON.out.ext (by decide) hx)
    replace XW := Lib.hid (XW.out.trans hx)
    clear hx
    go_wp2_with fail
    refine (sameData_any _ _ D D _ _ _ OM.out OD.out).mono ?_
    rintro e w8 ⟨he, hx⟩
    skip
    rw [beq_self_eq_true D] at he
    subst he
    replace OB := Lib.hid (OB.out.ext (by decide) hx)
    replace OD := Lib.hid (OD.out.ext (by decide) hx)
    replace OP := Lib.hid (OP.out.ext (by decide) hx)
    replace OQ := Lib.hid (OQ.out.ext (by decide) hx)
    replace OM := Lib.hid (OM.out.ext (by decide) hx)
    replace ON := Lib.hid (ON.out.ext (by decide) hx)
    replace XW := Lib.hid (XW.out.trans hx)
    clear hx
    go_wp2_with fail
    go_ret
    exact ⟨rfl, XW.out⟩
end Go.Proofs.Yteegnbdgfedajaa
