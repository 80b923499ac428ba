/- The walk of the law FnExactApplyDelta. No condition. -/
import Derived.Test.YtepmhononinbkaaApplyD
namespace Go.Proofs.Ytepmhononinbkaa
open Go.RowKit
set_option linter.unusedVariables false
set_option linter.unusedSimpArgs false

set_option maxHeartbeats 1000000 in
set_option maxRecDepth 100000 in
theorem FnExactApplyDelta_any (w : World) (v0 : Value) (xs0 : List Int) (S0 : Nat → Prop) (h0 : RdL tByte w S0 v0 xs0) (v1 : Value) (xs1 : List Int) (S1 : Nat → Prop) (h1 : RdL tByte w S1 v1 xs1) :
    Calls Try.prog 7 #[v0, v1] w fun e w' => e = .returned (.bool true) ∧ Ext w w' := by
  obtain ⟨A0, cap0, rfl, _, hlen0, _⟩ := id h0
  have H0 := Lib.hid h0
  clear h0
  obtain ⟨A1, cap1, rfl, _, hlen1, _⟩ := id h1
  have H1 := Lib.hid h1
  clear h1
  by_cases hl0 : (1048576 : Int) < (xs0.length : Int)
  · go_enter Try.func7, Try.ntmps7
    go_wp2_with fail
    go_ret
    exact ⟨rfl, Ext.refl _⟩
  by_cases hl1 : (1048576 : Int) < (xs1.length : Int)
  · go_enter Try.func7, Try.ntmps7
    go_wp2_with fail
    go_ret
    exact ⟨rfl, Ext.refl _⟩
  have hm0 : xs0.length ≤ 1048576 := by omega
  have hm1 : xs1.length ≤ 1048576 := by omega
  obtain ⟨R, c, hR⟩ : ∃ R c, applyR xs0 xs1 = (R, c) := ⟨_, _, rfl⟩
  have HR1 := Lib.hid (congrArg Prod.fst hR)
  have HR2 := Lib.hid (congrArg Prod.snd hR)
  clear hR
  have hq : (c != c) = false := by simp
  go_enter Try.func7, Try.ntmps7
  go_wp2_with fail
  refine (toByteS_any _ xs0 _ _ (H0.out.ext (by decide) (Ext.refl _))).mono ?_
  rintro e w1 ⟨vs0, rfl, ho, hx⟩
  obtain ⟨As0, cs0, rfl⟩ := ho.shape
  have XW := Lib.hid (hx)
  have RW := Ext.refl w1
  have RA := fun o => ext_alloc w1 o
  clear hx
  have Os0 := Lib.hid ho
  clear ho
  go_wp2_with fail
  refine (toByteS_any _ xs1 _ _ (H1.out.ext (by decide) XW.out)).mono ?_
  rintro e w2 ⟨vs1, rfl, ho, hx⟩
  obtain ⟨As1, cs1, rfl⟩ := ho.shape
  have NOs0_Os1 := Lib.hid (Os0.out.apart ho (Nat.le_refl _))
  have NOs1_Os0 := Lib.hid (Os0.out.apart' ho (Nat.le_refl _))
  replace ho := ho.le XW.out.size
  replace Os0 := Lib.hid (Os0.out.ext hx)
  replace XW := Lib.hid (XW.out.trans hx)
  clear RW RA
  have RW := Ext.refl w2
  have RA := fun o => ext_alloc w2 o
  clear hx
  have Os1 := Lib.hid ho
  clear ho
  go_wp2_with fail
  refine (specApplyDelta_any _ _ xs0 xs1 _ _ _ Os0.out.rd Os1.out.rd).mono ?_
  rintro e w3 ⟨vW, he, ho, hx⟩
  rw [HR2.out] at he
  subst he
  rw [HR1.out] at ho
  obtain ⟨AW, cW, rfl⟩ := ho.shape
  have NOs0_OW := Lib.hid (Os0.out.apart ho (Nat.le_refl _))
  have NOW_Os0 := Lib.hid (Os0.out.apart' ho (Nat.le_refl _))
  have NOs1_OW := Lib.hid (Os1.out.apart ho (Nat.le_refl _))
  have NOW_Os1 := Lib.hid (Os1.out.apart' ho (Nat.le_refl _))
  replace ho := ho.le XW.out.size
  replace Os0 := Lib.hid (Os0.out.ext hx)
  replace Os1 := Lib.hid (Os1.out.ext hx)
  replace XW := Lib.hid (XW.out.trans hx)
  clear RW RA
  have RW := Ext.refl w3
  have RA := fun o => ext_alloc w3 o
  clear hx
  have OW := Lib.hid ho
  clear ho
  clear Os0
  clear Os1
  go_wp2_with fail
  refine (toByteS_any _ xs0 _ _ (H0.out.ext (by decide) XW.out)).mono ?_
  rintro e w4 ⟨vx0, rfl, ho, hx⟩
  obtain ⟨Ax0, cx0, rfl⟩ := ho.shape
  have NOW_Ox0 := Lib.hid (OW.out.apart ho (Nat.le_refl _))
  have NOx0_OW := Lib.hid (OW.out.apart' ho (Nat.le_refl _))
  replace ho := ho.le XW.out.size
  replace OW := Lib.hid (OW.out.ext hx)
  replace XW := Lib.hid (XW.out.trans hx)
  clear RW RA
  have RW := Ext.refl w4
  have RA := fun o => ext_alloc w4 o
  clear hx
  have Ox0 := Lib.hid ho
  clear ho
  go_wp2_with fail
  refine (toByteS_any _ xs1 _ _ (H1.out.ext (by decide) XW.out)).mono ?_
  rintro e w5 ⟨vx1, rfl, ho, hx⟩
  obtain ⟨Ax1, cx1, rfl⟩ := ho.shape
  have NOW_Ox1 := Lib.hid (OW.out.apart ho (Nat.le_refl _))
  have NOx1_OW := Lib.hid (OW.out.apart' ho (Nat.le_refl _))
  have NOx0_Ox1 := Lib.hid (Ox0.out.apart ho (Nat.le_refl _))
  have NOx1_Ox0 := Lib.hid (Ox0.out.apart' ho (Nat.le_refl _))
  replace ho := ho.le XW.out.size
  replace OW := Lib.hid (OW.out.ext hx)
  replace Ox0 := Lib.hid (Ox0.out.ext hx)
  replace XW := Lib.hid (XW.out.trans hx)
  clear RW RA
  have RW := Ext.refl w5
  have RA := fun o => ext_alloc w5 o
  clear hx
  have Ox1 := Lib.hid ho
  clear ho
  go_wp2_with fail
  refine (implApplyDelta_any _ _ xs0 xs1 _ _ _ Ox0.out.rd Ox1.out.rd).mono ?_
  rintro e w6 ⟨vG, he, ho, hx⟩
  rw [HR2.out] at he
  subst he
  rw [HR1.out] at ho
  obtain ⟨AG, cG, rfl⟩ := ho.shape
  have NOW_OG := Lib.hid (OW.out.apart ho (Nat.le_refl _))
  have NOG_OW := Lib.hid (OW.out.apart' ho (Nat.le_refl _))
  have NOx0_OG := Lib.hid (Ox0.out.apart ho (Nat.le_refl _))
  have NOG_Ox0 := Lib.hid (Ox0.out.apart' ho (Nat.le_refl _))
  have NOx1_OG := Lib.hid (Ox1.out.apart ho (Nat.le_refl _))
  have NOG_Ox1 := Lib.hid (Ox1.out.apart' ho (Nat.le_refl _))
  replace ho := ho.le XW.out.size
  replace OW := Lib.hid (OW.out.ext hx)
  replace Ox0 := Lib.hid (Ox0.out.ext hx)
  replace Ox1 := Lib.hid (Ox1.out.ext hx)
  replace XW := Lib.hid (XW.out.trans hx)
  clear RW RA
  have RW := Ext.refl w6
  have RA := fun o => ext_alloc w6 o
  clear hx
  have OG := Lib.hid ho
  clear ho
  go_wp2_with fail
  refine (eqByteS_any _ _ R R _ _ _ OG.out.rd OW.out.rd).mono ?_
  rintro e w7 ⟨rfl, hD⟩
  rw [beq_self_eq_true]
  have hx := hD.ext
  replace OW := Lib.hid (OW.out.ext hx)
  replace Ox0 := Lib.hid (Ox0.out.ext hx)
  replace Ox1 := Lib.hid (Ox1.out.ext hx)
  replace OG := Lib.hid (OG.out.ext hx)
  replace XW := Lib.hid (XW.out.trans hx)
  clear RW RA
  have RW := Ext.refl w7
  have RA := fun o => ext_alloc w7 o
  clear hx hD
  go_wp2_with fail
  refine (toByteS_any _ xs0 _ _ (H0.out.ext (by decide) XW.out)).mono ?_
  rintro e w8 ⟨vy0, rfl, ho, hx⟩
  obtain ⟨Ay0, cy0, rfl⟩ := ho.shape
  have NOW_Oy0 := Lib.hid (OW.out.apart ho (Nat.le_refl _))
  have NOy0_OW := Lib.hid (OW.out.apart' ho (Nat.le_refl _))
  have NOx0_Oy0 := Lib.hid (Ox0.out.apart ho (Nat.le_refl _))
  have NOy0_Ox0 := Lib.hid (Ox0.out.apart' ho (Nat.le_refl _))
  have NOx1_Oy0 := Lib.hid (Ox1.out.apart ho (Nat.le_refl _))
  have NOy0_Ox1 := Lib.hid (Ox1.out.apart' ho (Nat.le_refl _))
  have NOG_Oy0 := Lib.hid (OG.out.apart ho (Nat.le_refl _))
  have NOy0_OG := Lib.hid (OG.out.apart' ho (Nat.le_refl _))
  replace ho := ho.le XW.out.size
  replace OW := Lib.hid (OW.out.ext hx)
  replace Ox0 := Lib.hid (Ox0.out.ext hx)
  replace Ox1 := Lib.hid (Ox1.out.ext hx)
  replace OG := Lib.hid (OG.out.ext hx)
  replace XW := Lib.hid (XW.out.trans hx)
  clear RW RA
  have RW := Ext.refl w8
  have RA := fun o => ext_alloc w8 o
  clear hx
  have Oy0 := Lib.hid ho
  clear ho
  go_wp2_with fail
  refine (eqByteS_any _ _ xs0 xs0 _ _ _ Ox0.out.rd Oy0.out.rd).mono ?_
  rintro e w9 ⟨rfl, hD⟩
  rw [beq_self_eq_true]
  have hx := hD.ext
  replace OW := Lib.hid (OW.out.ext hx)
  replace Ox0 := Lib.hid (Ox0.out.ext hx)
  replace Ox1 := Lib.hid (Ox1.out.ext hx)
  replace OG := Lib.hid (OG.out.ext hx)
  replace Oy0 := Lib.hid (Oy0.out.ext hx)
  replace XW := Lib.hid (XW.out.trans hx)
  clear RW RA
  have RW := Ext.refl w9
  have RA := fun o => ext_alloc w9 o
  clear hx hD
  clear Oy0
  go_wp2_with fail
  refine (toByteS_any _ xs1 _ _ (H1.out.ext (by decide) XW.out)).mono ?_
  rintro e w10 ⟨vy1, rfl, ho, hx⟩
  obtain ⟨Ay1, cy1, rfl⟩ := ho.shape
  have NOW_Oy1 := Lib.hid (OW.out.apart ho (Nat.le_refl _))
  have NOy1_OW := Lib.hid (OW.out.apart' ho (Nat.le_refl _))
  have NOx0_Oy1 := Lib.hid (Ox0.out.apart ho (Nat.le_refl _))
  have NOy1_Ox0 := Lib.hid (Ox0.out.apart' ho (Nat.le_refl _))
  have NOx1_Oy1 := Lib.hid (Ox1.out.apart ho (Nat.le_refl _))
  have NOy1_Ox1 := Lib.hid (Ox1.out.apart' ho (Nat.le_refl _))
  have NOG_Oy1 := Lib.hid (OG.out.apart ho (Nat.le_refl _))
  have NOy1_OG := Lib.hid (OG.out.apart' ho (Nat.le_refl _))
  replace ho := ho.le XW.out.size
  replace OW := Lib.hid (OW.out.ext hx)
  replace Ox0 := Lib.hid (Ox0.out.ext hx)
  replace Ox1 := Lib.hid (Ox1.out.ext hx)
  replace OG := Lib.hid (OG.out.ext hx)
  replace XW := Lib.hid (XW.out.trans hx)
  clear RW RA
  have RW := Ext.refl w10
  have RA := fun o => ext_alloc w10 o
  clear hx
  have Oy1 := Lib.hid ho
  clear ho
  go_wp2_with fail
  refine (eqByteS_any _ _ xs1 xs1 _ _ _ Ox1.out.rd Oy1.out.rd).mono ?_
  rintro e w11 ⟨rfl, hD⟩
  rw [beq_self_eq_true]
  have hx := hD.ext
  replace OW := Lib.hid (OW.out.ext hx)
  replace Ox0 := Lib.hid (Ox0.out.ext hx)
  replace Ox1 := Lib.hid (Ox1.out.ext hx)
  replace OG := Lib.hid (OG.out.ext hx)
  replace Oy1 := Lib.hid (Oy1.out.ext hx)
  replace XW := Lib.hid (XW.out.trans hx)
  clear RW RA
  have RW := Ext.refl w11
  have RA := fun o => ext_alloc w11 o
  clear hx hD
  clear Oy1
  go_wp2_with fail
  refine (markByteS_any _ _ 1 _ _ Ox0.out.wr (by omega) (by omega)).mono ?_
  rintro e w12 ⟨rfl, hr, hg⟩
  replace XW := Lib.hid (XW.out.grown hg (fun k hk => (Ox0.out.base_le k hk).1))
  replace OW := Lib.hid (OW.out.kept hg NOW_Ox0.out)
  replace Ox1 := Lib.hid (Ox1.out.kept hg NOx1_Ox0.out)
  replace OG := Lib.hid (OG.out.kept hg NOG_Ox0.out)
  clear Ox0 hg RW RA
  have RW := Ext.refl w12
  have RA := fun o => ext_alloc w12 o
  clear hr
  go_wp2_with fail
  refine (markByteS_any _ _ _ _ _ Ox1.out.wr (by omega) (by omega)).mono ?_
  rintro e w13 ⟨rfl, hr, hg⟩
  replace XW := Lib.hid (XW.out.grown hg (fun k hk => (Ox1.out.base_le k hk).1))
  replace OW := Lib.hid (OW.out.kept hg NOW_Ox1.out)
  replace OG := Lib.hid (OG.out.kept hg NOG_Ox1.out)
  clear Ox1 hg RW RA hr
  have RW := Ext.refl w13
  have RA := fun o => ext_alloc w13 o
  go_wp2_with fail
  refine (eqByteS_any _ _ R R _ _ _ OG.out.rd OW.out.rd).mono ?_
  rintro e w14 ⟨rfl, hD⟩
  rw [beq_self_eq_true]
  have hx := hD.ext
  replace OW := Lib.hid (OW.out.ext hx)
  replace OG := Lib.hid (OG.out.ext hx)
  replace XW := Lib.hid (XW.out.trans hx)
  clear RW RA
  have RW := Ext.refl w14
  have RA := fun o => ext_alloc w14 o
  clear hx hD
  have hRl := OG.out.2.1
  go_wp2_with fail
  refine (markByteS_any _ _ 1 _ _ OG.out.wr (by omega) (by omega)).mono ?_
  rintro e w15 ⟨rfl, hr, hg⟩
  replace XW := Lib.hid (XW.out.grown hg (fun k hk => (OG.out.base_le k hk).1))
  replace OW := Lib.hid (OW.out.kept hg NOW_OG.out)
  clear OG hg RW RA
  have RW := Ext.refl w15
  have RA := fun o => ext_alloc w15 o
  have M := Lib.hid hr
  clear hr
  go_wp2_with fail
  refine (heldByteS_any _ _ 1 _ _ M.out (by omega) (by omega)).mono ?_
  rintro e w16 ⟨rfl, hD⟩
  replace M := Lib.hid (M.out.ext (by decide) hD.ext)
  have hx := hD.ext
  replace OW := Lib.hid (OW.out.ext hx)
  replace XW := Lib.hid (XW.out.trans hx)
  clear RW RA
  have RW := Ext.refl w16
  have RA := fun o => ext_alloc w16 o
  clear hx hD
  have hqm : ((1 + (R.length : Int)) != 1 + (R.length : Int)) = false := by simp
  go_wp2_with fail
  refine (toByteS_any _ xs0 _ _ (H0.out.ext (by decide) XW.out)).mono ?_
  rintro e w17 ⟨vz0, rfl, ho, hx⟩
  obtain ⟨Az0, cz0, rfl⟩ := ho.shape
  replace M := Lib.hid (M.out.ext (by decide) hx)
  replace OW := Lib.hid (OW.out.ext hx)
  replace XW := Lib.hid (XW.out.trans hx)
  clear RW RA
  have RW := Ext.refl w17
  have RA := fun o => ext_alloc w17 o
  clear hx
  have Oz0 := Lib.hid ho
  clear ho
  go_wp2_with fail
  refine (toByteS_any _ xs1 _ _ (H1.out.ext (by decide) XW.out)).mono ?_
  rintro e w18 ⟨vz1, rfl, ho, hx⟩
  obtain ⟨Az1, cz1, rfl⟩ := ho.shape
  replace M := Lib.hid (M.out.ext (by decide) hx)
  replace OW := Lib.hid (OW.out.ext hx)
  replace Oz0 := Lib.hid (Oz0.out.ext hx)
  replace XW := Lib.hid (XW.out.trans hx)
  clear RW RA
  have RW := Ext.refl w18
  have RA := fun o => ext_alloc w18 o
  clear hx
  have Oz1 := Lib.hid ho
  clear ho
  go_wp2_with fail
  refine (implApplyDelta_any _ _ xs0 xs1 _ _ _ Oz0.out.rd Oz1.out.rd).mono ?_
  rintro e w19 ⟨vH, he, ho, hx⟩
  rw [HR2.out] at he
  subst he
  rw [HR1.out] at ho
  obtain ⟨AH, cH, rfl⟩ := ho.shape
  replace M := Lib.hid (M.out.ext (by decide) hx)
  replace OW := Lib.hid (OW.out.ext hx)
  replace Oz0 := Lib.hid (Oz0.out.ext hx)
  replace Oz1 := Lib.hid (Oz1.out.ext hx)
  replace XW := Lib.hid (XW.out.trans hx)
  clear RW RA
  have RW := Ext.refl w19
  have RA := fun o => ext_alloc w19 o
  clear hx
  have OH := Lib.hid ho
  clear ho
  go_wp2_with fail
  refine (eqByteS_any _ _ R R _ _ _ OH.out.rd OW.out.rd).mono ?_
  rintro e w20 ⟨rfl, hD⟩
  rw [beq_self_eq_true]
  replace M := Lib.hid (M.out.ext (by decide) hD.ext)
  have hx := hD.ext
  replace OW := Lib.hid (OW.out.ext hx)
  replace Oz0 := Lib.hid (Oz0.out.ext hx)
  replace Oz1 := Lib.hid (Oz1.out.ext hx)
  replace OH := Lib.hid (OH.out.ext hx)
  replace XW := Lib.hid (XW.out.trans hx)
  clear RW RA
  have RW := Ext.refl w20
  have RA := fun o => ext_alloc w20 o
  clear hx hD
  go_wp2_with fail
  refine (heldByteS_any _ _ 1 _ _ M.out (by omega) (by omega)).mono ?_
  rintro e w21 ⟨rfl, hD⟩
  replace M := Lib.hid (M.out.ext (by decide) hD.ext)
  have hx := hD.ext
  replace OW := Lib.hid (OW.out.ext hx)
  replace Oz0 := Lib.hid (Oz0.out.ext hx)
  replace Oz1 := Lib.hid (Oz1.out.ext hx)
  replace OH := Lib.hid (OH.out.ext hx)
  replace XW := Lib.hid (XW.out.trans hx)
  clear RW RA
  have RW := Ext.refl w21
  have RA := fun o => ext_alloc w21 o
  clear hx hD
  go_wp2_with fail
  go_ret
  exact ⟨rfl, XW.out⟩
end Go.Proofs.Ytepmhononinbkaa
