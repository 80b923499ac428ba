/- The walk of the law FnExactDepthOfName. No condition. -/
import Derived.Test.YtikpakhccmdmcaaDepthN
namespace Go.Proofs.Ytikpakhccmdmcaa
open Go.RowKit
set_option linter.unusedVariables false
set_option linter.unusedSimpArgs false

set_option maxHeartbeats 1000000 in
set_option maxRecDepth 100000 in
theorem FnExactDepthOfName_any (w : World) (v0 : Value) (x0 : List En) (S0 : Nat → Prop) (h0 : RdL tEnt w S0 v0 x0) (s1 : ByteArray) (hs1 : s1.size ≤ 140737488351232) :
    Calls Try.prog 3 #[v0, .string s1] w fun e w' => e = .returned (.bool true) ∧ Ext w w' := by
  obtain ⟨A0, cap0, rfl, _, hlen0, _⟩ := id h0
  have H0 := Lib.hid h0
  clear h0
  by_cases hl1 : (1048576 : Int) < (s1.size : Int)
  · go_enter Try.func3, Try.ntmps3
    go_wp2_with fail
    go_ret
    exact ⟨rfl, (Ext.refl _)⟩
  have hm1 : s1.size ≤ 1048576 := by omega
  by_cases hz0 : (1048576 - (entsN x0 : Nat) : Int) < 0
  · go_enter Try.func3, Try.ntmps3
    go_wp2_with fail
    refine (szEntryS_u _ x0 (1048576) _ _ (H0.out.ext (by decide) (Ext.refl _)) (by omega) (by omega)).mono ?_
    rintro e w1 ⟨rfl, hx⟩
    rw [if_pos (by omega)]
    have XW := Lib.hid hx
    clear hx
    go_wp2_with fail
    go_ret
    exact ⟨rfl, XW.out⟩
  have hln0 : x0.length ≤ 1048576 := by have := entsN_eq x0; omega
  obtain ⟨R, c, hR⟩ : ∃ R c, depR x0 s1 = (R, c) := ⟨_, _, rfl⟩
  have HR := Lib.hid hR
  clear hR
  have hq : (c != c) = false := by simp
  have hq2 : (R != R) = false := by simp
  go_enter Try.func3, Try.ntmps3
  go_wp2_with fail
  refine (szEntryS_u _ x0 (1048576) _ _ (H0.out.ext (by decide) (Ext.refl _)) (by omega) (by omega)).mono ?_
  rintro e w1 ⟨rfl, hx⟩
  rw [if_neg (by omega)]
  have XW := Lib.hid hx
  clear hx
  go_wp2_with fail
  refine (toEntryS_u _ x0 _ _ (H0.out.ext (by decide) XW.out) hln0).mono ?_
  rintro e w2 ⟨vs0, rfl, ho, hx⟩
  replace XW := Lib.hid (XW.out.trans hx)
  obtain ⟨As0, cs0, rfl⟩ := ho.shape
  have Os0 := Lib.hid ho.rd
  clear ho
  clear hx
  go_wp2_with fail
  refine (specDepth_any _ x0 s1 hs1 _ _ Os0.out).mono ?_
  rintro e w3 ⟨he, hx⟩
  rw [HR.out] at he
  subst he
  replace Os0 := Lib.hid (Os0.out.ext (by decide) hx)
  replace XW := Lib.hid (XW.out.trans hx)
  clear hx
  clear Os0
  go_wp2_with fail
  refine (toEntryS_u _ x0 _ _ (H0.out.ext (by decide) XW.out) hln0).mono ?_
  rintro e w4 ⟨vx0, rfl, ho, hx⟩
  replace XW := Lib.hid (XW.out.trans hx)
  obtain ⟨Ax0, cx0, rfl⟩ := ho.shape
  have Ox0 := Lib.hid ho.rd
  clear ho
  clear hx
  go_wp2_with fail
  refine (implDepth_any _ x0 s1 hs1 _ _ Ox0.out).mono ?_
  rintro e w5 ⟨he, hx⟩
  rw [HR.out] at he
  subst he
  replace Ox0 := Lib.hid (Ox0.out.ext (by decide) hx)
  replace XW := Lib.hid (XW.out.trans hx)
  clear hx
  go_wp2_with fail
  refine (toEntryS_u _ x0 _ _ (H0.out.ext (by decide) XW.out) hln0).mono ?_
  rintro e w6 ⟨vy0, rfl, ho, hx⟩
  replace Ox0 := Lib.hid (Ox0.out.ext (by decide) hx)
  replace XW := Lib.hid (XW.out.trans hx)
  obtain ⟨Ay0, cy0, rfl⟩ := ho.shape
  have Oy0 := Lib.hid ho.rd
  clear ho
  clear hx
  go_wp2_with fail
  refine (eqEntryS_u _ _ x0 _ _ _ Ox0.out Oy0.out).mono ?_
  rintro e w7 ⟨rfl, hx⟩
  replace Ox0 := Lib.hid (Ox0.out.ext (by decide) hx)
  replace Oy0 := Lib.hid (Oy0.out.ext (by decide) hx)
  replace XW := Lib.hid (XW.out.trans hx)
  clear hx
  clear Oy0
  go_wp2_with fail
  go_ret
  exact ⟨rfl, XW.out⟩
end Go.Proofs.Ytikpakhccmdmcaa
