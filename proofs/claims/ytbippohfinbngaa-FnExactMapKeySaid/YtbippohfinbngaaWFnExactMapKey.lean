/- The walk of the law FnExactMapKey. No condition. -/
import Derived.Test.YtbippohfinbngaaTreeM
namespace Go.Proofs.Ytbippohfinbngaa
open Go.RowKit
set_option linter.unusedVariables false
set_option linter.unusedSimpArgs false

set_option maxHeartbeats 1000000 in
set_option maxRecDepth 100000 in
theorem FnExactMapKey_any (w : World) (v0 : Value) (x0 : List En) (S0 : Nat → Prop) (h0 : RdL tEnt w S0 v0 x0) :
    Calls Try.prog 10 #[v0] w fun e w' => e = .returned (.bool true) ∧ Ext w w' := by
  obtain ⟨A0, cap0, rfl, _, hlen0, _⟩ := id h0
  have H0 := Lib.hid h0
  clear h0
  by_cases hz0 : (1048576 - (entsN x0 : Nat) : Int) < 0
  · go_enter Try.func10, Try.ntmps10
    go_wp2_with fail
    refine (szEntryS_u _ x0 (1048576) _ _ (H0.out.ext (by decide) (Ext.refl _)) (by omega) (by omega)).mono ?_
    rintro e w1 ⟨rfl, hx⟩
    rw [if_pos (by omega)]
    have XW := Lib.hid hx
    clear hx
    go_wp2_with fail
    go_ret
    exact ⟨rfl, XW.out⟩
  have hln0 : x0.length ≤ 1048576 := by have := entsN_eq x0; omega
  have hK := mapKR_ok x0
  obtain ⟨R, c, hR⟩ : ∃ R c, mapKR x0 = (R, c) := ⟨_, _, rfl⟩
  rw [hR] at hK
  have HR := Lib.hid hR
  clear hR
  have hk := hK.1
  have HK := Lib.hid hK
  clear hK
  have hq : (c != c) = false := by simp
  go_enter Try.func10, Try.ntmps10
  go_wp2_with fail
  refine (szEntryS_u _ x0 (1048576) _ _ (H0.out.ext (by decide) (Ext.refl _)) (by omega) (by omega)).mono ?_
  rintro e w1 ⟨rfl, hx⟩
  rw [if_neg (by omega)]
  have XW := Lib.hid hx
  clear hx
  go_wp2_with fail
  refine (toEntryS_u _ x0 _ _ (H0.out.ext (by decide) XW.out) hln0).mono ?_
  rintro e w2 ⟨vs0, rfl, ho, hx⟩
  replace XW := Lib.hid (XW.out.trans hx)
  obtain ⟨As0, cs0, rfl⟩ := ho.shape
  have Os0 := Lib.hid ho.rd
  clear ho
  clear hx
  go_wp2_with fail
  refine (specMapKey_any _ x0 _ _ Os0.out).mono ?_
  rintro e w3 ⟨he, hx⟩
  rw [HR.out] at he
  subst he
  replace Os0 := Lib.hid (Os0.out.ext (by decide) hx)
  replace XW := Lib.hid (XW.out.trans hx)
  clear hx
  clear Os0
  go_wp2_with (first | (refine wpl_storeNew aggKey hk rfl rfl _ _ rfl rfl rfl rfl ?_) | (refine wpl_loadB (Blk.new w3 71 (numsA .u8 R)) aggKey (sizeN hk) rfl _ rfl rfl ?_))
  refine (toEntryS_u _ x0 _ _ (H0.out.ext (by decide) (XW.out.alloc _)) hln0).mono ?_
  rintro e w4 ⟨vx0, rfl, ho, hx⟩
  have hE := (ext_alloc w3 (.cells (numsA .u8 R) 71)).trans hx
  replace XW := Lib.hid (XW.out.trans hE)
  clear hE
  have BR := Lib.hid ((Blk.new w3 71 (numsA .u8 R)).ext hx)
  obtain ⟨Ax0, cx0, rfl⟩ := ho.shape
  have Ox0 := Lib.hid ho.rd
  clear ho
  clear hx
  go_wp2_with (first | (refine wpl_loadB BR.out aggKey (sizeN hk) rfl _ rfl rfl ?_))
  refine (implMapKey_any _ x0 _ _ Ox0.out).mono ?_
  rintro e w5 ⟨he, hx⟩
  rw [HR.out] at he
  subst he
  replace Ox0 := Lib.hid (Ox0.out.ext (by decide) hx)
  replace BR := Lib.hid (BR.out.ext hx)
  replace XW := Lib.hid (XW.out.trans hx)
  clear hx
  go_wp2_with (first | (refine wpl_storeNew aggKey hk rfl rfl _ _ rfl rfl rfl rfl ?_) | (refine wpl_loadB (Blk.new w5 71 (numsA .u8 R)) aggKey (sizeN hk) rfl _ rfl rfl ?_) | (refine wpl_loadB BR.out aggKey (sizeN hk) rfl _ rfl rfl ?_) | (refine wpl_loadB (BR.out.alloc _) aggKey (sizeN hk) rfl _ rfl rfl ?_))
  refine (eqKey_any _ _ HK.out HK.out _).mono ?_
  rintro e w6 ⟨rfl, hx⟩
  rw [beq_self_eq_true]
  have hE := (ext_alloc w5 (.cells (numsA .u8 R) 71)).trans hx
  replace Ox0 := Lib.hid (Ox0.out.ext (by decide) hE)
  replace BR := Lib.hid (BR.out.ext hE)
  replace XW := Lib.hid (XW.out.trans hE)
  clear hE
  have BG := Lib.hid ((Blk.new w5 71 (numsA .u8 R)).ext hx)
  clear hx
  clear BR
  clear BG
  go_wp2_with fail
  refine (toEntryS_u _ x0 _ _ (H0.out.ext (by decide) XW.out) hln0).mono ?_
  rintro e w7 ⟨vy0, rfl, ho, hx⟩
  replace Ox0 := Lib.hid (Ox0.out.ext (by decide) hx)
  replace XW := Lib.hid (XW.out.trans hx)
  obtain ⟨Ay0, cy0, rfl⟩ := ho.shape
  have Oy0 := Lib.hid ho.rd
  clear ho
  clear hx
  go_wp2_with fail
  refine (eqEntryS_u _ _ x0 _ _ _ Ox0.out Oy0.out).mono ?_
  rintro e w8 ⟨rfl, hx⟩
  replace Ox0 := Lib.hid (Ox0.out.ext (by decide) hx)
  replace Oy0 := Lib.hid (Oy0.out.ext (by decide) hx)
  replace XW := Lib.hid (XW.out.trans hx)
  clear hx
  clear Oy0
  go_wp2_with fail
  go_ret
  exact ⟨rfl, XW.out⟩
end Go.Proofs.Ytbippohfinbngaa
