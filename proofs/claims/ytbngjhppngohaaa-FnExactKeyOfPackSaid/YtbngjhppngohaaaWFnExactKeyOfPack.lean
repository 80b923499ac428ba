/- The walk of the law FnExactKeyOfPack. No condition. -/
import Derived.Test.YtbngjhppngohaaaPackKey
namespace Go.Proofs.Ytbngjhppngohaaa
open Go.RowKit
set_option linter.unusedVariables false
set_option linter.unusedSimpArgs false

set_option maxHeartbeats 1000000 in
set_option maxRecDepth 100000 in
theorem FnExactKeyOfPack_any (w : World) (v0 : Value) (xs0 : List Int) (S0 : Nat → Prop) (h0 : RdL tByte w S0 v0 xs0) : Calls Try.prog 8 #[v0] w fun e w' => e = .returned (.bool true) ∧ Ext w w' := by
  obtain ⟨A0, cap0, rfl, _, hlen0, _⟩ := id h0
  have H0 := Lib.hid h0
  clear h0
  by_cases hl0 : (1048576 : Int) < (xs0.length : Int)
  · go_enter Try.func8, Try.ntmps8
    go_wp2_with fail
    go_ret
    exact ⟨rfl, Ext.refl _⟩
  have hm0 : xs0.length ≤ 1048576 := by omega
  have hK := packR_ok xs0
  have HS := Lib.hid (fun v W S => specKeyOfPack_any v xs0 W S)
  have HI := Lib.hid (fun v W S => implKeyOfPack_any v xs0 W S)
  obtain ⟨R, c, hR⟩ : ∃ R c, packR xs0 = (R, c) := ⟨_, _, rfl⟩
  rw [hR] at hK HS HI
  clear hR
  have hk := hK.1
  have HK := Lib.hid hK
  clear hK
  have hq : (c != c) = false := by simp
  go_enter Try.func8, Try.ntmps8
  go_wp2_with fail
  refine (toByteS_any _ xs0 _ _ (H0.out.ext (by decide) (Ext.refl _))).mono ?_
  rintro e w1 ⟨vs0, rfl, ho, hx⟩
  obtain ⟨As0, cs0, rfl⟩ := ho.shape
  have XW := Lib.hid hx
  have Os0 := Lib.hid ho
  clear hx ho
  go_wp2_with fail
  refine (HS.out _ _ _ Os0.out.rd).mono ?_
  rintro e w2 ⟨rfl, hx⟩
  replace XW := Lib.hid (XW.out.trans hx)
  clear hx Os0
  go_wp2_with (refine wpl_storeNew aggKey hk rfl rfl _ _ rfl rfl rfl rfl ?_)
  refine (toByteS_any _ xs0 _ _ (H0.out.ext (by decide) (XW.out.alloc _))).mono ?_
  rintro e w3 ⟨vx0, rfl, ho, hx⟩
  obtain ⟨Ax0, cx0, rfl⟩ := ho.shape
  have B1 := Lib.hid ((Blk.new w2 28 (numsA .u8 R)).ext hx)
  replace XW := Lib.hid ((XW.out.alloc _).trans hx)
  have Ox0 := Lib.hid ho
  clear hx ho
  go_wp2_with fail
  refine (HI.out _ _ _ Ox0.out.rd).mono ?_
  rintro e w4 ⟨rfl, hx⟩
  replace B1 := Lib.hid (B1.out.ext hx)
  replace XW := Lib.hid (XW.out.trans hx)
  replace Ox0 := Lib.hid (Ox0.out.ext hx)
  clear hx
  go_wp2_with (first | (refine wpl_storeNew aggKey hk rfl rfl _ _ rfl rfl rfl rfl ?_) | (refine wpl_loadN (Blk.new w4 28 (numsA .u8 R)) aggKey hk rfl _ rfl rfl ?_) | (refine wpl_loadN (B1.out.alloc _) aggKey hk rfl _ rfl rfl ?_))
  refine (eqKey_any _ _ HK.out HK.out _).mono ?_
  rintro e w5 ⟨rfl, hx⟩
  rw [beq_self_eq_true]
  replace XW := Lib.hid ((XW.out.alloc _).trans hx)
  replace Ox0 := Lib.hid ((Ox0.out.alloc _).ext hx)
  clear hx B1
  go_wp2_with fail
  refine (toByteS_any _ xs0 _ _ (H0.out.ext (by decide) XW.out)).mono ?_
  rintro e w6 ⟨vy0, rfl, ho, hx⟩
  obtain ⟨Ay0, cy0, rfl⟩ := ho.shape
  replace XW := Lib.hid (XW.out.trans hx)
  replace Ox0 := Lib.hid (Ox0.out.ext hx)
  have Oy0 := Lib.hid ho
  clear hx ho
  go_wp2_with fail
  refine (eqByteS_any _ _ xs0 xs0 _ _ _ Ox0.out.rd Oy0.out.rd).mono ?_
  rintro e w7 ⟨rfl, hD⟩
  rw [beq_self_eq_true]
  replace XW := Lib.hid (XW.out.trans hD.ext)
  clear hD
  go_wp2_with fail
  go_ret
  exact ⟨rfl, XW.out⟩
end Go.Proofs.Ytbngjhppngohaaa
