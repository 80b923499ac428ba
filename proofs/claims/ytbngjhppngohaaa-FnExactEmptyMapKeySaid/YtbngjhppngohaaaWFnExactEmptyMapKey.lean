/- The walk of the law FnExactEmptyMapKey. No condition. -/
import Derived.Test.YtbngjhppngohaaaKeyFns
namespace Go.Proofs.Ytbngjhppngohaaa
open Go.RowKit
set_option linter.unusedVariables false
set_option linter.unusedSimpArgs false

set_option maxHeartbeats 1000000 in
set_option maxRecDepth 100000 in
theorem FnExactEmptyMapKey_any (w : World) : Calls Try.prog 5 #[] w fun e w' => e = .returned (.bool true) ∧ Ext w w' := by
  have hk := emptyL_ok.1
  go_enter Try.func5, Try.ntmps5
  go_wp2_with fail
  refine (specEmptyMapKey_any _).mono ?_
  rintro e w1 ⟨rfl, hx⟩
  have HX := Lib.hid hx
  clear hx
  go_wp2_with (refine wpl_storeNew aggKey hk rfl rfl _ _ rfl rfl rfl rfl ?_)
  refine (implEmptyMapKey_any _).mono ?_
  rintro e w2 ⟨rfl, hx⟩
  have B1 := Lib.hid ((Blk.new w1 28 (numsA .u8 emptyL)).ext hx)
  have HX2 := Lib.hid ((HX.out.alloc _).trans hx)
  clear hx HX
  go_wp2_with (first | (refine wpl_storeNew aggKey hk rfl rfl _ _ rfl rfl rfl rfl ?_) | (refine wpl_loadN (Blk.new w2 28 (numsA .u8 emptyL)) aggKey hk rfl _ rfl rfl ?_) | (refine wpl_loadN (B1.out.alloc _) aggKey hk rfl _ rfl rfl ?_))
  refine (eqKey_any _ _ emptyL_ok emptyL_ok _).mono ?_
  rintro e w3 ⟨rfl, hx⟩
  rw [beq_self_eq_true]
  have HX3 := Lib.hid ((HX2.out.alloc _).trans hx)
  clear hx HX2
  go_wp2
  go_ret
  exact ⟨rfl, HX3.out⟩
end Go.Proofs.Ytbngjhppngohaaa
