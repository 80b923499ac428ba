/- The walk of the law FnExactPriorityOf. No condition. -/
import Derived.Test.YtbngjhppngohaaaPrioFns
namespace Go.Proofs.Ytbngjhppngohaaa
open Go.RowKit
set_option linter.unusedVariables false
set_option linter.unusedSimpArgs false

set_option maxHeartbeats 1000000 in
set_option maxRecDepth 100000 in
theorem FnExactPriorityOf_any (w : World) (s0 : ByteArray) (hs0 : s0.size ≤ 140737488351232) : Calls Try.prog 6 #[.string s0] w fun e w' => e = .returned (.bool true) ∧ Ext w w' := by
  by_cases hl0 : (1048576 : Int) < (s0.size : Int)
  · go_enter Try.func6, Try.ntmps6
    go_wp2_with fail
    go_ret
    exact ⟨rfl, Ext.refl _⟩
  have hm0 : s0.size ≤ 1048576 := by omega
  have hK := prioR_ok s0
  have HS := Lib.hid (specPriorityOf_any s0 hm0)
  have HI := Lib.hid (implPriorityOf_any s0 hm0)
  obtain ⟨R, c, hR⟩ : ∃ R c, prioR s0 = (R, c) := ⟨_, _, rfl⟩
  rw [hR] at hK HS HI
  clear hR
  have hk := hK.1
  have HK := Lib.hid hK
  clear hK
  have hq : (c != c) = false := by simp
  go_enter Try.func6, Try.ntmps6
  go_wp2_with fail
  refine (HS.out _).mono ?_
  rintro e w1 ⟨rfl, hx⟩
  have HX := Lib.hid hx
  clear hx
  go_wp2_with (refine wpl_storeNew aggKey hk rfl rfl _ _ rfl rfl rfl rfl ?_)
  refine (HI.out _).mono ?_
  rintro e w2 ⟨rfl, hx⟩
  have B1 := Lib.hid ((Blk.new w1 28 (numsA .u8 R)).ext hx)
  have HX2 := Lib.hid ((HX.out.alloc _).trans hx)
  clear hx HX
  go_wp2_with (first | (refine wpl_storeNew aggKey hk rfl rfl _ _ rfl rfl rfl rfl ?_) | (refine wpl_loadN (Blk.new w2 28 (numsA .u8 R)) aggKey hk rfl _ rfl rfl ?_) | (refine wpl_loadN (B1.out.alloc _) aggKey hk rfl _ rfl rfl ?_))
  refine (eqKey_any _ _ HK.out HK.out _).mono ?_
  rintro e w3 ⟨rfl, hx⟩
  rw [beq_self_eq_true]
  have HX3 := Lib.hid ((HX2.out.alloc _).trans hx)
  clear hx HX2
  go_wp2
  go_ret
  exact ⟨rfl, HX3.out⟩
end Go.Proofs.Ytbngjhppngohaaa
