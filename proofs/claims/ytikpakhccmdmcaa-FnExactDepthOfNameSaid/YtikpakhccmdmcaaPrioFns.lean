/- Names, and their priorities. No condition. -/
import Derived.Test.YtikpakhccmdmcaaKeyFns
import Derived.Test.YtikpakhccmdmcaaNamesF
import Derived.Test.YtikpakhccmdmcaaStrs
namespace Go.Proofs.Ytikpakhccmdmcaa
open Go.RowKit
set_option linter.unusedVariables false
set_option linter.unusedSimpArgs false

def prioL (s : ByteArray) : List Int := hashL 4 (strL s)
theorem prioL_ok (s : ByteArray) : K32 (prioL s) := hashL_ok _ _
theorem prioL_eq (s : ByteArray) : prioL s = hashL 4 (strL s) := rfl
attribute [irreducible] prioL
set_option maxHeartbeats 1000000 in
set_option maxRecDepth 100000 in
theorem l04Priority_any (s : ByteArray) (hs : s.size ≤ 1048576) (w : World) : Calls Try.prog 108 #[.string s] w fun e w' => e = .returned (.agg (numsA .u8 (prioL s))) ∧ Ext w w' := by
  have hk := (prioL_ok s).1
  go_enter Try.func108, Try.ntmps108
  go_wp2_with (refine wpl_conv Try.underlying9 Try.underlying126 Try.underlying5 rfl _ rfl rfl (by omega) ?_; intro A1 c1 w1 hr hx; have HR := Lib.hid hr; have HX := Lib.hid hx; clear hr hx)
  refine (l01Hash_any 4 (by decide) _ (strL s) _ _ HR.out (by rw [strL_length]; omega)).mono ?_
  rw [← prioL_eq]
  rintro e w2 ⟨rfl, hx⟩
  have HB := Lib.hid (((Blk.new w 45 _).ext HX.out).ext hx)
  have HX2 := Lib.hid (((ext_alloc w _).trans HX.out).trans hx)
  clear hx
  go_wp2_with (refine wpl_storeN HB.out aggKey hk rfl rfl _ _ rfl rfl rfl rfl ?_)
  refine bodyPost_ret (results_blk rfl _ rfl aggKey hk (HB.out.setRow _)) rfl ?_
  exact ⟨rfl, HX2.out.setRow (Nat.le_refl _) _⟩
/-- the priority and the code -/
def prioR (s : ByteArray) : List Int × Int := if nameB s then (prioL s, 0) else (List.replicate 32 0, 1)
theorem zero_ok : K32 (List.replicate 32 0) := ⟨by simp, replicate_ok _⟩
theorem prioR_ok (s : ByteArray) : K32 (prioR s).1 := by unfold prioR; split; exact prioL_ok s; exact zero_ok
end Go.Proofs.Ytikpakhccmdmcaa
