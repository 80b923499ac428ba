/- Commits in the laws' words. No condition. -/
import Derived.Test.YtbngjhppngohaaaCommitV
namespace Go.Proofs.Ytbngjhppngohaaa
open Go.RowKit
set_option linter.unusedVariables false
set_option linter.unusedSimpArgs false

set_option maxHeartbeats 1000000 in
set_option maxRecDepth 100000 in
theorem specValidCommit_u (cs : Array Value) (x : Cm) (w : World) (S : Nat → Prop) (h : RCommit w S cs x) :
    Calls Try.prog 18 #[.agg cs] w fun e w' => e = .returned (.bool (okCm x)) ∧ Ext w w' := by
  have hb := Blk.new w 31 cs
  go_enter Try.func18, Try.ntmps18
  go_wp2_with fail
  refine (l07Ok_any cs x _ S (h.ext (ext_alloc w _)) w.heap.size hb).mono ?_
  rintro e w1 ⟨rfl, hx⟩
  have XW := Lib.hid ((ext_alloc w _).trans hx)
  clear hx
  go_wp2
  go_ret
  exact ⟨rfl, XW.out⟩

end Go.Proofs.Ytbngjhppngohaaa
