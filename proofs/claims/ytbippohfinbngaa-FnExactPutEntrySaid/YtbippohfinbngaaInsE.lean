/- An entry set into a row of one's own: slices.Insert. No condition. -/
import Derived.Test.YtbippohfinbngaaInsX
import Derived.Test.YtbippohfinbngaaInsR
import Derived.Test.YtbippohfinbngaaInsG
namespace Go.Proofs.Ytbippohfinbngaa
open Go.RowKit
set_option linter.unusedVariables false
set_option linter.unusedSimpArgs false


/-- slices.Insert of one entry -/
theorem insE_any (v : Value) (xs : List En) (k : Nat) (e : En) (he : tEnt.ok e) (w : World) (base p tp : Nat) (h : Own tEnt 67 w base v xs) (hk : k ≤ xs.length) (h64 : xs.length ≤ 64) (hp : Blk w p tp #[.string e.1, .string e.2]) (hbase : base ≤ w.heap.size) (hfar : v.ownBlock ≠ some p) :
    Calls Try.prog 123 #[v, .int .i64 k, .slice (some ⟨p, 0, none⟩) 1 1] w fun q w' => ∃ v', q = .returned v' ∧ Own tEnt 67 w' base v' (insR xs k e) ∧ w.grownBy w' v.ownBlock := by
  by_cases hlt : k < xs.length
  · obtain ⟨A, n, c, hv⟩ := h.shape3
    by_cases hc : xs.length + 1 ≤ c
    · exact insRoom_any v xs k e he w base p tp h hlt h64 hp hfar ⟨A, n, c, hv, hc⟩
    · exact insGrow_any v xs k e he w base p tp h hlt h64 hp ⟨A, n, c, hv, by omega⟩
  · exact insEnd_any v xs k e he w base p tp h (by omega) h64 hp hbase
end Go.Proofs.Ytbippohfinbngaa
