/- An entry as an argument of a law. No condition. -/
import Derived.Test.YtbippohfinbngaaEntS
namespace Go.Proofs.Ytbippohfinbngaa
open Go.RowKit
set_option linter.unusedVariables false
set_option linter.unusedSimpArgs false

theorem szEntry_u (x : En) (hx : tEnt.ok x) (l : Int) (w : World) (h0 : -1 ≤ l) (h1 : l ≤ 1048576) :
    Calls Try.prog 36 #[.agg #[.string x.1, .string x.2], .int .i64 l] w fun e w' => e = .returned (.int .i64 (if l - (x.1.size + x.2.size : Nat) < 0 then -1 else l - (x.1.size + x.2.size : Nat))) ∧ Ext w w' := by
  have := szEntry_any x.1 x.2 hx.1 hx.2 l h0 h1 w
  rw [show l - (x.1.size + x.2.size : Nat) = l - x.1.size - x.2.size by omega]
  exact this
end Go.Proofs.Ytbippohfinbngaa
