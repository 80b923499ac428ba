/- A name struck out of a map: the reference. No condition. -/
import Derived.Test.YtbippohfinbngaaRangeS
namespace Go.Proofs.Ytbippohfinbngaa
open Go.RowKit
set_option linter.unusedVariables false
set_option linter.unusedSimpArgs false

@[irreducible] def notN (s : ByteArray) (e : En) : Bool := e.1.toList != s.toList
theorem notN_eq (s : ByteArray) (e : En) : notN s e = (e.1.toList != s.toList) := by rw [notN]
def delR (L : List En) (s : ByteArray) : List En × Int := if okE L && nameB s then (if hasE L s then (L.filter (notN s), 0) else ([], 6)) else ([], 1)
theorem hasE_lt' {L : List En} {s : ByteArray} (h : hasE L s = true) : posE L s < L.length := by
  rw [hasE_eq] at h
  simp at h
  exact h.1
end Go.Proofs.Ytbippohfinbngaa
