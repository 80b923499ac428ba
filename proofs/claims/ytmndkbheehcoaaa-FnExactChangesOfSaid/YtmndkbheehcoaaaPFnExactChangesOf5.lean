/- What the walk of the law FnExactChangesOf needs, part 5 of 5. No condition. -/
import Derived.Test.YtmndkbheehcoaaaPFnExactChangesOf4
/- A list of entries as an argument. No condition. -/
namespace Go.Proofs.Ytmndkbheehcoaaa
open Go.RowKit
theorem c_ent : ∀ {w : World} {S : Nat → Prop} (es : List Value) (x : ByteArray × ByteArray), cPair cStr cStr w S es x → es = tEnt.enc x ∧ tEnt.ok x := by
  rintro w S es x ⟨c1, c2, rfl, ⟨rfl, h1⟩, rfl, h2⟩
  exact ⟨rfl, h1, h2⟩
end Go.Proofs.Ytmndkbheehcoaaa
