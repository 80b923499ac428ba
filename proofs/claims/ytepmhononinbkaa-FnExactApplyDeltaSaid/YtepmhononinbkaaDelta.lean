/- What a program of a delta makes, as a list of bytes. No condition. -/
import Derived.Test.YtepmhononinbkaaNum
namespace Go.Proofs.Ytepmhononinbkaa
open Go.RowKit
set_option linter.unusedVariables false
set_option linter.unusedSimpArgs false

/-- what is left of a program, and what has been made: the data, and the code -/
def applyL (base p out : List Int) : List Int × Int :=
  if h : p.length = 0 then (if 1024 < out.length then ([], 3) else (out, 0))
  else if gI p 0 = 0 ∧ 1 < p.length ∧ 0 < gI p 1 ∧ 2 + (gI p 1).toNat ≤ p.length then
    applyL base (p.drop (2 + (gI p 1).toNat)) (out ++ (p.drop 2).take (gI p 1).toNat)
  else if gI p 0 = 1 ∧ 3 < p.length ∧ 0 < gI p 3 ∧ (gI p 1 + 256 * gI p 2).toNat + (gI p 3).toNat ≤ base.length then
    applyL base (p.drop 4) (out ++ (base.drop (gI p 1 + 256 * gI p 2).toNat).take (gI p 3).toNat)
  else ([], 5)
termination_by p.length
decreasing_by
  · simp; omega
  · simp; omega
theorem gI_drop (xs : List Int) (i j : Nat) : gI (xs.drop i) j = gI xs (i + j) := by simp [gI, List.getD_eq_getElem?_getD]
theorem applyL_end (base out : List Int) : applyL base [] out = if 1024 < out.length then ([], 3) else (out, 0) := by
  rw [applyL]; simp
theorem applyL_lit (base p out : List Int) (h0 : gI p 0 = 0) (h1 : 1 < p.length) (h2 : 0 < gI p 1) (h3 : 2 + (gI p 1).toNat ≤ p.length) :
    applyL base p out = applyL base (p.drop (2 + (gI p 1).toNat)) (out ++ (p.drop 2).take (gI p 1).toNat) := by
  rw [applyL, dif_neg (by omega), if_pos ⟨h0, h1, h2, h3⟩]
theorem applyL_copy (base p out : List Int) (h0 : gI p 0 = 1) (h1 : 3 < p.length) (h2 : 0 < gI p 3) (h3 : (gI p 1 + 256 * gI p 2).toNat + (gI p 3).toNat ≤ base.length) :
    applyL base p out = applyL base (p.drop 4) (out ++ (base.drop (gI p 1 + 256 * gI p 2).toNat).take (gI p 3).toNat) := by
  rw [applyL, dif_neg (by omega), if_neg (by omega), if_pos ⟨h0, h1, h2, h3⟩]
theorem applyL_bad (base p out : List Int) (h : p.length ≠ 0) (h0 : ¬ (gI p 0 = 0 ∧ 1 < p.length ∧ 0 < gI p 1 ∧ 2 + (gI p 1).toNat ≤ p.length))
    (h1 : ¬ (gI p 0 = 1 ∧ 3 < p.length ∧ 0 < gI p 3 ∧ (gI p 1 + 256 * gI p 2).toNat + (gI p 3).toNat ≤ base.length)) : applyL base p out = ([], 5) := by
  rw [applyL, dif_neg h, if_neg h0, if_neg h1]
/-- the function ApplyDelta -/
def applyR (base p : List Int) : List Int × Int := if 1024 < base.length ∨ 1024 < p.length then ([], 3) else applyL base p []

end Go.Proofs.Ytepmhononinbkaa
