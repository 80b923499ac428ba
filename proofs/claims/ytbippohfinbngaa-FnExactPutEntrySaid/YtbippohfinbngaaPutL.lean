/- An entry put into a map: the plain law. No condition. -/
import Derived.Test.YtbippohfinbngaaFindE
namespace Go.Proofs.Ytbippohfinbngaa
open Go.RowKit
set_option linter.unusedVariables false
set_option linter.unusedSimpArgs false

/-- one round of the reference -/
def putStep (e : En) (a : List En × Bool) (x : En) : List En × Bool :=
  let b := if a.2 then a else if ltB x.1 e.1 then a else (a.1 ++ [e], true)
  if x.1 = e.1 then b else (b.1 ++ [x], b.2)
def putF (e : En) (L : List En) : List En × Bool := L.foldl (putStep e) ([], false)
def putEnd (e : En) (a : List En × Bool) : List En := if a.2 then a.1 else a.1 ++ [e]
theorem putA (e : En) (M acc : List En) (h : ∀ x ∈ M, ltB x.1 e.1 = true) : M.foldl (putStep e) (acc, false) = (acc ++ M, false) := by
  induction M generalizing acc with
  | nil => simp
  | cons x r ih =>
    have h0 := h x (by simp)
    have e1 : putStep e (acc, false) x = (acc ++ [x], false) := by simp [putStep, h0, ltB_ne h0]
    rw [List.foldl_cons, e1, ih _ (fun y hy => h y (by simp [hy]))]
    simp
theorem putB (e : En) (M acc : List En) (h : ∀ x ∈ M, x.1 ≠ e.1) : M.foldl (putStep e) (acc, true) = (acc ++ M, true) := by
  induction M generalizing acc with
  | nil => simp
  | cons x r ih =>
    have e1 : putStep e (acc, true) x = (acc ++ [x], true) := by simp [putStep, h x (by simp)]
    rw [List.foldl_cons, e1, ih _ (fun y hy => h y (by simp [hy]))]
    simp
theorem posE_facts (L : List En) (s : ByteArray) : posE L s ≤ L.length ∧ (∀ p, p < posE L s → ltB (gE L p).1 s = true) ∧ (posE L s < L.length → ltB (gE L (posE L s)).1 s = false) := by
  rw [posE]
  induction L with
  | nil => simp
  | cons e r ih =>
    cases h : ltB e.1 s with
    | false =>
      simp only [List.takeWhile_cons, h, Bool.false_eq_true, if_false, List.length_nil]
      exact ⟨Nat.zero_le _, fun p hp => by omega, fun _ => by simpa [gE] using h⟩
    | true =>
      simp only [List.takeWhile_cons, h, if_true, List.length_cons]
      refine ⟨by omega, fun p hp => ?_, fun hl => ?_⟩
      · cases p with
        | zero => simpa [gE] using h
        | succ p => have := ih.2.1 p (by omega); simpa [gE] using this
      · have := ih.2.2 (by omega)
        simpa [gE] using this
/-- what the reference makes -/
theorem putF_eq {L : List En} {e : En} (hinc : incs L L.length = true) : putEnd e (putF e L) = L.take (posE L e.1) ++ [e] ++ L.drop (if hasE L e.1 then posE L e.1 + 1 else posE L e.1) := by
  obtain ⟨k, hk⟩ : ∃ k, posE L e.1 = k := ⟨_, rfl⟩
  obtain ⟨hle, hb, ha⟩ := posE_facts L e.1
  rw [hk] at hle hb ha
  have hall : ∀ x ∈ L.take k, ltB x.1 e.1 = true := by
    intro x hx
    obtain ⟨i, hi, rfl⟩ := List.getElem_of_mem hx
    rw [List.length_take] at hi
    rw [List.getElem_take]
    have := hb i (by omega)
    rwa [gE_lt (by omega)] at this
  have hF : putF e L = (L.drop k).foldl (putStep e) (L.take k, false) := by
    unfold putF
    conv => lhs; rw [← List.take_append_drop k L, List.foldl_append, putA e _ _ hall]
    simp
  have hH := hasE_eq L e.1
  rw [hk] at hH ⊢
  rw [hF]
  by_cases hlt : k < L.length
  · have hx : ltB L[k].1 e.1 = false := by
      have := ha hlt
      rwa [gE_lt hlt] at this
    have hne : ∀ x ∈ L.drop (k + 1), x.1 ≠ e.1 := by
      intro x hxm heq
      obtain ⟨i, hi, rfl⟩ := List.getElem_of_mem hxm
      rw [List.length_drop] at hi
      rw [List.getElem_drop] at heq
      have := posE_hit hinc (k + 1 + i) (by omega) (s := e.1) (by rw [gE_lt (by omega)]; exact heq)
      omega
    rw [List.drop_eq_getElem_cons hlt, List.foldl_cons]
    by_cases heq : L[k].1 = e.1
    · have e1 : putStep e (L.take k, false) L[k] = (L.take k ++ [e], true) := by simp [putStep, hx, heq, ltB_irrefl]
      have e2 : hasE L e.1 = true := by rw [hH, gE_lt hlt]; simp [hlt, heq]
      rw [e1, putB e _ _ hne, e2]
      simp [putEnd]
    · have e1 : putStep e (L.take k, false) L[k] = (L.take k ++ [e] ++ [L[k]], true) := by simp [putStep, hx, heq]
      have e2 : hasE L e.1 = false := by rw [hH, gE_lt hlt]; simp [heq]
      rw [e1, putB e _ _ hne, e2]
      simp [putEnd]
  · have e2 : hasE L e.1 = false := by rw [hH]; simp [hlt]
    have : L.drop k = [] := List.drop_eq_nil_of_le (by omega)
    rw [e2]
    simp [putEnd, this]
end Go.Proofs.Ytbippohfinbngaa
