/- Texts in order; their comparison. No condition. -/
import Derived.Test.YtikpakhccmdmcaaEntS
namespace Go.Proofs.Ytikpakhccmdmcaa
open Go.RowKit
set_option linter.unusedVariables false
set_option linter.unusedSimpArgs false

theorem less_irrefl (a : List UInt8) : Op.bytesLess a a = false := by
  induction a with
  | nil => rfl
  | cons x r ih => simp [Op.bytesLess, ih]
theorem less_trans : ∀ (a b c : List UInt8), Op.bytesLess a b = true → Op.bytesLess b c = true → Op.bytesLess a c = true
  | [], [], _, h, _ => by simp [Op.bytesLess] at h
  | _ :: _, [], _, h, _ => by simp [Op.bytesLess] at h
  | _, _ :: _, [], _, h => by simp [Op.bytesLess] at h
  | [], _ :: _, _ :: _, _, _ => by simp [Op.bytesLess]
  | x :: a, y :: b, z :: c, h, k => by
    simp only [Op.bytesLess, Bool.or_eq_true, decide_eq_true_eq, Bool.and_eq_true, beq_iff_eq] at h k ⊢
    rcases h with h | ⟨rfl, h⟩
    · rcases k with k | ⟨rfl, k⟩
      · exact .inl (UInt8.lt_trans h k)
      · exact .inl h
    · rcases k with k | ⟨rfl, k⟩
      · exact .inl k
      · exact .inr ⟨rfl, less_trans a b c h k⟩
theorem less_total : ∀ (a b : List UInt8), Op.bytesLess a b = false → Op.bytesLess b a = false → a = b
  | [], [], _, _ => rfl
  | _ :: _, [], _, h => by simp [Op.bytesLess] at h
  | [], _ :: _, h, _ => by simp [Op.bytesLess] at h
  | x :: a, y :: b, h, k => by
    simp only [Op.bytesLess, Bool.or_eq_false_iff, decide_eq_false_iff_not, Bool.and_eq_false_iff, beq_eq_false_iff_ne] at h k
    have e : x = y := by
      have h1 := h.1
      have k1 := k.1
      exact UInt8.le_antisymm (UInt8.not_lt.1 k1) (UInt8.not_lt.1 h1)
    subst e
    rw [less_total a b (h.2.resolve_left (fun q => q rfl)) (k.2.resolve_left (fun q => q rfl))]
/-- a comes ahead of b -/
@[irreducible] def ltB (a b : ByteArray) : Bool := Op.bytesLess a.toList b.toList
theorem ltB_eq (a b : ByteArray) : Op.bytesLess a.toList b.toList = ltB a b := by rw [ltB]
theorem toList_inj {a b : ByteArray} (h : a.toList = b.toList) : a = b := by
  rw [ByteArray.toList_eq, ByteArray.toList_eq] at h
  exact ByteArray.ext (Array.toList_inj.1 h)
theorem ltB_irrefl (a : ByteArray) : ltB a a = false := by rw [ltB]; exact less_irrefl _
theorem ltB_trans {a b c : ByteArray} (h : ltB a b = true) (k : ltB b c = true) : ltB a c = true := by rw [ltB] at h k ⊢; exact less_trans _ _ _ h k
theorem ltB_total {a b : ByteArray} (h : ltB a b = false) (k : ltB b a = false) : a = b := by rw [ltB] at h k; exact toList_inj (less_total _ _ h k)
theorem ltB_asymm {a b : ByteArray} (h : ltB a b = true) : ltB b a = false := by
  cases k : ltB b a with
  | false => rfl
  | true => have := ltB_trans h k; rw [ltB_irrefl] at this; cases this
theorem ltB_ne {a b : ByteArray} (h : ltB a b = true) : a ≠ b := fun e => by subst e; rw [ltB_irrefl] at h; cases h
/-- the comparison of two texts -/
@[irreducible] def cmpS (a b : ByteArray) : Int := if ltB a b then -1 else if ltB b a then 1 else 0
theorem cmpS_eq (a b : ByteArray) : cmpS a b = if ltB a b then -1 else if ltB b a then 1 else 0 := by rw [cmpS]
theorem cmpS_lt (a b : ByteArray) : cmpS a b < 0 ↔ ltB a b = true := by
  rw [cmpS]
  split
  · simp [*]
  · split <;> simp [*]
theorem cmpS_zero (a b : ByteArray) : cmpS a b = 0 ↔ a = b := by
  rw [cmpS]
  constructor
  · intro h
    split at h
    · cases h
    · rename_i h1
      split at h
      · cases h
      · rename_i h2
        exact ltB_total (by simpa using h1) (by simpa using h2)
  · rintro rfl
    simp [ltB_irrefl]
set_option maxHeartbeats 1000000 in
set_option maxRecDepth 100000 in
theorem isNaNS_any (x : ByteArray) (w : World) : Calls Try.prog 122 #[.string x] w fun e w' => e = .returned (.bool false) ∧ w = w' := by
  have h : (x.toList != x.toList) = false := by simp
  go_enter Try.func122, Try.ntmps122
  go_wp2
  go_ret
  exact ⟨rfl, rfl⟩
set_option maxHeartbeats 1000000 in
set_option maxRecDepth 100000 in
theorem cmpS_any (x y : ByteArray) (w : World) : Calls Try.prog 105 #[.string x, .string y] w fun e w' => e = .returned (.int .i64 (cmpS x y)) ∧ w = w' := by
  rw [cmpS_eq]
  cases h1 : ltB x y with
  | true =>
    have h2 : Op.bytesLess x.toList y.toList = true := by rw [ltB_eq]; exact h1
    clear h1
    go_enter Try.func105, Try.ntmps105
    go_wp2_with (go_at_call 122; refine (isNaNS_any _ _).mono ?_; rintro e w' ⟨rfl, rfl⟩)
    go_ret
    exact ⟨rfl, rfl⟩
  | false =>
    have h2 : Op.bytesLess x.toList y.toList = false := by rw [ltB_eq]; exact h1
    cases h3 : ltB y x with
    | true =>
      have h4 : (x.toList == y.toList) = false := by
        rw [beq_eq_false_iff_ne]
        exact fun e => ltB_ne h3 (toList_inj e).symm
      clear h1 h3
      go_enter Try.func105, Try.ntmps105
      go_wp2_with (go_at_call 122; refine (isNaNS_any _ _).mono ?_; rintro e w' ⟨rfl, rfl⟩)
      go_ret
      exact ⟨rfl, rfl⟩
    | false =>
      have h4 : (x.toList == y.toList) = true := by rw [ltB_total h1 h3]; simp
      clear h1 h3
      go_enter Try.func105, Try.ntmps105
      go_wp2_with (go_at_call 122; refine (isNaNS_any _ _).mono ?_; rintro e w' ⟨rfl, rfl⟩)
      go_ret
      exact ⟨rfl, rfl⟩

end Go.Proofs.Ytikpakhccmdmcaa
