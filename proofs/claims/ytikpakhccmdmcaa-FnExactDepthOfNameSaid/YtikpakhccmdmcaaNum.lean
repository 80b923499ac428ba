/- Numbers of bytes, the lowest one first. No condition. -/
import Derived.Test.YtikpakhccmdmcaaLib
import Derived.Laws.BitsLemmas
namespace Go.Proofs.Ytikpakhccmdmcaa
open Go.RowKit
set_option linter.unusedVariables false
set_option linter.unusedSimpArgs false

/-- the number of bytes, the lowest one first -/
def littleN : List Int → Int
  | [] => 0
  | x :: r => x + 256 * littleN r
theorem littleN_snoc (l : List Int) (x : Int) : littleN (l ++ [x]) = littleN l + x * 256 ^ l.length := by
  induction l with
  | nil => simp [littleN]
  | cons y r ih =>
    simp only [List.cons_append, littleN, ih, List.length_cons, Int.pow_succ]
    rw [Int.mul_add, ← Int.add_assoc, Int.mul_left_comm, Int.mul_comm 256 (256 ^ r.length)]
theorem littleN_bound (l : List Int) (h : B8 l) : 0 ≤ littleN l ∧ littleN l < 256 ^ l.length := by
  induction l with
  | nil => simp [littleN]
  | cons y r ih =>
    have h1 := ih (fun x hx => h x (by simp [hx]))
    have h2 := h y (by simp)
    simp only [littleN, List.length_cons, Int.pow_succ]
    omega
theorem take_snoc (xs : List Int) (k : Nat) (h : k < xs.length) : xs.take (k + 1) = xs.take k ++ [gI xs k] := by
  rw [List.take_succ_eq_append_getElem h, gI_lt h]
theorem B8.take {xs : List Int} (h : B8 xs) (k : Nat) : B8 (xs.take k) := fun x hx => h x (List.mem_of_mem_take hx)
theorem B8.drop {xs : List Int} (h : B8 xs) (k : Nat) : B8 (xs.drop k) := fun x hx => h x (List.mem_of_mem_drop hx)
theorem B8.append {xs ys : List Int} (h : B8 xs) (k : B8 ys) : B8 (xs ++ ys) := fun x hx => (List.mem_append.1 hx).elim (h x) (k x)
theorem wraps_u64 (n : Int) (h₀ : 0 ≤ n) (h₁ : n < 2 ^ 64) : IntKind.u64.wrap n = n := by
  simp [IntKind.wrap, IntKind.bits, IntKind.signed]; omega
theorem wraps_u32 (n : Int) (h₀ : 0 ≤ n) (h₁ : n < 2 ^ 32) : IntKind.u32.wrap n = n := by
  simp [IntKind.wrap, IntKind.bits, IntKind.signed]; omega
theorem or_comm_nat (k : IntKind) (j : Nat) (hj : j ≤ k.bits) (hk : ∀ n : Int, 0 ≤ n → n < 2 ^ j → k.wrap n = n) (x y : Int) (h0 : 0 ≤ x) (h1 : x < 2 ^ j) (h2 : 0 ≤ y) (h3 : y < 2 ^ j) : bits .or k x y = bits .or k y x := by
  obtain ⟨a, rfl⟩ := Int.eq_ofNat_of_zero_le h0
  obtain ⟨b, rfl⟩ := Int.eq_ofNat_of_zero_le h2
  rw [(bits_nat k j hj hk a b (by exact_mod_cast h1) (by exact_mod_cast h3)).2, (bits_nat k j hj hk b a (by exact_mod_cast h3) (by exact_mod_cast h1)).2, Nat.or_comm]
theorem pow256 (k : Nat) : (256 : Int) ^ k = 2 ^ (8 * k) := by rw [Int.pow_mul]; rfl
/-- a byte laid above what is there -/
theorem or_above (a x : Int) (k : Nat) (hk : k ≤ 7) (h0 : 0 ≤ a) (h1 : a < 256 ^ k) (h2 : 0 ≤ x) (h3 : x ≤ 255) : bits .or .u64 a (IntKind.u64.wrap (x * 2 ^ (8 * k))) = a + x * 256 ^ k := by
  rw [← pow256]
  have hp : (256 : Int) ^ k * 256 ≤ 2 ^ 64 := by
    rw [← Int.pow_succ]
    rcases (show k = 0 ∨ k = 1 ∨ k = 2 ∨ k = 3 ∨ k = 4 ∨ k = 5 ∨ k = 6 ∨ k = 7 by omega) with rfl | rfl | rfl | rfl | rfl | rfl | rfl | rfl <;> decide
  have hpos : (0 : Int) < 256 ^ k := Int.pow_pos (by decide)
  have hx : x * 256 ^ k ≤ 255 * 256 ^ k := Int.mul_le_mul_of_nonneg_right h3 (by omega)
  have hx0 : 0 ≤ x * 256 ^ k := Int.mul_nonneg h2 (by omega)
  rw [wraps_u64 (x * 256 ^ k) hx0 (by omega), or_comm_nat .u64 64 (by decide) wraps_u64 a (x * 256 ^ k) h0 (by omega) hx0 (by omega)]
  rw [bits_join .u64 64 (by decide) wraps_u64 (8 * k) (x * 256 ^ k) a hx0 (by rw [← pow256]; exact Int.mul_emod_left _ _) (by omega) h0 (by rw [← pow256]; exact h1) (by omega), Int.add_comm]

theorem little_step (xs : List Int) (h : B8 xs) (k : Nat) (hk : k < xs.length) (h7 : k ≤ 7) :
    bits .or .u64 (littleN (xs.take k)) (IntKind.u64.wrap (gI xs k * 2 ^ (8 * k))) = littleN (xs.take (k + 1)) := by
  have hb := littleN_bound (xs.take k) (h.take k)
  have hl : (xs.take k).length = k := by rw [List.length_take]; omega
  rw [hl] at hb
  have hx := h.get k
  rw [or_above _ _ k h7 hb.1 hb.2 hx.1 hx.2, take_snoc xs k hk, littleN_snoc, hl]

end Go.Proofs.Ytikpakhccmdmcaa
