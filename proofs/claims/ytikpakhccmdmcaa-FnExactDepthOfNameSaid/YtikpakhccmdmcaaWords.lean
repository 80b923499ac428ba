/- Mixing of blocks into a state, in plain words. No condition. -/
import Derived.Test.YtikpakhccmdmcaaNum
namespace Go.Proofs.Ytikpakhccmdmcaa
open Go.RowKit
set_option linter.unusedVariables false
set_option linter.unusedSimpArgs false

/-- words of 32 bits -/
def U32 (xs : List Int) : Prop := ∀ x ∈ xs, 0 ≤ x ∧ x ≤ 4294967295
theorem U32.get {xs : List Int} (h : U32 xs) (i : Nat) : 0 ≤ gI xs i ∧ gI xs i ≤ 4294967295 := by
  unfold gI
  by_cases hi : i < xs.length
  · have := h (xs[i]) (List.getElem_mem hi); simpa [List.getD_eq_getElem?_getD, List.getElem?_eq_getElem hi] using this
  · simp [List.getD_eq_getElem?_getD, List.getElem?_eq_none (by omega : xs.length ≤ i)]
theorem U32.set {xs : List Int} (h : U32 xs) (i : Nat) {x : Int} (hx : 0 ≤ x ∧ x ≤ 4294967295) : U32 (xs.set i x) := by
  intro y hy
  rcases List.mem_or_eq_of_mem_set hy with hy | rfl
  · exact h y hy
  · exact hx
theorem gI_set (xs : List Int) (i j : Nat) (x : Int) (hi : i < xs.length) : gI (xs.set i x) j = if i = j then x else gI xs j := by
  unfold gI
  simp only [List.getD_eq_getElem?_getD, List.getElem?_set, hi, if_true]
  split <;> simp
theorem set_same (xs : List Int) (i : Nat) (h : i < xs.length) : xs.set i (gI xs i) = xs := by
  rw [gI_lt h]; exact List.set_getElem_self h
theorem mod32 (x : Int) : 0 ≤ x % 4294967296 ∧ x % 4294967296 ≤ 4294967295 := by omega
theorem bits32 (op : BinOp) (x y : Int) : 0 ≤ bits op .u32 x y ∧ bits op .u32 x y ≤ 4294967295 := by
  have h : ∀ z, 0 ≤ IntKind.u32.wrap z ∧ IntKind.u32.wrap z ≤ 4294967295 := fun z => by rw [IntKind.wrap_u32]; omega
  unfold bits
  exact h _
@[irreducible] def turn7 (x : Int) : Int := bits .or .u32 (x * 128 % 4294967296) (x / 33554432)
@[irreducible] def turn13 (x : Int) : Int := bits .or .u32 (x * 8192 % 4294967296) (x / 524288)
/-- word i of a block -/
def word (b : List Int) (i : Nat) : Int := littleN ((b.drop (4 * i)).take 4)
@[irreducible] def words (b : List Int) : List Int := (List.range 8).map (word b)
/-- one step of the mixing -/
@[irreducible] def mixStep (m : List Int) (r i : Nat) (s : List Int) : List Int :=
  s.set i ((bits .xor .u32 (turn7 ((gI s i + gI m ((i + 3 * r) % 8) + 2654435769 * (8 * (r : Int) + (i : Int) + 1)) % 4294967296)) (gI s ((i + 1) % 8)) + turn13 (gI s ((i + 5) % 8))) % 4294967296)
def mixInR (m : List Int) (r : Nat) : Nat → List Int → List Int
  | 0, s => s
  | i + 1, s => mixStep m r i (mixInR m r i s)
@[irreducible] def mixIn (m : List Int) (r i : Nat) (s : List Int) : List Int := mixInR m r i s
def mixOutR (m : List Int) : Nat → List Int → List Int
  | 0, s => s
  | r + 1, s => mixIn m r 8 (mixOutR m r s)
@[irreducible] def mixOut (m : List Int) (r : Nat) (s : List Int) : List Int := mixOutR m r s
def xorInR (st : List Int) : Nat → List Int → List Int
  | 0, s => s
  | i + 1, s => (xorInR st i s).set i (bits .xor .u32 (gI (xorInR st i s) i) (gI st i))
@[irreducible] def xorIn (st : List Int) (i : Nat) (s : List Int) : List Int := xorInR st i s
theorem mixIn_zero (m : List Int) (r : Nat) (s : List Int) : mixIn m r 0 s = s := by unfold mixIn; rfl
theorem mixIn_succ (m : List Int) (r i : Nat) (s : List Int) : mixIn m r (i + 1) s = mixStep m r i (mixIn m r i s) := by unfold mixIn; rfl
theorem mixOut_zero (m s : List Int) : mixOut m 0 s = s := by unfold mixOut; rfl
theorem mixOut_succ (m : List Int) (r : Nat) (s : List Int) : mixOut m (r + 1) s = mixIn m r 8 (mixOut m r s) := by unfold mixOut; rfl
theorem xorIn_zero (st s : List Int) : xorIn st 0 s = s := by unfold xorIn; rfl
theorem xorIn_succ (st : List Int) (i : Nat) (s : List Int) : xorIn st (i + 1) s = (xorIn st i s).set i (bits .xor .u32 (gI (xorIn st i s) i) (gI st i)) := by unfold xorIn; rfl
/-- a block mixed into a state -/
@[irreducible] def mixL (st b : List Int) : List Int := xorIn st 8 (mixOut (words b) 12 st)
theorem words_eq (b : List Int) : words b = (List.range 8).map (word b) := by rw [words]
theorem words_length (b : List Int) : (words b).length = 8 := by simp [words]
theorem mixStep_length (m : List Int) (r i : Nat) (s : List Int) : (mixStep m r i s).length = s.length := by simp [mixStep]
theorem mixIn_length (m : List Int) (r i : Nat) (s : List Int) : (mixIn m r i s).length = s.length := by
  induction i with
  | zero => rw [mixIn_zero]
  | succ i ih => simp [mixIn_succ, mixStep_length, ih]
theorem mixOut_length (m : List Int) (r : Nat) (s : List Int) : (mixOut m r s).length = s.length := by
  induction r with
  | zero => rw [mixOut_zero]
  | succ r ih => rw [mixOut_succ, mixIn_length, ih]
theorem xorIn_length (st : List Int) (i : Nat) (s : List Int) : (xorIn st i s).length = s.length := by
  induction i with
  | zero => rw [xorIn_zero]
  | succ i ih => simp [xorIn_succ, ih]
theorem mixIn_ok (m : List Int) (r i : Nat) (s : List Int) (h : U32 s) : U32 (mixIn m r i s) := by
  induction i with
  | zero => rwa [mixIn_zero]
  | succ i ih => rw [mixIn_succ, mixStep]; exact ih.set _ (mod32 _)
theorem mixOut_ok (m : List Int) (r : Nat) (s : List Int) (h : U32 s) : U32 (mixOut m r s) := by
  induction r with
  | zero => rwa [mixOut_zero]
  | succ r ih => rw [mixOut_succ]; exact mixIn_ok _ _ _ _ ih
theorem xorIn_ok (st : List Int) (i : Nat) (s : List Int) (h : U32 s) : U32 (xorIn st i s) := by
  induction i with
  | zero => rwa [xorIn_zero]
  | succ i ih => rw [xorIn_succ]; exact ih.set _ (bits32 _ _ _)
theorem mixL_length (st b : List Int) (h : st.length = 8) : (mixL st b).length = 8 := by simp [mixL, xorIn_length, mixOut_length, h]
theorem mixL_ok (st b : List Int) (h : U32 st) : U32 (mixL st b) := by rw [mixL]; exact xorIn_ok _ _ _ (mixOut_ok _ _ _ h)
/-- the state of a tag -/
@[irreducible] def startL (tag : Int) : List Int := (List.range 8).map fun (i : Nat) => 16777619 * ((i : Int) + 1) + tag
theorem startL_length (tag : Int) : (startL tag).length = 8 := by simp [startL]
theorem startL_ok (tag : Int) (h : 0 ≤ tag ∧ tag ≤ 255) : U32 (startL tag) := by
  intro x hx
  rw [startL] at hx
  obtain ⟨i, hi, rfl⟩ := List.mem_map.1 hx
  have := List.mem_range.1 hi
  omega
theorem mapRange_set (f : Nat → Int) (n i : Nat) (h : i < n) : ((List.range i).map f ++ List.replicate (n - i) 0).set i (f i) = (List.range (i + 1)).map f ++ List.replicate (n - (i + 1)) 0 := by
  obtain ⟨k, rfl⟩ : ∃ k, n = i + 1 + k := ⟨n - (i + 1), by omega⟩
  rw [show i + 1 + k - i = k + 1 by omega, show i + 1 + k - (i + 1) = k by omega, List.range_succ, List.map_append, List.replicate_succ]
  rw [List.set_append_right _ _ (by simp)]
  simp

end Go.Proofs.Ytikpakhccmdmcaa
