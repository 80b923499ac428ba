/- The key of bytes, in plain words. No condition. -/
import Derived.Test.YtikpakhccmdmcaaWords
namespace Go.Proofs.Ytikpakhccmdmcaa
open Go.RowKit
set_option linter.unusedVariables false
set_option linter.unusedSimpArgs false

theorem fill_step (xs : List Int) (n k : Nat) (hk : k < n) (hl : xs.length = n) : (xs.take k ++ List.replicate (n - k) 0).set k (gI xs k) = xs.take (k + 1) ++ List.replicate (n - (k + 1)) 0 := by
  obtain ⟨m, hm⟩ : ∃ m, n = k + 1 + m := ⟨n - (k + 1), by omega⟩
  have h1 : (xs.take k).length = k := by rw [List.length_take]; omega
  rw [List.set_append_right _ _ (by omega), h1, Nat.sub_self, show n - k = m + 1 by omega, show n - (k + 1) = m by omega, List.replicate_succ, List.set_cons_zero]
  rw [List.take_succ_eq_append_getElem (by omega), ← gI_lt (by omega), List.append_assoc]
  rfl
@[irreducible] def padZ (n : Nat) : Nat := (55 - n % 32) % 32
theorem padZ_eq (n : Nat) : padZ n = (55 - n % 32) % 32 := by unfold padZ; rfl
@[irreducible] def bytesLE (n : Int) (k : Nat) : List Int := (List.range k).map fun i => n / 256 ^ i % 256
theorem bytesLE_zero (n : Int) : bytesLE n 0 = [] := by simp [bytesLE]
theorem bytesLE_succ (n : Int) (k : Nat) : bytesLE n (k + 1) = bytesLE n k ++ [n / 256 ^ k % 256] := by simp [bytesLE, List.range_succ]
theorem bytesLE_length (n : Int) (k : Nat) : (bytesLE n k).length = k := by simp [bytesLE]
theorem bytesLE_ok (n : Int) (k : Nat) : B8 (bytesLE n k) := by
  intro x hx
  rw [bytesLE] at hx
  obtain ⟨i, _, rfl⟩ := List.mem_map.1 hx
  omega
/-- what stands behind the bytes -/
@[irreducible] def padL (n : Nat) (len : Int) : List Int := [128] ++ List.replicate (padZ n) 0 ++ bytesLE len 8
theorem padL_eq (n : Nat) (len : Int) : padL n len = [128] ++ List.replicate (padZ n) 0 ++ bytesLE len 8 := by rw [padL]
theorem padL_length (n : Nat) (len : Int) : (padL n len).length = padZ n + 9 := by rw [padL]; simp only [List.length_append, List.length_cons, List.length_nil, List.length_replicate, bytesLE_length]; omega
theorem replicate_ok (z : Nat) : B8 (List.replicate z (0 : Int)) := by
  intro x hx
  obtain rfl := (List.mem_replicate.1 hx).2
  omega
theorem padL_ok (n : Nat) (len : Int) : B8 (padL n len) := by
  rw [padL]
  exact ((show B8 [128] from fun x hx => by simp at hx; omega).append (replicate_ok _)).append (bytesLE_ok _ _)
/-- a block -/
@[irreducible] def blockL (all : List Int) (i : Nat) : List Int := (all.drop (32 * i)).take 32
theorem blockL_eq (all : List Int) (i : Nat) : blockL all i = (all.drop (32 * i)).take 32 := by rw [blockL]
theorem blockL_ok (all : List Int) (i : Nat) (h : B8 all) (hi : 32 * i + 32 ≤ all.length) : K32 (blockL all i) := by
  rw [blockL]
  exact ⟨by simp; omega, (h.drop _).take _⟩
def blocksL (all : List Int) (n : Nat) : List (List Int) := (List.range n).map (blockL all)
theorem blocksL_succ (all : List Int) (n : Nat) : blocksL all (n + 1) = blocksL all n ++ [blockL all n] := by simp [blocksL, List.range_succ]
/-- n blocks mixed in -/
def mixNR (all st : List Int) : Nat → List Int
  | 0 => st
  | n + 1 => mixL (mixNR all st n) (blockL all n)
@[irreducible] def mixN (all st : List Int) (n : Nat) : List Int := mixNR all st n
theorem mixN_zero (all st : List Int) : mixN all st 0 = st := by unfold mixN; rfl
theorem mixN_succ (all st : List Int) (n : Nat) : mixN all st (n + 1) = mixL (mixN all st n) (blockL all n) := by unfold mixN; rfl
theorem mixN_length (all st : List Int) (n : Nat) (h : st.length = 8) : (mixN all st n).length = 8 := by
  induction n with
  | zero => rwa [mixN_zero]
  | succ n ih => rw [mixN_succ]; exact mixL_length _ _ ih
theorem mixN_ok (all st : List Int) (n : Nat) (h : U32 st) : U32 (mixN all st n) := by
  induction n with
  | zero => rwa [mixN_zero]
  | succ n ih => rw [mixN_succ]; exact mixL_ok _ _ ih
/-- the key of a state -/
@[irreducible] def keyL (s : List Int) : List Int := (List.range 32).map fun i => gI s (i / 4) / 2 ^ (8 * (i % 4)) % 256
theorem keyL_length (s : List Int) : (keyL s).length = 32 := by simp [keyL]
theorem keyL_at (s : List Int) (k : Nat) (h : k < 32) : gI (keyL s) k = gI s (k / 4) / 2 ^ (8 * (k % 4)) % 256 := by
  rw [gI_lt (by rw [keyL_length]; exact h)]
  simp [keyL]
theorem keyL_ok (s : List Int) : K32 (keyL s) := by
  refine ⟨keyL_length s, fun x hx => ?_⟩
  rw [keyL] at hx
  obtain ⟨i, _, rfl⟩ := List.mem_map.1 hx
  omega
/-- the key behind a state and what is left of the bytes -/
@[irreducible] def endL (st held : List Int) (len : Int) : List Int := keyL (mixN (held ++ padL held.length len) st ((held.length + padZ held.length + 9) / 32))
@[irreducible] def hashL (tag : Int) (data : List Int) : List Int := endL (startL tag) data data.length
theorem endL_ok (st held : List Int) (len : Int) : K32 (endL st held len) := by rw [endL]; exact keyL_ok _
theorem hashL_ok (tag : Int) (data : List Int) : K32 (hashL tag data) := by rw [hashL]; exact endL_ok _ _ _
theorem padded_mod (n : Nat) : (n + padZ n + 9) % 32 = 0 := by rw [padZ_eq]; omega

end Go.Proofs.Ytikpakhccmdmcaa
