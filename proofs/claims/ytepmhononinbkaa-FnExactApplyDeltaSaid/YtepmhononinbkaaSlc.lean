/- Small functions of the package slices at bytes, and of numbers. No condition. -/
import Derived.Test.YtepmhononinbkaaBytes
namespace Go.Proofs.Ytepmhononinbkaa
open Go.RowKit
set_option linter.unusedVariables false
set_option linter.unusedSimpArgs false

theorem rowByte : Row Try.prog tByte 22 5 1 := Row.mk' Try.underlying22 (.int .u8 0) (by kernel_rfl) rfl (by decide) (by decide)

set_option maxHeartbeats 400000 in
theorem cloneB_any (v : Value) (xs : List Int) (w : World) (S : Nat → Prop) (h : RdL tByte w S v xs) (hl : xs.length * 1 ≤ 140737488351232) :
    Calls Try.prog 88 #[v] w fun e w' => ∃ v', e = .returned v' ∧ Own tByte 5 w' w.heap.size v' xs ∧ Ext w w' := by
  obtain ⟨A, cap, rfl, hcap, hlen, hrd, hok⟩ := h
  have Hrd := Lib.hid hrd
  have Hok := Lib.hid hok
  clear hrd hok
  rcases A with _ | ad
  · have h0 : xs.length = 0 := by
      rcases Nat.eq_zero_or_pos xs.length with h0 | h0
      · exact h0
      · obtain ⟨g, o, h, _⟩ := Hrd.out.2 h0
        cases h
    obtain rfl : xs = [] := List.eq_nil_of_length_eq_zero h0
    have he : ∀ W : World, (binOp .eql 22 (.slice none 0 cap) (.slice none 0 0)).run Try.prog W = .ok (.bool true) W := fun W => Lib.run_eql_slice_nil W 22 _ none 0 cap 0 0 Try.underlying22
    go_enter Try.func88, Try.ntmps88
    go_wp2_with fail
    go_ret
    exact ⟨_, rfl, Own.nil _ _ _ _, Ext.refl _⟩
  · have he : ∀ W : World, (binOp .eql 22 (.slice (some ad) xs.length cap) (.slice none 0 0)).run Try.prog W = .ok (.bool false) W := fun W => Lib.run_eql_slice_nil W 22 _ (some ad) xs.length cap 0 0 Try.underlying22
    go_enter Try.func88, Try.ntmps88
    go_wp2_with (at_builtin; refine wpl_append rowByte rfl _ _ rfl rfl (Own.empty tByte _ 5 w.heap.size (Nat.le_refl _)) _ _ rfl rfl (Hrd.out.ext (by decide) (ext_alloc _ _)) Hok.out (by simp; omega) (by simp) ?_; intro v1 w1 ho1 hg1 hat1; obtain ⟨A1, c1, rfl⟩ := ho1.shape; have HO := Lib.hid ho1; have HG := Lib.hid hg1; clear ho1 hg1 hat1)
    go_ret
    exact ⟨_, rfl, HO.out, (ext_alloc _ _).grown HG.out (fun k hk => Nat.le_of_eq (Option.some.inj hk))⟩


/-! ### numbers -/
set_option maxHeartbeats 400000 in
theorem l00In_any (n a b : Int) (w : World) : Calls Try.prog 85 #[.int .i64 n, .int .i64 a, .int .i64 b] w fun e w' => e = .returned (.bool (decide (a ≤ n) && decide (n ≤ b))) ∧ w = w' := by
  by_cases h : a ≤ n
  · have h1 : decide (a ≤ n) = true := by simpa using h
    simp only [h1, Bool.true_and]
    go_enter Try.func85, Try.ntmps85
    go_wp2
    go_ret
    exact ⟨rfl, rfl⟩
  · have h1 : decide (a ≤ n) = false := by simpa using h
    simp only [h1, Bool.false_and]
    go_enter Try.func85, Try.ntmps85
    go_wp2
    go_ret
    exact ⟨rfl, rfl⟩
set_option maxHeartbeats 400000 in
theorem within_any (n a b : Int) (w : World) : Calls Try.prog 86 #[.int .i64 n, .int .i64 a, .int .i64 b] w fun e w' => e = .returned (.bool (decide (a ≤ n) && decide (n ≤ b))) ∧ w = w' := by
  by_cases h : a ≤ n
  · have h1 : decide (a ≤ n) = true := by simpa using h
    simp only [h1, Bool.true_and]
    go_enter Try.func86, Try.ntmps86
    go_wp2
    go_ret
    exact ⟨rfl, rfl⟩
  · have h1 : decide (a ≤ n) = false := by simpa using h
    simp only [h1, Bool.false_and]
    go_enter Try.func86, Try.ntmps86
    go_wp2
    go_ret
    exact ⟨rfl, rfl⟩
theorem sizeB_any (A : Option Addr) (n c : Nat) (w : World) : Calls Try.prog 87 #[.slice A n c] w fun e w' => e = .returned (.int .i64 n) ∧ w = w' := by
  go_enter Try.func87, Try.ntmps87
  go_wp2
  go_ret
  exact ⟨rfl, rfl⟩

end Go.Proofs.Ytepmhononinbkaa
