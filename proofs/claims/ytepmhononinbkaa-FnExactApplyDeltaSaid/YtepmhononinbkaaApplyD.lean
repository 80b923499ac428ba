/- ApplyDelta: the reference and the program. No condition. -/
import Derived.Test.YtepmhononinbkaaApply2
namespace Go.Proofs.Ytepmhononinbkaa
open Go.RowKit
set_option linter.unusedVariables false
set_option linter.unusedSimpArgs false

set_option maxHeartbeats 1000000 in
set_option maxRecDepth 100000 in
theorem specApplyDelta_any (v u : Value) (base p : List Int) (w : World) (S S' : Nat → Prop) (h : RdL tByte w S v base) (h' : RdL tByte w S' u p) :
    Calls Try.prog 33 #[v, u] w fun e w' => ∃ v', e = .returned (.tuple #[v', .int .i64 (applyR base p).2]) ∧ Own tByte 5 w' w.heap.size v' (applyR base p).1 ∧ Ext w w' := by
  have H := Lib.hid h
  have H' := Lib.hid h'
  obtain ⟨A, cap, rfl, hcap, hlen, _⟩ := h
  obtain ⟨A', cap', rfl, hcap', hlen', _⟩ := h'
  unfold applyR
  by_cases h1 : 1024 < base.length
  · rw [if_pos (.inl h1)]
    go_enter Try.func33, Try.ntmps33
    go_wp2_with fail
    go_ret2
    exact ⟨_, rfl, Own.empty _ _ _ _ (Nat.le_refl _), ext_alloc _ _⟩
  by_cases h2 : 1024 < p.length
  · rw [if_pos (.inr h2)]
    go_enter Try.func33, Try.ntmps33
    go_wp2_with fail
    go_ret2
    exact ⟨_, rfl, Own.empty _ _ _ _ (Nat.le_refl _), ext_alloc _ _⟩
  rw [if_neg (by omega)]
  have hc := l06Apply_any _ _ base p w S S' H.out H'.out (by omega) (by omega)
  obtain ⟨R, hR⟩ : ∃ R, applyL base p [] = R := ⟨_, rfl⟩
  obtain ⟨R, c⟩ := R
  rw [hR] at hc ⊢
  have HC := Lib.hid hc
  clear hR hc
  go_enter Try.func33, Try.ntmps33
  go_wp2_with fail
  refine HC.out.mono ?_
  rintro e w1 ⟨v1, rfl, ho, hx⟩
  obtain ⟨A1, n1, c1, rfl⟩ := ho.shape3
  have HO := Lib.hid ho
  have HX := Lib.hid hx
  clear ho hx
  go_wp2_with fail
  go_ret2
  exact ⟨_, rfl, HO.out, HX.out⟩

set_option maxHeartbeats 1000000 in
set_option maxRecDepth 100000 in
theorem implApplyDelta_any (v u : Value) (base p : List Int) (w : World) (S S' : Nat → Prop) (h : RdL tByte w S v base) (h' : RdL tByte w S' u p) :
    Calls Try.prog 34 #[v, u] w fun e w' => ∃ v', e = .returned (.tuple #[v', .int .i64 (applyR base p).2]) ∧ Own tByte 5 w' w.heap.size v' (applyR base p).1 ∧ Ext w w' := by
  have H := Lib.hid h
  have H' := Lib.hid h'
  obtain ⟨A, cap, rfl, hcap, hlen, _⟩ := h
  obtain ⟨A', cap', rfl, hcap', hlen', _⟩ := h'
  unfold applyR
  by_cases h1 : 1024 < base.length
  · rw [if_pos (.inl h1)]
    go_enter Try.func34, Try.ntmps34
    go_wp2_with fail
    go_ret2
    exact ⟨_, rfl, Own.nil _ _ _ _, Ext.refl _⟩
  by_cases h2 : 1024 < p.length
  · rw [if_pos (.inr h2)]
    go_enter Try.func34, Try.ntmps34
    go_wp2_with fail
    go_ret2
    exact ⟨_, rfl, Own.nil _ _ _ _, Ext.refl _⟩
  rw [if_neg (by omega)]
  have hc := apply_any _ _ base p w S S' H.out H'.out (by omega) (by omega)
  obtain ⟨R, hR⟩ : ∃ R, applyL base p [] = R := ⟨_, rfl⟩
  obtain ⟨R, c⟩ := R
  rw [hR] at hc ⊢
  have HC := Lib.hid hc
  clear hR hc
  go_enter Try.func34, Try.ntmps34
  go_wp2_with fail
  refine HC.out.mono ?_
  rintro e w1 ⟨v1, rfl, ho, hx⟩
  obtain ⟨A1, n1, c1, rfl⟩ := ho.shape3
  have HO := Lib.hid ho
  have HX := Lib.hid hx
  clear ho hx
  go_wp2_with fail
  go_ret2
  exact ⟨_, rfl, HO.out, HX.out⟩

end Go.Proofs.Ytepmhononinbkaa
