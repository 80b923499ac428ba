/- Blobs: what the laws, the reference and the program say of one. No condition. -/
import Derived.Test.YtbngjhppngohaaaBytes
import Derived.Laws.BytesArg
namespace Go.Proofs.Ytbngjhppngohaaa
open Go.RowKit
set_option linter.unusedVariables false
set_option linter.unusedSimpArgs false


set_option maxHeartbeats 400000 in
theorem szBlob_any (t : Int) (A : Option Addr) (n c : Nat) (l : Int) (hn : (n : Int) ≤ 140737488355328) (h0 : -1 ≤ l) (h1 : l ≤ 1048576) (w : World) :
    Calls Try.prog 37 #[.agg #[.int .u8 t, .slice A n c], .int .i64 l] w fun e w' => e = .returned (.int .i64 (if l - n < 0 then -1 else l - n)) ∧ Ext w w' := by
  have hc := fun W => szByteS_any A n c l hn h0 h1 W
  by_cases h : l - (n : Int) < 0
  · simp only [if_pos h] at hc ⊢
    go_enter Try.func37, Try.ntmps37
    go_wp2_with (go_at_call 70; refine (hc _).mono ?_; rintro e w' ⟨rfl, rfl⟩)
    go_ret
    exact ⟨rfl, ext_alloc _ _⟩
  · simp only [if_neg h] at hc ⊢
    go_enter Try.func37, Try.ntmps37
    go_wp2_with (go_at_call 70; refine (hc _).mono ?_; rintro e w' ⟨rfl, rfl⟩)
    go_ret
    exact ⟨rfl, ext_alloc _ _⟩

set_option maxHeartbeats 400000 in
theorem toBlob_any (t : Int) (v : Value) (xs : List Int) (w : World) (S : Nat → Prop) (h : RdL tByte w S v xs) :
    Calls Try.prog 39 #[.agg #[.int .u8 t, v]] w fun e w' => ∃ v', e = .returned (.agg #[.int .u8 t, v']) ∧ Own tByte 5 w' w.heap.size v' xs ∧ Ext w w' := by
  go_enter Try.func39, Try.ntmps39
  go_wp2_with fail
  refine (toByteS_any v xs _ S (h.ext (by decide) (((ext_alloc w _).alloc _).alloc _))).mono ?_
  rintro e w1 ⟨v', rfl, ho, hx⟩
  obtain ⟨A', c', rfl⟩ := ho.shape
  have c0 : w1.cell? ⟨w.heap.size + 1 + 1, 0, none⟩ = some (.int .u8 t) := hx.cell (by go_simp)
  have c1 : w1.cell? ⟨w.heap.size + 1 + 1, 1, none⟩ = some (.slice none 0 0) := hx.cell (by go_simp)
  have f1 : w1.frozen? ⟨w.heap.size + 1 + 1, 1, none⟩ = false := hx.free (by simp) (by go_simp)
  have d0 : w1.cell? ⟨w.heap.size + 1, 0, none⟩ = some (.int .u8 0) := hx.cell (by go_simp)
  have d1 : w1.cell? ⟨w.heap.size + 1, 1, none⟩ = some (.slice none 0 0) := hx.cell (by go_simp)
  have e0 : w1.frozen? ⟨w.heap.size + 1, 0, none⟩ = false := hx.free (by simp) (by go_simp)
  have e1 : w1.frozen? ⟨w.heap.size + 1, 1, none⟩ = false := hx.free (by simp) (by go_simp)
  have Ho := Lib.hid ho
  have Hx := Lib.hid hx
  clear ho hx
  go_wp2_with fail
  refine bodyPost_ret (v := .agg #[.int .u8 t, .slice A' xs.length c']) (by simp [results, Try.results39, go_sem, c0, c1, d0, d1, f1, e0, e1]) rfl ?_
  exact ⟨_, rfl, (((Ho.out.set_below (by simp) _).set_below (by simp) _).set_below (by simp) _).le (by simp; omega),
    (((((ext_alloc w _).alloc _).alloc _).trans Hx.out).set (by simp; omega) _ |>.set (by simp) _).set (by simp) _⟩

set_option maxHeartbeats 400000 in
theorem eqBlob_any (t u : Int) (v v' : Value) (xs ys : List Int) (w : World) (S S' : Nat → Prop) (h : RdL tByte w S v xs) (h' : RdL tByte w S' v' ys) :
    Calls Try.prog 41 #[.agg #[.int .u8 t, v], .agg #[.int .u8 u, v']] w fun e w' => e = .returned (.bool (t == u && xs == ys)) ∧ Ext w w' := by
  obtain ⟨A, cap, rfl, _, _⟩ := id h
  obtain ⟨A', cap', rfl, _, _⟩ := id h'
  have H := Lib.hid h
  have H' := Lib.hid h'
  clear h h'
  have hc := fun a b => eqByteS_any _ _ xs ys ((w.alloc a).alloc b) S S' (H.out.ext (by decide) ((ext_alloc w a).alloc b)) (H'.out.ext (by decide) ((ext_alloc w a).alloc b))
  generalize (xs == ys) = q at hc ⊢
  have HC := Lib.hid hc
  clear hc
  by_cases ht : t = u
  · subst ht
    have hne : (t != t) = false := by simp
    have hp : (t == t && q) = q := by simp
    rw [hp]
    clear hp
    go_enter Try.func41, Try.ntmps41
    go_wp2_with fail
    refine (HC.out _ _).mono ?_
    rintro e w1 ⟨rfl, hD⟩
    have HD := Lib.hid hD
    clear hD
    cases q
    all_goals
      go_wp2_with fail
      go_ret
      exact ⟨rfl, ((ext_alloc w _).alloc _).trans HD.out.ext⟩
  · have hne : (t != u) = true := by simpa using ht
    have hp : (t == u && q) = false := by simp [ht]
    rw [hp]
    clear hp ht
    go_enter Try.func41, Try.ntmps41
    go_wp2_with fail
    go_ret
    exact ⟨rfl, (ext_alloc w _).alloc _⟩

/-! ### a valid blob -/
set_option maxHeartbeats 400000 in
theorem implValidBlob_any (t : Int) (A : Option Addr) (n c : Nat) (w : World) :
    Calls Try.prog 73 #[.agg #[.int .u8 t, .slice A n c]] w fun e w' => e = .returned (.bool (decide (n ≤ 1024))) ∧ Ext w w' := by
  go_enter Try.func73, Try.ntmps73
  go_wp2
  go_ret
  exact ⟨ret_bool (by simp; omega), ext_alloc _ _⟩

end Go.Proofs.Ytbngjhppngohaaa
