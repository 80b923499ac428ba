/- Whether two blobs are equal: the reference and the program. No condition. -/
import Derived.Test.YtepmhononinbkaaBlob
import Derived.Deep.RegionWith
namespace Go.Proofs.Ytepmhononinbkaa
open Go.RowKit
set_option linter.unusedVariables false
set_option linter.unusedSimpArgs false

theorem strOf_eq {xs ys : List Int} (hx : B8 xs) (hy : B8 ys) : ((strOfNums xs).toList == (strOfNums ys).toList) = (xs == ys) := by
  rw [ByteArray.toList_eq, ByteArray.toList_eq, Bool.eq_iff_iff, beq_iff_eq, beq_iff_eq]
  constructor
  · intro h
    have h1 : xs.map (fun n => UInt8.ofNat n.toNat) = ys.map (fun n => UInt8.ofNat n.toNat) := h
    clear h
    induction xs generalizing ys with
    | nil => cases ys with
      | nil => rfl
      | cons y r => simp at h1
    | cons x r ih =>
      cases ys with
      | nil => simp at h1
      | cons y q =>
        simp only [List.map_cons, List.cons.injEq] at h1
        have a := hx x (by simp)
        have b := hy y (by simp)
        have e := congrArg UInt8.toNat h1.1
        simp only [UInt8.toNat_ofNat'] at e
        have : x = y := by omega
        rw [this, ih (fun z hz => hx z (by simp [hz])) (fun z hz => hy z (by simp [hz])) h1.2]
  · rintro rfl
    rfl
theorem conv_str {v : Value} {xs : List Int} {w : World} {S : Nat → Prop} (h : RdL tByte w S v xs) : (convert 22 9 v).run Try.prog w = .ok (.string (strOfNums xs)) w := by
  obtain ⟨A, cap, rfl, hcap, hlen, hrd, hok⟩ := h
  rw [flat_bytes] at hrd
  rcases Nat.eq_zero_or_pos xs.length with h0 | h0
  · obtain rfl : xs = [] := List.eq_nil_of_length_eq_zero h0
    rw [run_convert_bytes_string w _ _ _ A _ cap Try.underlying22 Try.underlying5 Try.underlying9]
    cases A <;> simp [Conv.bytesToString, loadCells] <;> rfl
  · obtain ⟨g, o, rfl, _, hc⟩ := hrd.2 h0
    exact run_convert_bytes_arg w _ _ Try.underlying22 Try.underlying5 g o xs.length cap xs rfl (fun i hi => hc i _ (nums_at _ _ _ hi)) _ Try.underlying9

set_option maxHeartbeats 400000 in
theorem bytesEqual_any (v u : Value) (xs ys : List Int) (w : World) (S S' : Nat → Prop) (h : RdL tByte w S v xs) (h' : RdL tByte w S' u ys) :
    Calls Try.prog 84 #[v, u] w fun e w' => e = .returned (.bool (xs == ys)) ∧ w' = w := by
  have e1 := conv_str h
  have e2 := conv_str h'
  obtain ⟨A, cap, rfl, _, _, _, hok⟩ := h
  obtain ⟨A', cap', rfl, _, _, _, hok'⟩ := h'
  have he := Lib.hid (strOf_eq hok hok')
  go_enter Try.func84, Try.ntmps84
  go_wp2
  go_ret
  exact ⟨by rw [← he.out]; rfl, rfl⟩

set_option maxHeartbeats 1000000 in
theorem l05SameBlob_any (g o g' o' : Nat) (t u : Int) (v v' : Value) (xs ys : List Int) (w : World) (S S' : Nat → Prop) (h : RdL tByte w S v xs) (h' : RdL tByte w S' v' ys)
    (ha0 : w.cell? ⟨g, o, none⟩ = some (.int .u8 t)) (ha1 : w.cell? ⟨g, o + 1, none⟩ = some v) (hb0 : w.cell? ⟨g', o', none⟩ = some (.int .u8 u)) (hb1 : w.cell? ⟨g', o' + 1, none⟩ = some v') :
    Calls Try.prog 83 #[.pointer (some ⟨g, o, none⟩), .pointer (some ⟨g', o', none⟩)] w fun e w' => e = .returned (.bool (t == u && xs == ys)) ∧ Drawn w w' := by
  obtain ⟨A, cap, rfl, _, _⟩ := id h
  obtain ⟨A', cap', rfl, _, _⟩ := id h'
  have hc := fun n => l01Bytes_any _ _ xs ys (w.drewN n) S S' (h.ext (by decide) ((Ext.refl _).drewN n)) (h'.ext (by decide) ((Ext.refl _).drewN n))
  generalize (xs == ys) = q at hc ⊢
  have HC := Lib.hid hc
  clear hc h h'
  by_cases ht : t = u
  · subst ht
    have hne : (t == t) = true := by simp
    have hp : (t == t && q) = q := by simp
    rw [hp]
    clear hp
    go_enter Try.func83, Try.ntmps83
    go_wp2_with fail
    go_quiet ((go_at_call 149; exact Calls.quiet_of (HC.out _)))
    go_wp2_with fail
    go_ret
    exact ⟨rfl, ⟨_, rfl⟩⟩
  · have hne : (t == u) = false := by simpa using ht
    have hp : (t == u && q) = false := by simp [ht]
    rw [hp]
    clear hp ht
    go_enter Try.func83, Try.ntmps83
    go_wp2_with fail
    go_quiet (fail)
    go_wp2_with fail
    go_ret
    exact ⟨rfl, ⟨_, rfl⟩⟩

set_option maxHeartbeats 1000000 in
theorem specSameBlob_any (t u : Int) (v v' : Value) (xs ys : List Int) (w : World) (S S' : Nat → Prop) (h : RdL tByte w S v xs) (h' : RdL tByte w S' v' ys) :
    Calls Try.prog 20 #[.agg #[.int .u8 t, v], .agg #[.int .u8 u, v']] w fun e w' => e = .returned (.bool (t == u && xs == ys)) ∧ Ext w w' := by
  obtain ⟨A, cap, rfl, _, _⟩ := id h
  obtain ⟨A', cap', rfl, _, _⟩ := id h'
  have H := Lib.hid h
  have H' := Lib.hid h'
  clear h h'
  go_enter Try.func20, Try.ntmps20
  go_wp2_with fail
  refine (l05SameBlob_any _ _ _ _ t u _ _ xs ys _ S S' (H.out.ext (by decide) ((ext_alloc _ _).alloc _)) (H'.out.ext (by decide) ((ext_alloc _ _).alloc _)) (by go_simp) (by go_simp) (by go_simp) (by go_simp)).mono ?_
  rintro e w1 ⟨rfl, hD⟩
  have HD := Lib.hid hD
  clear hD
  go_wp2_with fail
  go_ret
  exact ⟨rfl, ((ext_alloc _ _).alloc _).trans HD.out.ext⟩

set_option maxHeartbeats 1000000 in
theorem implSameBlob_any (t u : Int) (v v' : Value) (xs ys : List Int) (w : World) (S S' : Nat → Prop) (h : RdL tByte w S v xs) (h' : RdL tByte w S' v' ys) :
    Calls Try.prog 21 #[.agg #[.int .u8 t, v], .agg #[.int .u8 u, v']] w fun e w' => e = .returned (.bool (t == u && xs == ys)) ∧ Ext w w' := by
  obtain ⟨A, cap, rfl, _, _⟩ := id h
  obtain ⟨A', cap', rfl, _, _⟩ := id h'
  have hc := fun a b => bytesEqual_any _ _ xs ys ((w.alloc a).alloc b) S S' (h.ext (by decide) ((ext_alloc w a).alloc b)) (h'.ext (by decide) ((ext_alloc w a).alloc b))
  generalize (xs == ys) = q at hc ⊢
  have HC := Lib.hid hc
  clear hc h h'
  by_cases ht : t = u
  · subst ht
    have hne : (t == t) = true := by simp
    have hp : (t == t && q) = q := by simp
    rw [hp]
    clear hp
    go_enter Try.func21, Try.ntmps21
    go_wp2_with (go_at_call 84; refine (HC.out _ _).mono ?_; rintro e w' ⟨rfl, rfl⟩)
    go_ret
    exact ⟨rfl, (ext_alloc _ _).alloc _⟩
  · have hne : (t == u) = false := by simpa using ht
    have hp : (t == u && q) = false := by simp [ht]
    rw [hp]
    clear hp ht
    go_enter Try.func21, Try.ntmps21
    go_wp2_with fail
    go_ret
    exact ⟨rfl, (ext_alloc _ _).alloc _⟩

end Go.Proofs.Ytepmhononinbkaa
