/- Names, and their priorities. No condition. -/
import Derived.Test.YtbngjhppngohaaaKeyFns
import Derived.Test.YtbngjhppngohaaaStrs
namespace Go.Proofs.Ytbngjhppngohaaa
open Go.RowKit
set_option linter.unusedVariables false
set_option linter.unusedSimpArgs false

/-- a text that is a name -/
@[irreducible] def nameB (s : ByteArray) : Bool := decide (1 ≤ (s.size : Int)) && decide ((s.size : Int) ≤ 24)
theorem nameB_eq (s : ByteArray) : nameB s = (decide (1 ≤ (s.size : Int)) && decide ((s.size : Int) ≤ 24)) := by rw [nameB]
set_option maxHeartbeats 1000000 in
set_option maxRecDepth 100000 in
theorem l04Name_any (s : ByteArray) (hs : s.size ≤ 140737488351232) (w : World) : Calls Try.prog 59 #[.string s] w fun e w' => e = .returned (.bool (nameB s)) ∧ w = w' := by
  have H := Lib.hid (nameB_eq s)
  go_enter Try.func59, Try.ntmps59
  go_wp2_with fail
  refine (l00In_any s.size 1 24 _).mono ?_
  rintro e w' ⟨rfl, rfl⟩
  rw [← H.out]
  go_wp2
  go_ret
  exact ⟨rfl, rfl⟩
set_option maxHeartbeats 1000000 in
set_option maxRecDepth 100000 in
theorem isName_any (s : ByteArray) (hs : s.size ≤ 140737488351232) (w : World) : Calls Try.prog 61 #[.string s] w fun e w' => e = .returned (.bool (nameB s)) ∧ w = w' := by
  have H := Lib.hid (nameB_eq s)
  go_enter Try.func61, Try.ntmps61
  go_wp2_with fail
  refine (within_any s.size 1 24 _).mono ?_
  rintro e w' ⟨rfl, rfl⟩
  rw [← H.out]
  go_wp2
  go_ret
  exact ⟨rfl, rfl⟩
def prioL (s : ByteArray) : List Int := hashL 4 (strL s)
theorem prioL_ok (s : ByteArray) : K32 (prioL s) := hashL_ok _ _
theorem prioL_eq (s : ByteArray) : prioL s = hashL 4 (strL s) := rfl
attribute [irreducible] prioL
set_option maxHeartbeats 1000000 in
set_option maxRecDepth 100000 in
theorem l04Priority_any (s : ByteArray) (hs : s.size ≤ 1048576) (w : World) : Calls Try.prog 60 #[.string s] w fun e w' => e = .returned (.agg (numsA .u8 (prioL s))) ∧ Ext w w' := by
  have hk := (prioL_ok s).1
  go_enter Try.func60, Try.ntmps60
  go_wp2_with (refine wpl_conv Try.underlying9 Try.underlying42 Try.underlying5 rfl _ rfl rfl (by omega) ?_; intro A1 c1 w1 hr hx; have HR := Lib.hid hr; have HX := Lib.hid hx; clear hr hx)
  refine (l01Hash_any 4 (by decide) _ (strL s) _ _ HR.out (by rw [strL_length]; omega)).mono ?_
  rw [← prioL_eq]
  rintro e w2 ⟨rfl, hx⟩
  have HB := Lib.hid (((Blk.new w 28 _).ext HX.out).ext hx)
  have HX2 := Lib.hid (((ext_alloc w _).trans HX.out).trans hx)
  clear hx
  go_wp2_with (refine wpl_storeN HB.out aggKey hk rfl rfl _ _ rfl rfl rfl rfl ?_)
  refine bodyPost_ret (results_blk rfl _ rfl aggKey hk (HB.out.setRow _)) rfl ?_
  exact ⟨rfl, HX2.out.setRow (Nat.le_refl _) _⟩
/-- the priority and the code -/
def prioR (s : ByteArray) : List Int × Int := if nameB s then (prioL s, 0) else (List.replicate 32 0, 1)
theorem zero_ok : K32 (List.replicate 32 0) := ⟨by simp, replicate_ok _⟩
theorem prioR_ok (s : ByteArray) : K32 (prioR s).1 := by unfold prioR; split; exact prioL_ok s; exact zero_ok
set_option maxHeartbeats 1000000 in
set_option maxRecDepth 100000 in
theorem specPriorityOf_any (s : ByteArray) (hs : s.size ≤ 1048576) (w : World) : Calls Try.prog 23 #[.string s] w fun e w' => e = .returned (.tuple #[.agg (numsA .u8 (prioR s).1), .int .i64 (prioR s).2]) ∧ Ext w w' := by
  have hk := (prioL_ok s).1
  have hn := l04Name_any s (by omega)
  cases hb : nameB s with
  | true =>
    simp only [hb] at hn
    simp only [prioR, hb, if_true]
    clear hb
    go_enter Try.func23, Try.ntmps23
    go_wp2_with fail
    refine (hn _).mono ?_
    rintro e w' ⟨rfl, rfl⟩
    go_wp2_with fail
    refine (l04Priority_any s hs _).mono ?_
    rintro e w1 ⟨rfl, hx⟩
    have HB := Lib.hid ((Blk.new w 28 _).ext hx)
    have HX := Lib.hid ((ext_alloc w _).trans hx)
    clear hx
    go_wp2_with (refine wpl_storeN HB.out aggKey hk rfl rfl _ _ rfl rfl rfl rfl ?_)
    refine bodyPost_ret (results_blk2 rfl _ rfl aggKey hk (HB.out.setRow _) rfl) rfl ?_
    exact ⟨rfl, HX.out.setRow (Nat.le_refl _) _⟩
  | false =>
    simp only [hb] at hn
    simp only [prioR, hb, Bool.false_eq_true, if_false]
    clear hb
    go_enter Try.func23, Try.ntmps23
    go_wp2_with fail
    refine (hn _).mono ?_
    rintro e w' ⟨rfl, rfl⟩
    go_wp2_with (refine wpl_storeNew (xs := List.replicate 32 0) aggKey rfl rfl rfl _ _ rfl rfl rfl rfl ?_)
    refine bodyPost_ret (results_blk2 rfl _ rfl aggKey rfl (Blk.new w _ _) rfl) rfl ?_
    exact ⟨rfl, ext_alloc _ _⟩
set_option maxHeartbeats 1000000 in
set_option maxRecDepth 100000 in
theorem implPriorityOf_any (s : ByteArray) (hs : s.size ≤ 1048576) (w : World) : Calls Try.prog 24 #[.string s] w fun e w' => e = .returned (.tuple #[.agg (numsA .u8 (prioR s).1), .int .i64 (prioR s).2]) ∧ Ext w w' := by
  have hk := (prioL_ok s).1
  have hn := isName_any s (by omega)
  cases hb : nameB s with
  | true =>
    simp only [hb] at hn
    simp only [prioR, hb, if_true]
    clear hb
    go_enter Try.func24, Try.ntmps24
    go_wp2_with fail
    refine (hn _).mono ?_
    rintro e w' ⟨rfl, rfl⟩
    go_wp2_with (refine wpl_conv Try.underlying9 Try.underlying42 Try.underlying5 rfl _ rfl rfl (by omega) ?_; intro A1 c1 w1 hr hx; have HR := Lib.hid hr; have HX := Lib.hid hx; clear hr hx)
    refine (hash_any 4 (by decide) _ (strL s) _ _ HR.out (by rw [strL_length]; omega)).mono ?_
    rw [← prioL_eq]
    rintro e w2 ⟨rfl, hx⟩
    have HB := Lib.hid (((Blk.new w 28 _).ext HX.out).ext hx)
    have HX2 := Lib.hid (((ext_alloc w _).trans HX.out).trans hx)
    clear hx
    go_wp2_with (refine wpl_storeN HB.out aggKey hk rfl rfl _ _ rfl rfl rfl rfl ?_)
    refine bodyPost_ret (results_blk2 rfl _ rfl aggKey hk (HB.out.setRow _) rfl) rfl ?_
    exact ⟨rfl, HX2.out.setRow (Nat.le_refl _) _⟩
  | false =>
    simp only [hb] at hn
    simp only [prioR, hb, Bool.false_eq_true, if_false]
    clear hb
    go_enter Try.func24, Try.ntmps24
    go_wp2_with fail
    refine (hn _).mono ?_
    rintro e w' ⟨rfl, rfl⟩
    go_wp2_with (refine wpl_storeNew (xs := List.replicate 32 0) aggKey rfl rfl rfl _ _ rfl rfl rfl rfl ?_)
    refine bodyPost_ret (results_blk2 rfl _ rfl aggKey rfl (Blk.new w _ _) rfl) rfl ?_
    exact ⟨rfl, ext_alloc _ _⟩

end Go.Proofs.Ytbngjhppngohaaa
