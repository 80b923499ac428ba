/- The walk of the law FnExactValidBlob. No condition. -/
import Derived.Test.YtepmhononinbkaaBlob
import Derived.Deep.RegionWith
namespace Go.Proofs.Ytepmhononinbkaa
open Go.RowKit
set_option linter.unusedVariables false
set_option linter.unusedSimpArgs false

set_option maxHeartbeats 1000000 in
theorem FnExactValidBlob_any (t : Int) (v : Value) (xs : List Int) (w : World) (S : Nat → Prop) (h : RdL tByte w S v xs) :
    Calls Try.prog 3 #[.agg #[.int .u8 t, v]] w fun e w' => e = .returned (.bool true) ∧ Ext w w' := by
  obtain ⟨A, cap, rfl, _, hlen, _⟩ := id h
  have H := Lib.hid h
  clear h
  have hsz := fun W => szBlob_any t A xs.length cap 1048576 (by omega) (by omega) (by omega) W
  have hs := fun A c W => specValidBlob_any t A xs.length c W
  have hi := fun A c W => implValidBlob_any t A xs.length c W
  generalize decide (xs.length ≤ 1024) = q at hs hi
  by_cases hl : (1048576 : Int) - (xs.length : Int) < 0
  · simp only [if_pos hl] at hsz
    go_enter Try.func3, Try.ntmps3
    go_wp2_with (go_at_call 15; refine (hsz _).mono ?_; rintro e w' ⟨rfl, hx⟩; have HX := Lib.hid hx; clear hx)
    go_ret
    exact ⟨rfl, (ext_alloc w _).trans HX.out⟩
  · simp only [if_neg hl] at hsz
    go_enter Try.func3, Try.ntmps3
    go_wp2_with fail
    refine (hsz _).mono ?_
    rintro e w1 ⟨rfl, hx⟩
    have a0 : w1.cell? ⟨w.heap.size, 0, none⟩ = some (.int .u8 t) := hx.cell (by go_simp)
    have a1 : w1.cell? ⟨w.heap.size, 1, none⟩ = some (.slice A xs.length cap) := hx.cell (by go_simp)
    have X1 := Lib.hid ((ext_alloc w _).trans hx)
    have L1 : w.heap.size < w1.heap.size := by have := hx.size; simp at this; omega
    clear hx hsz
    go_wp2_with fail
    refine (toBlob_any t _ xs _ S (H.out.ext (by decide) X1.out)).mono ?_
    rintro e w2 ⟨v2, rfl, ho2, hx2⟩
    obtain ⟨A2, c2, rfl⟩ := ho2.shape
    replace a0 := hx2.cell a0
    replace a1 := hx2.cell a1
    have X2 := Lib.hid (X1.out.trans hx2)
    clear X1 hx2 ho2
    go_wp2_with fail
    refine (hs _ _ _).mono ?_
    rintro e w3 ⟨rfl, hx3⟩
    replace a0 := hx3.cell a0
    replace a1 := hx3.cell a1
    have X3 := Lib.hid (X2.out.trans hx3)
    clear X2 hx3
    go_wp2_with fail
    refine (toBlob_any t _ xs _ S (H.out.ext (by decide) X3.out)).mono ?_
    rintro e w4 ⟨v4, rfl, ho4, hx4⟩
    obtain ⟨A4, c4, rfl⟩ := ho4.shape
    replace a0 := hx4.cell a0
    replace a1 := hx4.cell a1
    have X4 := Lib.hid (X3.out.trans hx4)
    have O4 := Lib.hid ho4
    clear X3 hx4 ho4
    go_wp2_with fail
    refine (hi _ _ _).mono ?_
    rintro e w5 ⟨rfl, hx5⟩
    have b0 : w5.cell? ⟨w4.heap.size, 0, none⟩ = some (.int .u8 t) := hx5.cell (by go_simp)
    have b1 : w5.cell? ⟨w4.heap.size, 1, none⟩ = some (.slice A4 xs.length c4) := hx5.cell (by go_simp)
    have E45 := (ext_alloc w4 _).trans hx5
    replace a0 := E45.cell a0
    replace a1 := E45.cell a1
    have X5 := Lib.hid (X4.out.trans E45)
    have O5 := Lib.hid (O4.out.ext E45)
    clear X4 hx5 O4 E45
    have hq : (q != q) = false := by simp
    go_wp2_with fail
    go_region_with (first
      | (go_at_call 17; refine (toBlob_any t _ xs _ S (H.out.ext (by decide) (by exact X5.out.drew))).mono ?_; rintro e w6 ⟨v6, rfl, ho6, hx6⟩; obtain ⟨A6, c6, rfl⟩ := ho6.shape; have b0' := hx6.cell b0; have b1' := hx6.cell b1; have O6 := Lib.hid ho6; have X6 := Lib.hid (X5.out.drew.trans hx6); have O56 := Lib.hid (O5.out.ext ((Ext.refl w5).drew.trans hx6)); clear ho6 hx6)
      | (go_at_call 19; refine (eqBlob_any t t _ _ xs xs _ _ _ O56.out.rd O6.out.rd).mono ?_; rintro e w7 ⟨rfl, hx7⟩; have X7 := Lib.hid (X6.out.trans hx7); clear hx7))
    all_goals
      go_wp2_with fail
      go_ret
      exact ⟨rfl, X7.out⟩
end Go.Proofs.Ytepmhononinbkaa
