/- The statements' key of bytes. No condition. -/
import Derived.Test.YtikpakhccmdmcaaHashE
namespace Go.Proofs.Ytikpakhccmdmcaa
open Go.RowKit
set_option linter.unusedVariables false
set_option linter.unusedSimpArgs false

set_option maxHeartbeats 1000000 in
set_option maxRecDepth 100000 in
theorem l01Hash_any (tag : Int) (ht : 0 ≤ tag ∧ tag ≤ 255) (v : Value) (xs : List Int) (w : World) (S : Nat → Prop) (h : RdL tByte w S v xs) (hl : xs.length ≤ 70368744177664) :
    Calls Try.prog 110 #[.int .u8 tag, v] w fun e w' => e = .returned (.agg (numsA .u8 (hashL tag xs))) ∧ Ext w w' := by
  have H := Lib.hid h
  obtain ⟨A, cap, rfl, hcap, hlen, hz1, hz2⟩ := h
  clear hz1 hz2
  have hk := (hashL_ok tag xs).1
  have he : hashL tag xs = endL (startL tag) xs xs.length := by rw [hashL]
  rw [he] at hk ⊢
  clear he
  go_enter Try.func110, Try.ntmps110
  go_wp2_with fail
  refine (l01Start_any tag ht _).mono ?_
  rintro e w1 ⟨rfl, hx1⟩
  have HX1 := Lib.hid hx1
  clear hx1
  go_wp2_with fail
  refine (l01End_any (startL tag) (startL_length tag) (startL_ok tag ht) _ xs w1 S (H.out.ext (by decide) ((ext_alloc w _).trans HX1.out)) hl xs.length (by omega) (by omega)).mono ?_
  rintro e w2 ⟨rfl, hx2⟩
  have HB := Lib.hid (((Blk.new w 45 _).ext HX1.out).ext hx2)
  have HX := Lib.hid (((ext_alloc w _).trans HX1.out).trans hx2)
  clear hx2 HX1
  go_wp2_with (refine wpl_storeN HB.out aggKey hk rfl rfl _ _ rfl rfl rfl rfl ?_)
  refine bodyPost_ret (results_blk rfl _ rfl aggKey hk (HB.out.setRow _)) rfl ?_
  exact ⟨rfl, HX.out.setRow (Nat.le_refl _) _⟩

end Go.Proofs.Ytikpakhccmdmcaa
