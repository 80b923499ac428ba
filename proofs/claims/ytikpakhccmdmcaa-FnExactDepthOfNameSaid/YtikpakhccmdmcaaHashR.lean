/- The program's key of bytes. No condition. -/
import Derived.Test.YtikpakhccmdmcaaHashO
namespace Go.Proofs.Ytikpakhccmdmcaa
open Go.RowKit
set_option linter.unusedVariables false
set_option linter.unusedSimpArgs false

set_option maxHeartbeats 1000000 in
set_option maxRecDepth 100000 in
theorem hash_any (tag : Int) (ht : 0 ≤ tag ∧ tag ≤ 255) (v : Value) (xs : List Int) (w : World) (S : Nat → Prop) (h : RdL tByte w S v xs) (hl : xs.length ≤ 140737488000) :
    Calls Try.prog 94 #[.int .u8 tag, v] w fun e w' => e = .returned (.agg (numsA .u8 (hashL tag xs))) ∧ Ext w w' := by
  have H := Lib.hid h
  obtain ⟨A, cap, rfl, hcap, hlen, hz1, hz2⟩ := h
  clear hz1 hz2
  go_enter Try.func94, Try.ntmps94
  go_wp2_with fail
  refine (sizeB_any _ _ _ _).mono ?_
  rintro e w' ⟨rfl, rfl⟩
  go_wp2_with fail
  refine (padding_any xs.length (by omega) _).mono ?_
  rintro e w1 ⟨v1, rfl, ho1, hx1⟩
  have HO1 := Lib.hid ho1
  have HX1 := Lib.hid hx1
  obtain ⟨B1, bn1, bc1, rfl⟩ := ho1.shape3
  clear ho1 hx1
  go_wp2_with fail
  have hcc := concat2_any w1.heap.size 0 _ _ xs (padL xs.length xs.length) (w1.alloc (.cells #[.slice A xs.length cap, .slice B1 bn1 bc1] 126)) S _ (H.out.ext (by decide) (((ext_alloc w _).trans HX1.out).alloc _)) (HO1.out.alloc _).rd (by rw [padL_length]; omega) (by rw [padL_length, padZ_eq]; omega) (by go_simp) (by go_simp)
  refine hcc.mono ?_
  clear hcc
  rintro e w2 ⟨v2, rfl, ho2, hx2⟩
  have HO2 := Lib.hid ho2
  have HX2 := Lib.hid (((ext_alloc w (.cells _ 45)).trans (HX1.out.alloc _)).trans hx2)
  have HB2 := Lib.hid (((Blk.new w 45 _).ext (HX1.out.alloc _)).ext hx2)
  obtain ⟨B2, bn2, bc2, rfl⟩ := ho2.shape3
  clear ho2 hx2 HX1 HO1
  have hlen2 : (xs ++ padL xs.length xs.length).length = xs.length + padZ xs.length + 9 := by rw [List.length_append, padL_length]; omega
  have hpz : padZ xs.length ≤ 31 := by rw [padZ_eq]; omega
  have hm0 := padded_mod xs.length
  have HE := Lib.hid (show hashL tag xs = keyL (mixN (xs ++ padL xs.length xs.length) (startL tag) ((xs.length + padZ xs.length + 9) / 32)) by rw [hashL, endL])
  obtain ⟨m, hm⟩ : ∃ m, xs.length + padZ xs.length + 9 = 32 * m := ⟨(xs.length + padZ xs.length + 9) / 32, by omega⟩
  rw [show (xs.length + padZ xs.length + 9) / 32 = m by omega] at HE
  have hal : (xs ++ padL xs.length xs.length).length = 32 * m := by omega
  have hal2 : (xs ++ padL xs.length xs.length).length ≤ 140737488355 := by omega
  clear hlen2 hpz hm0 hm
  generalize xs ++ padL xs.length xs.length = al at *
  go_wp2_with fail
  refine (blocks_any _ al m w2 _ HO2.out.rd hal hal2).mono ?_
  rintro e w3 ⟨v3, u3, rfl, ho3, hx3⟩
  have HO3 := Lib.hid ho3
  have HX3 := Lib.hid (HX2.out.trans hx3)
  have HB3 := Lib.hid (HB2.out.ext hx3)
  clear ho3 hx3 HX2 HB2 HO2
  go_wp2_with fail
  refine (startState_any tag ht _).mono ?_
  rintro e w4 ⟨rfl, hx4⟩
  have HX4 := Lib.hid (HX3.out.trans hx4)
  have HB4 := Lib.hid (HB3.out.ext hx4)
  have HO4 := Lib.hid (HO3.out.ext hx4)
  clear hx4 HX3 HB3 HO3
  go_wp2_with fail
  refine (mixed_any (startL tag) (startL_length tag) (startL_ok tag ht) v3 al m w4 _ HO4.out.rd).mono ?_
  rintro e w5 ⟨rfl, hx5⟩
  have HX5 := Lib.hid (HX4.out.trans hx5)
  have HB5 := Lib.hid (HB4.out.ext hx5)
  clear hx5 HX4 HB4 HO4
  go_wp2_with fail
  refine (keyOf_any (mixN al (startL tag) m) (mixN_length _ _ _ (startL_length tag)) (mixN_ok _ _ _ (startL_ok tag ht)) w5).mono ?_
  rintro e w6 ⟨rfl, hx6⟩
  have HX6 := Lib.hid (HX5.out.trans hx6)
  have HB6 := Lib.hid (HB5.out.ext hx6)
  clear hx6 HX5 HB5
  have hk := (hashL_ok tag xs).1
  rw [← HE.out]
  go_wp2_with (refine wpl_storeN HB6.out aggKey hk rfl rfl _ _ rfl rfl rfl rfl ?_)
  refine bodyPost_ret (results_blk rfl _ rfl aggKey hk (HB6.out.setRow _)) rfl ?_
  exact ⟨rfl, HX6.out.setRow (Nat.le_refl _) _⟩

end Go.Proofs.Ytikpakhccmdmcaa
