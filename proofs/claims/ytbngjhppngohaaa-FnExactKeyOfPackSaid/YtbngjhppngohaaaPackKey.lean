/- The key of a pack. No condition. -/
import Derived.Test.YtbngjhppngohaaaKeyFns
import Derived.Test.YtbngjhppngohaaaPrioFns
namespace Go.Proofs.Ytbngjhppngohaaa
open Go.RowKit
set_option linter.unusedVariables false
set_option linter.unusedSimpArgs false

def packR (xs : List Int) : List Int × Int := if xs.length ≤ 140000 then (hashL 8 xs, 0) else (List.replicate 32 0, 3)
theorem packR_ok (xs : List Int) : K32 (packR xs).1 := by unfold packR; split; exact hashL_ok _ _; exact zero_ok
set_option maxHeartbeats 1000000 in
set_option maxRecDepth 100000 in
theorem specKeyOfPack_any (v : Value) (xs : List Int) (w : World) (S : Nat → Prop) (h : RdL tByte w S v xs) : Calls Try.prog 32 #[v] w fun e w' => e = .returned (.tuple #[.agg (numsA .u8 (packR xs).1), .int .i64 (packR xs).2]) ∧ Ext w w' := by
  have hk := (hashL_ok 8 xs).1
  have H := Lib.hid h
  obtain ⟨A, cap, rfl, hcap, hlen, _, _⟩ := h
  by_cases hb : xs.length ≤ 140000
  · simp only [packR, if_pos hb]
    go_enter Try.func32, Try.ntmps32
    go_wp2_with fail
    refine (l01Hash_any 8 (by decide) _ xs _ S (H.out.ext (by decide) (ext_alloc _ _)) (by omega)).mono ?_
    rintro e w1 ⟨rfl, hx⟩
    have HB := Lib.hid ((Blk.new w 28 _).ext hx)
    have HX := Lib.hid ((ext_alloc w _).trans hx)
    clear hx
    go_wp2_with (refine wpl_storeN HB.out aggKey hk rfl rfl _ _ rfl rfl rfl rfl ?_)
    refine bodyPost_ret (results_blk2 rfl _ rfl aggKey hk (HB.out.setRow _) rfl) rfl ?_
    exact ⟨rfl, HX.out.setRow (Nat.le_refl _) _⟩
  · simp only [packR, if_neg hb]
    go_enter Try.func32, Try.ntmps32
    go_wp2_with (refine wpl_storeNew (xs := List.replicate 32 0) aggKey rfl rfl rfl _ _ rfl rfl rfl rfl ?_)
    refine bodyPost_ret (results_blk2 rfl _ rfl aggKey rfl (Blk.new w _ _) rfl) rfl ?_
    exact ⟨rfl, ext_alloc _ _⟩
set_option maxHeartbeats 1000000 in
set_option maxRecDepth 100000 in
theorem keyOfPack_any (v : Value) (xs : List Int) (w : World) (S : Nat → Prop) (h : RdL tByte w S v xs) (hl : xs.length ≤ 140000) : Calls Try.prog 67 #[v] w fun e w' => e = .returned (.agg (numsA .u8 (hashL 8 xs))) ∧ Ext w w' := by
  have hk := (hashL_ok 8 xs).1
  have H := Lib.hid h
  obtain ⟨A, cap, rfl, hcap, hlen, _, _⟩ := h
  go_enter Try.func67, Try.ntmps67
  go_wp2_with fail
  refine (hash_any 8 (by decide) _ xs _ S (H.out.ext (by decide) (ext_alloc _ _)) (by omega)).mono ?_
  rintro e w1 ⟨rfl, hx⟩
  have HB := Lib.hid ((Blk.new w 28 _).ext hx)
  have HX := Lib.hid ((ext_alloc w _).trans hx)
  clear hx
  go_wp2_with (refine wpl_storeN HB.out aggKey hk rfl rfl _ _ rfl rfl rfl rfl ?_)
  refine bodyPost_ret (results_blk rfl _ rfl aggKey hk (HB.out.setRow _)) rfl ?_
  exact ⟨rfl, HX.out.setRow (Nat.le_refl _) _⟩
set_option maxHeartbeats 1000000 in
set_option maxRecDepth 100000 in
theorem implKeyOfPack_any (v : Value) (xs : List Int) (w : World) (S : Nat → Prop) (h : RdL tByte w S v xs) : Calls Try.prog 33 #[v] w fun e w' => e = .returned (.tuple #[.agg (numsA .u8 (packR xs).1), .int .i64 (packR xs).2]) ∧ Ext w w' := by
  have hk := (hashL_ok 8 xs).1
  have H := Lib.hid h
  obtain ⟨A, cap, rfl, hcap, hlen, _, _⟩ := h
  by_cases hb : xs.length ≤ 140000
  · simp only [packR, if_pos hb]
    go_enter Try.func33, Try.ntmps33
    go_wp2_with fail
    refine (keyOfPack_any _ xs _ S (H.out.ext (by decide) (ext_alloc _ _)) (by omega)).mono ?_
    rintro e w1 ⟨rfl, hx⟩
    have HB := Lib.hid ((Blk.new w 28 _).ext hx)
    have HX := Lib.hid ((ext_alloc w _).trans hx)
    clear hx
    go_wp2_with (refine wpl_storeN HB.out aggKey hk rfl rfl _ _ rfl rfl rfl rfl ?_)
    refine bodyPost_ret (results_blk2 rfl _ rfl aggKey hk (HB.out.setRow _) rfl) rfl ?_
    exact ⟨rfl, HX.out.setRow (Nat.le_refl _) _⟩
  · simp only [packR, if_neg hb]
    go_enter Try.func33, Try.ntmps33
    go_wp2_with (refine wpl_storeNew (xs := List.replicate 32 0) aggKey rfl rfl rfl _ _ rfl rfl rfl rfl ?_)
    refine bodyPost_ret (results_blk2 rfl _ rfl aggKey rfl (Blk.new w _ _) rfl) rfl ?_
    exact ⟨rfl, ext_alloc _ _⟩

end Go.Proofs.Ytbngjhppngohaaa
