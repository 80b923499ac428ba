/- The key of a blob. No condition. -/
import Derived.Test.YtbngjhppngohaaaPackKey
import Derived.Test.YtbngjhppngohaaaBlob
import Derived.Deep.RegionLaw
namespace Go.Proofs.Ytbngjhppngohaaa
open Go.RowKit
set_option linter.unusedVariables false
set_option linter.unusedSimpArgs false

def blobKR (t : Int) (xs : List Int) : List Int × Int := if xs.length ≤ 1024 then (hashL t xs, 0) else (List.replicate 32 0, 1)
theorem blobKR_ok (t : Int) (xs : List Int) : K32 (blobKR t xs).1 := by unfold blobKR; split; exact hashL_ok _ _; exact zero_ok
set_option maxHeartbeats 1000000 in
set_option maxRecDepth 100000 in
theorem l05Key_any (t : Int) (ht : 0 ≤ t ∧ t ≤ 255) (v : Value) (xs : List Int) (w : World) (S : Nat → Prop) (h : RdL tByte w S v xs) (hl : xs.length ≤ 1024) (b : Nat) (c0 : w.cell? ⟨b, 0, none⟩ = some (.int .u8 t)) (c1 : w.cell? ⟨b, 1, none⟩ = some v) :
    Calls Try.prog 72 #[.pointer (some ⟨b, 0, none⟩)] w fun e w' => e = .returned (.agg (numsA .u8 (hashL t xs))) ∧ Ext w w' := by
  have hk := (hashL_ok t xs).1
  have H := Lib.hid h
  obtain ⟨A, cap, rfl, hcap, hlen, _, _⟩ := h
  have hlt : b < w.heap.size := World.block_lt_of_cell? w _ c0
  go_enter Try.func72, Try.ntmps72
  go_wp2_with fail
  have hsz := sizeN (k := .u8) hk
  go_region_law (go_simp; go_at_call 66; refine (l01Hash_any t ht _ xs _ S (H.out.ext (by decide) ((ext_alloc _ _).drewN 1)) (by omega)).mono ?_; rintro e p1 ⟨rfl, hx⟩; have HB := Lib.hid (((Blk.new w 28 _).drewN 1).ext hx); have HX := Lib.hid (((ext_alloc w _).drewN 1).trans hx); clear hx; have hst := run_storeN (k := .u8) Try.prog HB.out hk rfl)
  all_goals
    go_wp2_with fail
    refine bodyPost_ret (results_blk rfl _ rfl aggKey hk (HB.out.setRow _)) rfl ?_
    exact ⟨rfl, HX.out.setRow (Nat.le_refl _) _⟩
set_option maxHeartbeats 1000000 in
set_option maxRecDepth 100000 in
theorem l05Blob_any (A : Option Addr) (n cap : Nat) (w : World) (b : Nat) (c1 : w.cell? ⟨b, 1, none⟩ = some (.slice A n cap)) :
    Calls Try.prog 71 #[.pointer (some ⟨b, 0, none⟩)] w fun e w' => e = .returned (.bool (decide (n ≤ 1024))) ∧ w = w' := by
  go_enter Try.func71, Try.ntmps71
  go_wp2
  go_ret
  exact ⟨ret_bool (by simp; omega), rfl⟩
set_option maxHeartbeats 1000000 in
set_option maxRecDepth 100000 in
theorem blobKey_any (t : Int) (ht : 0 ≤ t ∧ t ≤ 255) (v : Value) (xs : List Int) (w : World) (S : Nat → Prop) (h : RdL tByte w S v xs) (hl : xs.length ≤ 1024) :
    Calls Try.prog 74 #[.agg #[.int .u8 t, v]] w fun e w' => e = .returned (.agg (numsA .u8 (hashL t xs))) ∧ Ext w w' := by
  have hk := (hashL_ok t xs).1
  have H := Lib.hid h
  obtain ⟨A, cap, rfl, hcap, hlen, _, _⟩ := h
  go_enter Try.func74, Try.ntmps74
  go_wp2_with fail
  refine (hash_any t ht _ xs _ S (H.out.ext (by decide) ((ext_alloc _ _).alloc _)) (by omega)).mono ?_
  rintro e w1 ⟨rfl, hx⟩
  have HB := Lib.hid ((Blk.new' (g := w.heap.size + 1) (w := w.alloc _) (by simp) 28 _).ext hx)
  have HX := Lib.hid (((ext_alloc w _).alloc _).trans hx)
  clear hx
  go_wp2_with (refine wpl_storeN HB.out aggKey hk rfl rfl _ _ rfl rfl rfl rfl ?_)
  refine bodyPost_ret (results_blk rfl _ rfl aggKey hk (HB.out.setRow _)) rfl ?_
  exact ⟨rfl, HX.out.setRow (by omega) _⟩
set_option maxHeartbeats 1000000 in
set_option maxRecDepth 100000 in
theorem specBlobKey_any (t : Int) (ht : 0 ≤ t ∧ t ≤ 255) (v : Value) (xs : List Int) (w : World) (S : Nat → Prop) (h : RdL tByte w S v xs) :
    Calls Try.prog 38 #[.agg #[.int .u8 t, v]] w fun e w' => e = .returned (.tuple #[.agg (numsA .u8 (blobKR t xs).1), .int .i64 (blobKR t xs).2]) ∧ Ext w w' := by
  have hk := (hashL_ok t xs).1
  have H := Lib.hid h
  obtain ⟨A, cap, rfl, hcap, hlen, _, _⟩ := h
  by_cases hb : xs.length ≤ 1024
  · simp only [blobKR, if_pos hb]
    go_enter Try.func38, Try.ntmps38
    go_wp2_with fail
    refine (l05Blob_any A xs.length cap _ w.heap.size (by go_simp)).mono ?_
    rintro e w' ⟨rfl, rfl⟩
    go_wp2_with fail
    refine (l05Key_any t ht _ xs _ S (H.out.ext (by decide) ((ext_alloc _ _).alloc _)) (by omega) w.heap.size (by go_simp) (by go_simp)).mono ?_
    rintro e w1 ⟨rfl, hx⟩
    have HB := Lib.hid ((Blk.new' (g := w.heap.size + 1) (w := w.alloc _) (by simp) 28 _).ext hx)
    have HX := Lib.hid (((ext_alloc w _).alloc _).trans hx)
    clear hx
    go_wp2_with (refine wpl_storeN HB.out aggKey hk rfl rfl _ _ rfl rfl rfl rfl ?_)
    refine bodyPost_ret (results_blk2 rfl _ rfl aggKey hk (HB.out.setRow _) rfl) rfl ?_
    exact ⟨rfl, HX.out.setRow (by omega) _⟩
  · simp only [blobKR, if_neg hb]
    go_enter Try.func38, Try.ntmps38
    go_wp2_with fail
    refine (l05Blob_any A xs.length cap _ w.heap.size (by go_simp)).mono ?_
    rintro e w' ⟨rfl, rfl⟩
    go_wp2_with (refine wpl_storeN (xs := List.replicate 32 0) (Blk.new' (g := w.heap.size + 1) (w := w.alloc _) (by simp) 28 _) aggKey rfl rfl rfl _ _ rfl rfl rfl rfl ?_)
    refine bodyPost_ret (results_blk2 rfl _ rfl aggKey rfl ((Blk.new' (g := w.heap.size + 1) (w := w.alloc _) (by simp) 28 _).setRow _) rfl) rfl ?_
    exact ⟨rfl, ((ext_alloc _ _).alloc _).setRow (by omega) _⟩
set_option maxHeartbeats 1000000 in
set_option maxRecDepth 100000 in
theorem implBlobKey_any (t : Int) (ht : 0 ≤ t ∧ t ≤ 255) (v : Value) (xs : List Int) (w : World) (S : Nat → Prop) (h : RdL tByte w S v xs) :
    Calls Try.prog 40 #[.agg #[.int .u8 t, v]] w fun e w' => e = .returned (.tuple #[.agg (numsA .u8 (blobKR t xs).1), .int .i64 (blobKR t xs).2]) ∧ Ext w w' := by
  have hk := (hashL_ok t xs).1
  have H := Lib.hid h
  obtain ⟨A, cap, rfl, hcap, hlen, _, _⟩ := h
  by_cases hb : xs.length ≤ 1024
  · simp only [blobKR, if_pos hb]
    go_enter Try.func40, Try.ntmps40
    go_wp2_with fail
    refine (implValidBlob_any t A xs.length cap _).mono ?_
    rintro e w1 ⟨rfl, hx⟩
    have c0 : w1.cell? ⟨w.heap.size, 0, none⟩ = some (.int .u8 t) := hx.cell (by go_simp)
    have c1 : w1.cell? ⟨w.heap.size, 1, none⟩ = some (.slice A xs.length cap) := hx.cell (by go_simp)
    have HB := Lib.hid ((Blk.new' (g := w.heap.size + 1) (w := w.alloc _) (by simp) 28 _).ext hx)
    have HX := Lib.hid (((ext_alloc w _).alloc _).trans hx)
    clear hx
    go_wp2_with fail
    refine (blobKey_any t ht _ xs _ S (H.out.ext (by decide) HX.out) (by omega)).mono ?_
    rintro e w2 ⟨rfl, hx⟩
    replace HB := Lib.hid (HB.out.ext hx)
    replace HX := Lib.hid (HX.out.trans hx)
    clear hx c0 c1
    go_wp2_with (refine wpl_storeN HB.out aggKey hk rfl rfl _ _ rfl rfl rfl rfl ?_)
    refine bodyPost_ret (results_blk2 rfl _ rfl aggKey hk (HB.out.setRow _) rfl) rfl ?_
    exact ⟨rfl, HX.out.setRow (by omega) _⟩
  · simp only [blobKR, if_neg hb]
    go_enter Try.func40, Try.ntmps40
    go_wp2_with fail
    refine (implValidBlob_any t A xs.length cap _).mono ?_
    rintro e w1 ⟨rfl, hx⟩
    have HB := Lib.hid ((Blk.new' (g := w.heap.size + 1) (w := w.alloc _) (by simp) 28 _).ext hx)
    have HX := Lib.hid (((ext_alloc w _).alloc _).trans hx)
    clear hx
    go_wp2_with (refine wpl_storeN (xs := List.replicate 32 0) HB.out aggKey rfl rfl rfl _ _ rfl rfl rfl rfl ?_)
    refine bodyPost_ret (results_blk2 rfl _ rfl aggKey rfl (HB.out.setRow _) rfl) rfl ?_
    exact ⟨rfl, HX.out.setRow (by omega) _⟩

end Go.Proofs.Ytbngjhppngohaaa
