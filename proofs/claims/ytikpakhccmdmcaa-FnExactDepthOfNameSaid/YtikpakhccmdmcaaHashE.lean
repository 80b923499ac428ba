/- The statements' key of bytes: the end. No condition. -/
import Derived.Test.YtikpakhccmdmcaaHashP
import Derived.Test.YtikpakhccmdmcaaMixS
import Derived.Deep.RegionHeld3
import Derived.Deep.RegionLaw
namespace Go.Proofs.Ytikpakhccmdmcaa
open Go.RowKit
set_option linter.unusedVariables false
set_option linter.unusedSimpArgs false

theorem len8 {s : List Int} (h : s.length = 8) : ∃ a0 a1 a2 a3 a4 a5 a6 a7, s = [a0, a1, a2, a3, a4, a5, a6, a7] := by
  match s, h with
  | [a0, a1, a2, a3, a4, a5, a6, a7], _ => exact ⟨a0, a1, a2, a3, a4, a5, a6, a7, rfl⟩

/-- eight words written into a block -/
def put8 (w : World) (g : Nat) (c0 c1 c2 c3 c4 c5 c6 c7 : Int) : World := ((((((((w.setCell ⟨g, 0, none⟩ (.int .u32 c0)).setCell ⟨g, 1, none⟩ (.int .u32 c1)).setCell ⟨g, 2, none⟩ (.int .u32 c2)).setCell ⟨g, 3, none⟩ (.int .u32 c3)).setCell ⟨g, 4, none⟩ (.int .u32 c4)).setCell ⟨g, 5, none⟩ (.int .u32 c5)).setCell ⟨g, 6, none⟩ (.int .u32 c6)).setCell ⟨g, 7, none⟩ (.int .u32 c7))
section
variable {w : World} {g : Nat} {c0 c1 c2 c3 c4 c5 c6 c7 : Int}
theorem put8_blk {t : TypeId} {a0 a1 a2 a3 a4 a5 a6 a7 : Int} (h : Blk w g t (numsA .u32 [a0, a1, a2, a3, a4, a5, a6, a7])) : Blk (put8 w g c0 c1 c2 c3 c4 c5 c6 c7) g t (numsA .u32 [c0, c1, c2, c3, c4, c5, c6, c7]) := by
  have := ((((((((h.set 0 (.int .u32 c0)).set 1 (.int .u32 c1)).set 2 (.int .u32 c2)).set 3 (.int .u32 c3)).set 4 (.int .u32 c4)).set 5 (.int .u32 c5)).set 6 (.int .u32 c6)).set 7 (.int .u32 c7))
  simp only [numsA_set, List.set_cons_zero, List.set_cons_succ] at this
  exact this
theorem put8_far {t g' : Nat} {cs : Array Value} (h : Blk w g' t cs) (hg : g' ≠ g) : Blk (put8 w g c0 c1 c2 c3 c4 c5 c6 c7) g' t cs := ((((((((h.far hg _).far hg _).far hg _).far hg _).far hg _).far hg _).far hg _).far hg _)
theorem put8_own {α : Type} {T : Ty α} {e : TypeId} {base : Nat} {v : Value} {xs : List α} (h : Own T e w base v xs) (hg : g < base) : Own T e (put8 w g c0 c1 c2 c3 c4 c5 c6 c7) base v xs := ((((((((h.set_below hg _).set_below hg _).set_below hg _).set_below hg _).set_below hg _).set_below hg _).set_below hg _).set_below hg _)
theorem put8_ext {a : World} (h : Ext a w) (hg : a.heap.size ≤ g) : Ext a (put8 w g c0 c1 c2 c3 c4 c5 c6 c7) := ((((((((h.set hg _).set hg _).set hg _).set hg _).set hg _).set hg _).set hg _).set hg _)
end

set_option maxHeartbeats 4000000 in
set_option maxRecDepth 100000 in
theorem l01End_any (st : List Int) (hs8 : st.length = 8) (hu : U32 st) (v : Value) (xs : List Int) (w : World) (S : Nat → Prop) (h : RdL tByte w S v xs) (hl : xs.length ≤ 70368744177664) (len : Int) (h0 : 0 ≤ len) (h1 : len ≤ 9223372036854775807) :
    Calls Try.prog 125 #[.agg (numsA .u32 st), v, .int .i64 len] w fun e w' => e = .returned (.agg (numsA .u8 (endL st xs len))) ∧ Ext w w' := by
  have H := Lib.hid h
  obtain ⟨A, cap, rfl, hcap, hlen, hz1, hz2⟩ := h
  clear hz1 hz2
  have HU := Lib.hid hu
  have HS8 := Lib.hid hs8
  clear hu hs8
  go_enter Try.func125, Try.ntmps125
  go_wp2_with fail
  refine (l01Padded_any _ xs _ S (H.out.ext (by decide) ((ext_alloc w _).alloc _)) hl len h0 h1).mono ?_
  rintro e w1 ⟨v1, rfl, ho, hx⟩
  have hb0 := hx.heap (show _ from ((Blk.new w _ _).alloc _ : Blk ((w.alloc (.cells (numsA .u32 st) 154)).alloc _) w.heap.size 154 (numsA .u32 st)))
  have hb1 := hx.heap (show _ from (Blk.new' (g := w.heap.size + 1) (by simp) _ _ : Blk ((w.alloc (.cells (numsA .u32 st) 154)).alloc _) (w.heap.size + 1) 45 _))
  have hxw := ((ext_alloc w (.cells (numsA .u32 st) 154)).alloc _).trans hx
  have ho' : Own tByte 5 w1 (w.heap.size + 2) v1 (xs ++ padL xs.length len) := ho.le (by simp)
  obtain ⟨B, bn, bc, rfl⟩ := ho'.shape3
  have hbn := ho'.len
  rw [List.length_append, padL_length] at hbn
  have hm0 := padded_mod xs.length
  have hpz : padZ xs.length ≤ 31 := by have := padZ_eq xs.length; omega
  have HE := Lib.hid (show endL st xs len = keyL (mixN (xs ++ padL xs.length len) st ((xs.length + padZ xs.length + 9) / 32)) by rw [endL])
  obtain ⟨m, hm⟩ : ∃ m, xs.length + padZ xs.length + 9 = 32 * m := ⟨(xs.length + padZ xs.length + 9) / 32, by omega⟩
  rw [show (xs.length + padZ xs.length + 9) / 32 = m by omega] at HE
  have hbm : bn = 32 * m := by omega
  have hmm : m ≤ 2199023255553 := by omega
  have hal : (xs ++ padL xs.length len).length = 32 * m := by rw [List.length_append, padL_length]; omega
  generalize xs ++ padL xs.length len = al at *
  subst hbm
  have HO := Lib.hid ho'
  have HXW := Lib.hid hxw
  have HB0 := Lib.hid (show Blk w1 w.heap.size 154 (numsA .u32 st) from hb0)
  have HB1 := Lib.hid (show Blk w1 (w.heap.size + 1) 45 _ from hb1)
  have HAL := Lib.hid hal
  clear ho ho' hx hxw hb0 hb1 hbn hm0 hm hpz hal H
  go_wp2_with fail
  go_loopw [8] (fun q wr => ∃ (i : Nat) (z : Array Value), i ≤ m ∧ z.size = 32 ∧ q = .int .i64 ((32 * i : Nat) : Int) ∧ Blk wr w.heap.size 154 (numsA .u32 (mixN al st i)) ∧ Blk wr (w.heap.size + 1) 45 z ∧ Own tByte 5 wr (w.heap.size + 2) (.slice B (32 * m) bc) al ∧ Ext w wr) (fun q _ => 32 * m + 32 - (intOf q).toNat)
  case atStart => exact ⟨0, _, by omega, rfl, rfl, by rw [mixN_zero]; exact HB0.out, HB1.out, HO.out, HXW.out⟩
  case round =>
    clear HO HXW HB0 HB1
    obtain ⟨i, z, him, hz, rfl, hb0, hb1, ho, hx⟩ := hrel
    have HO := Lib.hid ho
    have HX := Lib.hid hx
    have HB0 := Lib.hid hb0
    have HB1 := Lib.hid hb1
    clear ho hx hb0 hb1
    by_cases hlt : i < m
    · have hs := mixN_length al st i HS8.out
      have hu := mixN_ok al st i HU.out
      have HN := Lib.hid (mixN_succ al st i)
      generalize mixN al st i = s at *
      obtain ⟨a0, a1, a2, a3, a4, a5, a6, a7, rfl⟩ := len8 hs
      have hblk : ∀ W, Ext wr W → Calls Try.prog 134 #[.slice B (32 * m) bc, .int .i64 (32 * (i : Int))] W fun e w' => e = .returned (.agg (numsA .u8 (blockL al i))) ∧ Ext W w' := by
        intro W E
        have := l01Block_any (.slice B (32 * m) bc) al W _ ((HO.out.ext E).rd) i (by rw [HAL.out]; omega)
        rw [show ((32 * i : Nat) : Int) = 32 * (i : Int) by omega] at this
        exact this
      have hK := blockL_ok al i HO.out.2.2 (by rw [HAL.out]; omega)
      obtain ⟨c0, c1, c2, c3, c4, c5, c6, c7, hc⟩ := len8 (mixL_length [a0, a1, a2, a3, a4, a5, a6, a7] (blockL al i) rfl)
      have hmix : ∀ W, Calls Try.prog 133 #[.agg #[Value.int .u32 a0, Value.int .u32 a1, Value.int .u32 a2, Value.int .u32 a3, Value.int .u32 a4, Value.int .u32 a5, Value.int .u32 a6, Value.int .u32 a7], .agg (numsA .u8 (blockL al i))] W fun e w' => e = .returned (.agg #[Value.int .u32 c0, Value.int .u32 c1, Value.int .u32 c2, Value.int .u32 c3, Value.int .u32 c4, Value.int .u32 c5, Value.int .u32 c6, Value.int .u32 c7]) ∧ Ext W w' := by
        intro W
        have := l01Mix_any [a0, a1, a2, a3, a4, a5, a6, a7] (blockL al i) rfl hu hK W
        rw [hc] at this
        exact this
      rw [hc] at HN
      generalize blockL al i = blk at *
      have HBLK := Lib.hid hblk
      have HMIX := Lib.hid hmix
      have HB := HB0
      clear hblk hmix hs hu hK hc
      have k0 : ∀ W, Ext wr W → W.cell? ⟨w.heap.size, 0, none⟩ = some (.int .u32 a0) := fun W h => h.cell (HB.out.at_ 0 rfl)
      have k1 : ∀ W, Ext wr W → W.cell? ⟨w.heap.size, 1, none⟩ = some (.int .u32 a1) := fun W h => h.cell (HB.out.at_ 1 rfl)
      have k2 : ∀ W, Ext wr W → W.cell? ⟨w.heap.size, 2, none⟩ = some (.int .u32 a2) := fun W h => h.cell (HB.out.at_ 2 rfl)
      have k3 : ∀ W, Ext wr W → W.cell? ⟨w.heap.size, 3, none⟩ = some (.int .u32 a3) := fun W h => h.cell (HB.out.at_ 3 rfl)
      have k4 : ∀ W, Ext wr W → W.cell? ⟨w.heap.size, 4, none⟩ = some (.int .u32 a4) := fun W h => h.cell (HB.out.at_ 4 rfl)
      have k5 : ∀ W, Ext wr W → W.cell? ⟨w.heap.size, 5, none⟩ = some (.int .u32 a5) := fun W h => h.cell (HB.out.at_ 5 rfl)
      have k6 : ∀ W, Ext wr W → W.cell? ⟨w.heap.size, 6, none⟩ = some (.int .u32 a6) := fun W h => h.cell (HB.out.at_ 6 rfl)
      have k7 : ∀ W, Ext wr W → W.cell? ⟨w.heap.size, 7, none⟩ = some (.int .u32 a7) := fun W h => h.cell (HB.out.at_ 7 rfl)
      have f0 : ∀ W, Ext wr W → ∀ j, W.frozen? ⟨w.heap.size, j, none⟩ = false := fun W h j => (HB.out.ext h).free j
      have r0 := Ext.refl wr
      have r1 := (Ext.refl wr).drew
      go_wp2_with fail
      go_region_law (first
        | (go_simp; go_at_call 134; refine (HBLK.out _ (by assumption)).mono ?_; rintro e p1 ⟨rfl, hx1⟩; have y1 := Ext.trans (by assumption : Ext wr _) hx1)
        | (go_simp; go_at_call 133; refine (HMIX.out _).mono ?_; rintro e p2 ⟨rfl, hx2⟩; have y2 := y1.trans hx2))
      all_goals
        go_wp2_with fail
        go_roundw
        case rel => exact ⟨i + 1, z, by omega, hz, congrArg (Value.int .i64) (by omega), by rw [HN.out]; exact put8_blk (HB.out.ext y2), put8_far (HB1.out.ext y2) (by omega), put8_own (HO.out.ext y2) (by omega), put8_ext (HX.out.trans y2) (Nat.le_refl _)⟩
        case measure => simp [intOf]; omega
    · obtain rfl : i = m := by omega
      have hs := mixN_length al st i HS8.out
      have hu := mixN_ok al st i HU.out
      have hlt0 := HB1.out.lt
      generalize mixN al st i = s at *
      have HSL := Lib.hid hs
      clear hs
      go_wp2_with (refine wpl_storeN (k := .u8) (xs := List.replicate 32 0) (Blk.new wr _ _) aggKey (by simp) rfl rfl _ _ rfl rfl rfl rfl ?_)
      have hx0 := (HX.out.alloc (.cells #[Value.int .u8 0, Value.int .u8 0, Value.int .u8 0, Value.int .u8 0, Value.int .u8 0, Value.int .u8 0, Value.int .u8 0, Value.int .u8 0, Value.int .u8 0, Value.int .u8 0, Value.int .u8 0, Value.int .u8 0, Value.int .u8 0, Value.int .u8 0, Value.int .u8 0, Value.int .u8 0, Value.int .u8 0, Value.int .u8 0, Value.int .u8 0, Value.int .u8 0, Value.int .u8 0, Value.int .u8 0, Value.int .u8 0, Value.int .u8 0, Value.int .u8 0, Value.int .u8 0, Value.int .u8 0, Value.int .u8 0, Value.int .u8 0, Value.int .u8 0, Value.int .u8 0, Value.int .u8 0] 45)).setRow HX.out.size (numsA .u8 (List.replicate 32 0))
      have hb0 := (HB0.out.alloc (.cells #[Value.int .u8 0, Value.int .u8 0, Value.int .u8 0, Value.int .u8 0, Value.int .u8 0, Value.int .u8 0, Value.int .u8 0, Value.int .u8 0, Value.int .u8 0, Value.int .u8 0, Value.int .u8 0, Value.int .u8 0, Value.int .u8 0, Value.int .u8 0, Value.int .u8 0, Value.int .u8 0, Value.int .u8 0, Value.int .u8 0, Value.int .u8 0, Value.int .u8 0, Value.int .u8 0, Value.int .u8 0, Value.int .u8 0, Value.int .u8 0, Value.int .u8 0, Value.int .u8 0, Value.int .u8 0, Value.int .u8 0, Value.int .u8 0, Value.int .u8 0, Value.int .u8 0, Value.int .u8 0] 45)).row_far (by omega : w.heap.size ≠ wr.heap.size) (numsA .u8 (List.replicate 32 0))
      have hb1 := (HB1.out.alloc (.cells #[Value.int .u8 0, Value.int .u8 0, Value.int .u8 0, Value.int .u8 0, Value.int .u8 0, Value.int .u8 0, Value.int .u8 0, Value.int .u8 0, Value.int .u8 0, Value.int .u8 0, Value.int .u8 0, Value.int .u8 0, Value.int .u8 0, Value.int .u8 0, Value.int .u8 0, Value.int .u8 0, Value.int .u8 0, Value.int .u8 0, Value.int .u8 0, Value.int .u8 0, Value.int .u8 0, Value.int .u8 0, Value.int .u8 0, Value.int .u8 0, Value.int .u8 0, Value.int .u8 0, Value.int .u8 0, Value.int .u8 0, Value.int .u8 0, Value.int .u8 0, Value.int .u8 0, Value.int .u8 0] 45)).row_far (by omega : w.heap.size + 1 ≠ wr.heap.size) (numsA .u8 (List.replicate 32 0))
      have hb2 := (Blk.new wr 45 #[Value.int .u8 0, Value.int .u8 0, Value.int .u8 0, Value.int .u8 0, Value.int .u8 0, Value.int .u8 0, Value.int .u8 0, Value.int .u8 0, Value.int .u8 0, Value.int .u8 0, Value.int .u8 0, Value.int .u8 0, Value.int .u8 0, Value.int .u8 0, Value.int .u8 0, Value.int .u8 0, Value.int .u8 0, Value.int .u8 0, Value.int .u8 0, Value.int .u8 0, Value.int .u8 0, Value.int .u8 0, Value.int .u8 0, Value.int .u8 0, Value.int .u8 0, Value.int .u8 0, Value.int .u8 0, Value.int .u8 0, Value.int .u8 0, Value.int .u8 0, Value.int .u8 0, Value.int .u8 0]).setRow (numsA .u8 (List.replicate 32 0))
      have hgs : w.heap.size + 2 ≤ wr.heap.size := by omega
      generalize wr.heap.size = gs at *
      have hkl := keyL_length s
      have HKL := Lib.hid hkl
      go_loopw [10] (fun q wq => ∃ k : Nat, k ≤ 32 ∧ q = .int .i64 k ∧ Blk wq w.heap.size 154 (numsA .u32 s) ∧ Blk wq (w.heap.size + 1) 45 z ∧ Blk wq gs 45 (numsA .u8 ((keyL s).take k ++ List.replicate (32 - k) 0)) ∧ Ext w wq) (fun q _ => 32 - (intOf q).toNat)
      case atStart => exact ⟨0, by omega, rfl, hb0, hb1, by rw [List.take_zero, List.nil_append, Nat.sub_zero]; exact hb2, hx0⟩
      case round =>
        clear hb0 hb1 hb2 hx0 HO HX HB0 HB1 hlt0
        obtain ⟨k, hk, rfl, hb0, hb1, hb2, hx⟩ := hrel
        have HX := Lib.hid hx
        have HB0 := Lib.hid hb0
        have HB1 := Lib.hid hb1
        have HB2 := Lib.hid hb2
        clear hx hb0 hb1 hb2
        by_cases hk32 : k < 32
        · have c0 := HB0.out.num (k / 4) (by rw [HSL.out]; omega)
          have u0 := hu.get (k / 4)
          have hc := HB2.out.num k (by simp [keyL_length]; omega)
          have hf := HB2.out.free k
          have q1 : (k : Int) / 4 = ((k / 4 : Nat) : Int) := by omega
          have q2 : (k : Int) % 4 = ((k % 4 : Nat) : Int) := by omega
          have p1 : k / 4 < 8 := by omega
          have p2 : k % 4 < 4 := by omega
          generalize hj1 : k / 4 = j1 at *
          generalize hj2 : k % 4 = j2 at *
          have hn := fill_step (keyL s) 32 k hk32 HKL.out
          rw [keyL_at s k hk32, hj1, hj2] at hn
          have HN := Lib.hid hn
          have J1 := Lib.hid hj1
          have J2 := Lib.hid hj2
          clear hn hj1 hj2 hkl
          go_wp2_with fail
          go_roundw
          case rel =>
            have h2 := HB2.out.set k (.int .u8 (gI s j1 / 2 ^ (8 * j2) % 256))
            rw [numsA_set, HN.out] at h2
            exact ⟨k + 1, by omega, by go_num, HB0.out.far (by simp; omega) _, HB1.out.far (by simp; omega) _, h2, HX.out.set (by simp; omega) _⟩
          case measure => simp [intOf]; omega
        · obtain rfl : k = 32 := by omega
          have hb := HB2.out
          rw [Nat.sub_self, List.replicate_zero, List.append_nil, List.take_of_length_le (by omega), ← HE.out] at hb
          have hl32 : (endL st xs len).length = 32 := by rw [HE.out]; exact HKL.out
          have HB3 := Lib.hid hb
          clear hb
          go_wp2_with (first
            | (refine wpl_loadN HB3.out aggKey hl32 rfl _ rfl rfl ?_)
            | (refine wpl_storeN HB1.out aggKey hl32 hz rfl _ _ rfl rfl rfl rfl ?_))
          refine bodyPost_ret (results_blk rfl _ rfl aggKey hl32 (HB1.out.setRow _)) rfl ?_
          exact ⟨rfl, HX.out.setRow (by omega) _⟩

end Go.Proofs.Ytikpakhccmdmcaa
