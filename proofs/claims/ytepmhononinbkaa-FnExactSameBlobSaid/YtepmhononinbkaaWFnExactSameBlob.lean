/- The walk of the law FnExactSameBlob. No condition. -/
import Derived.Test.YtepmhononinbkaaBlob2
import Derived.Deep.RegionHeld3
namespace Go.Proofs.Ytepmhononinbkaa
open Go.RowKit
set_option linter.unusedVariables false
set_option linter.unusedSimpArgs false

set_option maxHeartbeats 2000000 in
theorem FnExactSameBlob_any (w : World) (t : Int) (v : Value) (xs : List Int) (S : Nat → Prop) (h : RdL tByte w S v xs) (t' : Int) (v' : Value) (xs' : List Int) (S' : Nat → Prop) (h' : RdL tByte w S' v' xs') :
    Calls Try.prog 4 #[.agg #[.int .u8 t, v], .agg #[.int .u8 t', v']] w fun e w' => e = .returned (.bool true) ∧ Ext w w' := by
  obtain ⟨A, cap, rfl, _, hlen, _⟩ := id h
  obtain ⟨A', cap', rfl, _, hlen', _⟩ := id h'
  have H := Lib.hid h
  have H' := Lib.hid h'
  clear h h'
  have hs := fun v v' W S S' (a : RdL tByte W S v xs) (b : RdL tByte W S' v' xs') => specSameBlob_any t t' v v' xs xs' W S S' a b
  have hi := fun v v' W S S' (a : RdL tByte W S v xs) (b : RdL tByte W S' v' xs') => implSameBlob_any t t' v v' xs xs' W S S' a b
  generalize (t == t' && xs == xs') = q at hs hi
  have HS := Lib.hid hs
  have HI := Lib.hid hi
  clear hs hi
  have hsz := fun W => szBlob_any t A xs.length cap 1048576 (by omega) (by omega) (by omega) W
  by_cases hl : (1048576 : Int) - (xs.length : Int) < 0
  · simp only [if_pos hl] at hsz
    go_enter Try.func4, Try.ntmps4
    go_wp2_with (go_at_call 15; refine (hsz _).mono ?_; rintro e w' ⟨rfl, hx⟩; have HX := Lib.hid hx; clear hx)
    go_ret
    exact ⟨rfl, ((ext_alloc w _).alloc _).trans HX.out⟩
  have hsz' := fun W => szBlob_any t' A' xs'.length cap' (1048576 - xs.length) (by omega) (by omega) (by omega) W
  simp only [if_neg hl] at hsz
  by_cases hl' : (1048576 : Int) - (xs.length : Int) - (xs'.length : Int) < 0
  · simp only [if_pos hl'] at hsz'
    go_enter Try.func4, Try.ntmps4
    go_wp2_with fail
    refine (hsz _).mono ?_
    rintro e w1 ⟨rfl, hx⟩
    have a0 : ∀ W, Ext w1 W → W.cell? ⟨w.heap.size, 0, none⟩ = some (.int .u8 t) := fun W h => h.cell (hx.cell (by go_simp))
    have a1 : ∀ W, Ext w1 W → W.cell? ⟨w.heap.size, 1, none⟩ = some (.slice A xs.length cap) := fun W h => h.cell (hx.cell (by go_simp))
    have b0 : ∀ W, Ext w1 W → W.cell? ⟨w.heap.size + 1, 0, none⟩ = some (.int .u8 t') := fun W h => h.cell (hx.cell (by go_simp))
    have b1 : ∀ W, Ext w1 W → W.cell? ⟨w.heap.size + 1, 1, none⟩ = some (.slice A' xs'.length cap') := fun W h => h.cell (hx.cell (by go_simp))
    have E := ((ext_alloc w _).alloc _).trans hx
    have XW := Lib.hid (E)
    have RW := Ext.refl w1
    have RA := fun o => ext_alloc w1 o
    clear hx E
    go_wp2_with fail
    refine (hsz' _).mono ?_
    rintro e w2 ⟨rfl, hx⟩
    have E := hx
    replace a0 := fun W (h : Ext w2 W) => a0 W (E.trans h)
    replace a1 := fun W (h : Ext w2 W) => a1 W (E.trans h)
    replace b0 := fun W (h : Ext w2 W) => b0 W (E.trans h)
    replace b1 := fun W (h : Ext w2 W) => b1 W (E.trans h)
    replace XW := Lib.hid (XW.out.trans E)
    clear RW RA
    have RW := Ext.refl w2
    have RA := fun o => ext_alloc w2 o
    clear hx E
    go_wp2_with fail
    go_ret
    exact ⟨rfl, XW.out⟩
  · simp only [if_neg hl'] at hsz'
    go_enter Try.func4, Try.ntmps4
    go_wp2_with fail
    refine (hsz _).mono ?_
    rintro e w1 ⟨rfl, hx⟩
    have a0 : ∀ W, Ext w1 W → W.cell? ⟨w.heap.size, 0, none⟩ = some (.int .u8 t) := fun W h => h.cell (hx.cell (by go_simp))
    have a1 : ∀ W, Ext w1 W → W.cell? ⟨w.heap.size, 1, none⟩ = some (.slice A xs.length cap) := fun W h => h.cell (hx.cell (by go_simp))
    have b0 : ∀ W, Ext w1 W → W.cell? ⟨w.heap.size + 1, 0, none⟩ = some (.int .u8 t') := fun W h => h.cell (hx.cell (by go_simp))
    have b1 : ∀ W, Ext w1 W → W.cell? ⟨w.heap.size + 1, 1, none⟩ = some (.slice A' xs'.length cap') := fun W h => h.cell (hx.cell (by go_simp))
    have E := ((ext_alloc w _).alloc _).trans hx
    have XW := Lib.hid (E)
    have RW := Ext.refl w1
    have RA := fun o => ext_alloc w1 o
    clear hx E
    go_wp2_with fail
    refine (hsz' _).mono ?_
    rintro e w2 ⟨rfl, hx⟩
    have E := hx
    replace a0 := fun W (h : Ext w2 W) => a0 W (E.trans h)
    replace a1 := fun W (h : Ext w2 W) => a1 W (E.trans h)
    replace b0 := fun W (h : Ext w2 W) => b0 W (E.trans h)
    replace b1 := fun W (h : Ext w2 W) => b1 W (E.trans h)
    replace XW := Lib.hid (XW.out.trans E)
    clear RW RA
    have RW := Ext.refl w2
    have RA := fun o => ext_alloc w2 o
    clear hx E
    clear hsz hsz'
    go_wp2_with fail
    go_region_held3 (fun W => Ext w2 W) (first | exact Ext.refl _ | exact (Ext.refl _).drew | exact Ext.trans (by assumption) (by assumption))
      (first
      | (go_at_call_of 17 (Value.int .u8 t); refine (toBlob_any t _ xs _ _ (H.out.ext (by decide) (XW.out.trans (by assumption)))).mono ?_; rintro e p1 ⟨u1, rfl, hp1, hy1⟩; obtain ⟨P1, k1, rfl⟩ := hp1.shape)
      | (go_at_call_of 17 (Value.int .u8 t'); refine (toBlob_any t' _ xs' _ _ (H'.out.ext (by decide) (XW.out.trans (by assumption)))).mono ?_; rintro e p2 ⟨u2, rfl, hp2, hy2⟩; obtain ⟨P2, k2, rfl⟩ := hp2.shape)
      | (go_at_call 20; refine (HS.out _ _ _ _ _ (hp1.ext hy2).rd hp2.rd).mono ?_; rintro e p3 ⟨rfl, hy3⟩))
    have E : Ext w2 p3 := (Ext.refl _).drew.trans (hy1.trans (hy2.trans hy3))
    replace a0 := fun W (h : Ext p3 W) => a0 W (E.trans h)
    replace a1 := fun W (h : Ext p3 W) => a1 W (E.trans h)
    replace b0 := fun W (h : Ext p3 W) => b0 W (E.trans h)
    replace b1 := fun W (h : Ext p3 W) => b1 W (E.trans h)
    replace XW := Lib.hid (XW.out.trans E)
    clear RW RA
    have RW := Ext.refl p3
    have RA := fun o => ext_alloc p3 o
    clear hp1 hp2 hy1 hy2 hy3 E
    go_wp2_with fail
    refine (toBlob_any t _ xs _ _ (H.out.ext (by decide) XW.out)).mono ?_
    rintro e w3 ⟨v4, rfl, ho, hx⟩
    obtain ⟨A4, c4, rfl⟩ := ho.shape
    have E := hx
    replace a0 := fun W (h : Ext w3 W) => a0 W (E.trans h)
    replace a1 := fun W (h : Ext w3 W) => a1 W (E.trans h)
    replace b0 := fun W (h : Ext w3 W) => b0 W (E.trans h)
    replace b1 := fun W (h : Ext w3 W) => b1 W (E.trans h)
    replace XW := Lib.hid (XW.out.trans E)
    clear RW RA
    have RW := Ext.refl w3
    have RA := fun o => ext_alloc w3 o
    clear hx E
    have O4 := Lib.hid ho
    clear ho
    go_wp2_with fail
    refine (toBlob_any t' _ xs' _ _ (H'.out.ext (by decide) (XW.out.alloc _))).mono ?_
    rintro e w4 ⟨v5, rfl, ho, hx⟩
    obtain ⟨A5, c5, rfl⟩ := ho.shape
    have x0 : ∀ W, Ext w4 W → W.cell? ⟨w3.heap.size, 0, none⟩ = some (.int .u8 t) := fun W h => h.cell (hx.cell (by go_simp))
    have x1 : ∀ W, Ext w4 W → W.cell? ⟨w3.heap.size, 1, none⟩ = some (.slice A4 xs.length c4) := fun W h => h.cell (hx.cell (by go_simp))
    have E := (ext_alloc w3 _).trans hx
    replace a0 := fun W (h : Ext w4 W) => a0 W (E.trans h)
    replace a1 := fun W (h : Ext w4 W) => a1 W (E.trans h)
    replace b0 := fun W (h : Ext w4 W) => b0 W (E.trans h)
    replace b1 := fun W (h : Ext w4 W) => b1 W (E.trans h)
    replace O4 := Lib.hid (O4.out.ext E)
    replace XW := Lib.hid (XW.out.trans E)
    clear RW RA
    have RW := Ext.refl w4
    have RA := fun o => ext_alloc w4 o
    clear hx E
    have O5 := Lib.hid ho
    clear ho
    go_wp2_with fail
    refine (HI.out _ _ _ _ _ (O4.out.ext (ext_alloc _ _)).rd (O5.out.ext (ext_alloc _ _)).rd).mono ?_
    rintro e w5 ⟨rfl, hx⟩
    have y0 : ∀ W, Ext w5 W → W.cell? ⟨w4.heap.size, 0, none⟩ = some (.int .u8 t') := fun W h => h.cell (hx.cell (by go_simp))
    have y1 : ∀ W, Ext w5 W → W.cell? ⟨w4.heap.size, 1, none⟩ = some (.slice A5 xs'.length c5) := fun W h => h.cell (hx.cell (by go_simp))
    have E := (ext_alloc w4 _).trans hx
    replace a0 := fun W (h : Ext w5 W) => a0 W (E.trans h)
    replace a1 := fun W (h : Ext w5 W) => a1 W (E.trans h)
    replace b0 := fun W (h : Ext w5 W) => b0 W (E.trans h)
    replace b1 := fun W (h : Ext w5 W) => b1 W (E.trans h)
    replace x0 := fun W (h : Ext w5 W) => x0 W (E.trans h)
    replace x1 := fun W (h : Ext w5 W) => x1 W (E.trans h)
    replace O4 := Lib.hid (O4.out.ext E)
    replace O5 := Lib.hid (O5.out.ext E)
    replace XW := Lib.hid (XW.out.trans E)
    clear RW RA
    have RW := Ext.refl w5
    have RA := fun o => ext_alloc w5 o
    clear hx E
    have hq : (q != q) = false := by simp
    go_wp2_with fail
    go_region_held3 (fun W => Ext w5 W) (first | exact Ext.refl _ | exact (Ext.refl _).drew | exact Ext.trans (by assumption) (by assumption))
      (first
      | (go_at_call_of 17 (Value.int .u8 t); refine (toBlob_any t _ xs _ _ (H.out.ext (by decide) (XW.out.trans (by assumption)))).mono ?_; rintro e p6 ⟨u6, rfl, hp6, hy6⟩; obtain ⟨P6, k6, rfl⟩ := hp6.shape)
      | (go_at_call 19; refine (eqBlob_any t t _ _ xs xs _ _ _ (O4.out.ext ((Ext.refl _).drew.trans hy6)).rd hp6.rd).mono ?_; rintro e q6 ⟨rfl, hz6⟩))
    have E : Ext w5 q6 := (Ext.refl _).drew.trans (hy6.trans hz6)
    replace a0 := fun W (h : Ext q6 W) => a0 W (E.trans h)
    replace a1 := fun W (h : Ext q6 W) => a1 W (E.trans h)
    replace b0 := fun W (h : Ext q6 W) => b0 W (E.trans h)
    replace b1 := fun W (h : Ext q6 W) => b1 W (E.trans h)
    replace x0 := fun W (h : Ext q6 W) => x0 W (E.trans h)
    replace x1 := fun W (h : Ext q6 W) => x1 W (E.trans h)
    replace y0 := fun W (h : Ext q6 W) => y0 W (E.trans h)
    replace y1 := fun W (h : Ext q6 W) => y1 W (E.trans h)
    replace O4 := Lib.hid (O4.out.ext E)
    replace O5 := Lib.hid (O5.out.ext E)
    replace XW := Lib.hid (XW.out.trans E)
    clear RW RA
    have RW := Ext.refl q6
    have RA := fun o => ext_alloc q6 o
    clear hp6 hy6 hz6 E
    go_wp2_with fail
    go_region_held3 (fun W => Ext q6 W) (first | exact Ext.refl _ | exact (Ext.refl _).drew | exact Ext.trans (by assumption) (by assumption))
      (first
      | (go_at_call_of 17 (Value.int .u8 t'); refine (toBlob_any t' _ xs' _ _ (H'.out.ext (by decide) (XW.out.trans (by assumption)))).mono ?_; rintro e p7 ⟨u7, rfl, hp7, hy7⟩; obtain ⟨P7, k7, rfl⟩ := hp7.shape)
      | (go_at_call 19; refine (eqBlob_any t' t' _ _ xs' xs' _ _ _ (O5.out.ext ((Ext.refl _).drew.trans hy7)).rd hp7.rd).mono ?_; rintro e q7 ⟨rfl, hz7⟩))
    have E : Ext q6 q7 := (Ext.refl _).drew.trans (hy7.trans hz7)
    replace a0 := fun W (h : Ext q7 W) => a0 W (E.trans h)
    replace a1 := fun W (h : Ext q7 W) => a1 W (E.trans h)
    replace b0 := fun W (h : Ext q7 W) => b0 W (E.trans h)
    replace b1 := fun W (h : Ext q7 W) => b1 W (E.trans h)
    replace x0 := fun W (h : Ext q7 W) => x0 W (E.trans h)
    replace x1 := fun W (h : Ext q7 W) => x1 W (E.trans h)
    replace y0 := fun W (h : Ext q7 W) => y0 W (E.trans h)
    replace y1 := fun W (h : Ext q7 W) => y1 W (E.trans h)
    replace O4 := Lib.hid (O4.out.ext E)
    replace O5 := Lib.hid (O5.out.ext E)
    replace XW := Lib.hid (XW.out.trans E)
    clear RW RA
    have RW := Ext.refl q7
    have RA := fun o => ext_alloc q7 o
    go_wp2_with fail
    go_ret
    exact ⟨rfl, XW.out⟩
end Go.Proofs.Ytepmhononinbkaa
