/- Keys compared. No condition. -/
import Derived.Test.YtikpakhccmdmcaaStrct
import Derived.Test.YtikpakhccmdmcaaNodeB
namespace Go.Proofs.Ytikpakhccmdmcaa
open Go.RowKit
set_option linter.unusedVariables false
set_option linter.unusedSimpArgs false

/-- which of two lists comes first -/
@[irreducible] def cmpL : List Int → List Int → Int
  | x :: a, y :: b => if x = y then cmpL a b else if x < y then -1 else 1
  | _, _ => 0
theorem cmpL_self (a : List Int) : cmpL a a = 0 := by
  induction a with
  | nil => rw [cmpL]; intro x a y b h; cases h
  | cons x r ih => rw [cmpL, if_pos rfl, ih]
theorem cmpL_at (a b : List Int) (k : Nat) (ha : k < a.length) (hb : k < b.length) (h : a.take k = b.take k) (hne : gI a k ≠ gI b k) : cmpL a b = if gI a k < gI b k then -1 else 1 := by
  induction k generalizing a b with
  | zero =>
    match a, b, ha, hb with
    | x :: a, y :: b, _, _ => 
      have hne' : x ≠ y := by simpa [gI] using hne
      rw [cmpL, if_neg hne']; simp [gI]
  | succ k ih =>
    match a, b, ha, hb with
    | x :: a, y :: b, ha, hb =>
      simp only [List.take_succ_cons, List.cons.injEq] at h
      rw [cmpL, if_pos h.1]
      have := ih a b (by simpa using ha) (by simpa using hb) h.2 (by simpa [gI] using hne)
      rw [this]; simp [gI]
set_option maxHeartbeats 1000000 in
set_option maxRecDepth 100000 in
theorem l01Compare_any (a b : List Int) (ha : K32 a) (hb : K32 b) (w : World) :
    Calls Try.prog 109 #[.agg (numsA .u8 a), .agg (numsA .u8 b)] w fun e w' => e = .returned (.int .i64 (cmpL a b)) ∧ Ext w w' := by
  have HA := Lib.hid ha.1
  have HB := Lib.hid hb.1
  go_enter Try.func109, Try.ntmps109
  go_wp2
  go_loopw [5] (fun i wr => ∃ k : Nat, k ≤ 32 ∧ i = .int .i64 k ∧ a.take k = b.take k ∧ Blk wr w.heap.size 45 (numsA .u8 a) ∧ Blk wr (w.heap.size + 1) 45 (numsA .u8 b) ∧ Ext w wr)
    (fun i _ => 32 - (intOf i).toNat)
  case atStart => exact ⟨0, by omega, rfl, by simp, (Blk.new w _ _).alloc _, Blk.new' (by simp) _ _, (ext_alloc _ _).alloc _⟩
  case round =>
    obtain ⟨k, hk, rfl, ht, h1, h2, hx⟩ := hrel
    have Ht := Lib.hid ht
    have HX := Lib.hid hx
    have H1 := Lib.hid h1
    have H2 := Lib.hid h2
    clear ht h1 h2 hx
    by_cases hlt : k < 32
    · have hd := H1.out.num k (by rw [HA.out]; exact hlt)
      have hd' := H2.out.num k (by rw [HB.out]; exact hlt)
      by_cases he : gI a k = gI b k
      · have He := Lib.hid he
        have hne : (gI a k != gI b k) = false := by simpa using he
        clear he
        go_wp2
        go_quiet (fail)
        go_wp2
        go_roundw
        case rel => exact ⟨k + 1, by omega, by go_num, take_eq_step (by rw [HA.out]; exact hlt) (by rw [HB.out]; exact hlt) Ht.out He.out, H1.out, H2.out, HX.out.drewN _⟩
        case measure => simp [intOf]; omega
      · have hc := cmpL_at a b k (by rw [HA.out]; exact hlt) (by rw [HB.out]; exact hlt) Ht.out he
        have Hc := Lib.hid hc
        clear hc
        have hne : (gI a k != gI b k) = true := by simpa using he
        clear he
        by_cases hlx : gI a k < gI b k
        · have hl2 : decide (gI a k < gI b k) = true := by simpa using hlx
          have Hl := Lib.hid hlx
          clear hlx
          go_wp2
          go_quiet (fail)
          go_wp2
          go_quiet (fail)
          go_wp2
          go_ret
          exact ⟨by rw [Hc.out, if_pos Hl.out]; rfl, (HX.out.drewN _).drewN _⟩
        · have hl2 : decide (gI a k < gI b k) = false := by simpa using hlx
          have Hl := Lib.hid hlx
          clear hlx
          go_wp2
          go_quiet (fail)
          go_wp2
          go_quiet (fail)
          go_wp2
          go_ret
          exact ⟨by rw [Hc.out, if_neg (Int.not_lt.2 Hl.out)]; rfl, (HX.out.drewN _).drewN _⟩
    · go_wp2
      go_ret
      obtain rfl : k = 32 := by omega
      refine ⟨?_, HX.out⟩
      have e := Ht.out
      rw [List.take_of_length_le (by rw [HA.out]; omega), List.take_of_length_le (by rw [HB.out]; omega)] at e
      subst e; rw [cmpL_self]; rfl
set_option maxHeartbeats 1000000 in
set_option maxRecDepth 100000 in
theorem isNaNB_any (x : Int) (w : World) : Calls Try.prog 140 #[.int .u8 x] w fun e w' => e = .returned (.bool false) ∧ w = w' := by
  have h : (x != x) = false := by simp
  go_enter Try.func140, Try.ntmps140
  go_wp2
  go_ret
  exact ⟨rfl, rfl⟩
set_option maxHeartbeats 1000000 in
set_option maxRecDepth 100000 in
theorem cmpB_any (x y : Int) (w : World) : Calls Try.prog 137 #[.int .u8 x, .int .u8 y] w fun e w' => e = .returned (.int .i64 (if x = y then 0 else if x < y then -1 else 1)) ∧ w = w' := by
  rcases Int.lt_trichotomy x y with h | h | h
  · rw [if_neg (by omega), if_pos h]
    go_enter Try.func137, Try.ntmps137
    go_wp2_with (go_at_call 140; refine (isNaNB_any _ _).mono ?_; rintro e w' ⟨rfl, rfl⟩)
    go_ret
    exact ⟨rfl, rfl⟩
  · subst h
    rw [if_pos rfl]
    go_enter Try.func137, Try.ntmps137
    go_wp2_with (go_at_call 140; refine (isNaNB_any _ _).mono ?_; rintro e w' ⟨rfl, rfl⟩)
    go_ret
    exact ⟨rfl, rfl⟩
  · have h2 : ¬ x < y := by omega
    rw [if_neg (by omega), if_neg h2]
    go_enter Try.func137, Try.ntmps137
    go_wp2_with (go_at_call 140; refine (isNaNB_any _ _).mono ?_; rintro e w' ⟨rfl, rfl⟩)
    go_ret
    exact ⟨rfl, rfl⟩
set_option maxHeartbeats 1000000 in
set_option maxRecDepth 100000 in
theorem slCompare_any (v u : Value) (a b : List Int) (w : World) (S S' : Nat → Prop) (h : RdL tByte w S v a) (h' : RdL tByte w S' u b) (hl : a.length = b.length) :
    Calls Try.prog 130 #[v, u] w fun e w' => e = .returned (.int .i64 (cmpL a b)) ∧ Ext w w' := by
  obtain ⟨A, cap, rfl, hcap, hlen, hrd, hok⟩ := h
  obtain ⟨A', cap', rfl, hcap', hlen', hrd', hok'⟩ := h'
  have Hrd := Lib.hid (show Rd w S 1 A a.length (nums .u8 a) by rw [← flat_bytes]; exact hrd)
  have Hrd' := Lib.hid (show Rd w S' 1 A' b.length (nums .u8 b) by rw [← flat_bytes]; exact hrd')
  have Hl := Lib.hid hl
  clear hrd hrd' hl
  go_enter Try.func130, Try.ntmps130
  go_wp2
  go_loopw [11] (fun i wr => ∃ k : Nat, k ≤ a.length ∧ i = .int .i64 k ∧ a.take k = b.take k ∧ Ext w wr) (fun i _ => a.length - (intOf i).toNat)
  case atStart => exact ⟨0, by omega, rfl, by simp, Ext.refl _⟩
  case round =>
    obtain ⟨k, hk, rfl, ht, hx⟩ := hrel
    have Ht := Lib.hid ht
    have HX := Lib.hid hx
    clear ht hx
    have hbl : (b.length : Int) = a.length := by rw [Hl.out]
    by_cases hlt : k < a.length
    · have hlt' : k < b.length := by rw [← Hl.out]; exact hlt
      obtain ⟨g, o, rfl, hs, hc⟩ := (Hrd.out).byte k hlt
      obtain ⟨g', o', rfl, hs', hc'⟩ := (Hrd'.out).byte k hlt'
      have hd := HX.out.cell hc
      have hd' := HX.out.cell hc'
      have hi : (0 : Int) ≤ (k : Int) := by omega
      have hi2 : (k : Int) < (a.length : Int) := by omega
      have hi3 : (k : Int) < (b.length : Int) := by omega
      clear hc hc' hbl
      have hcm := fun W => cmpB_any (gI a k) (gI b k) W
      by_cases he : gI a k = gI b k
      · have He := Lib.hid he
        simp only [if_pos he] at hcm
        clear he
        go_wp2_with fail
        refine (hcm _).mono ?_
        rintro e w' ⟨rfl, rfl⟩
        go_wp2
        go_roundw
        case rel => exact ⟨k + 1, by omega, by go_num, take_eq_step hlt hlt' Ht.out He.out, HX.out⟩
        case measure => simp [intOf]; omega
      · have HC := Lib.hid (cmpL_at a b k hlt hlt' Ht.out he)
        simp only [if_neg he] at hcm
        clear he
        by_cases hlx : gI a k < gI b k
        · have Hlx := Lib.hid hlx
          simp only [if_pos hlx] at hcm
          clear hlx
          go_wp2_with fail
          refine (hcm _).mono ?_
          rintro e w' ⟨rfl, rfl⟩
          go_wp2
          go_ret
          exact ⟨by rw [HC.out, if_pos Hlx.out]; rfl, HX.out⟩
        · have Hlx := Lib.hid (Int.not_lt.1 hlx)
          simp only [if_neg hlx] at hcm
          clear hlx
          go_wp2_with fail
          refine (hcm _).mono ?_
          rintro e w' ⟨rfl, rfl⟩
          go_wp2
          go_ret
          exact ⟨by rw [HC.out, if_neg (Int.not_lt.2 Hlx.out)]; rfl, HX.out⟩
    · have hq : ¬ (a.length : Int) < (b.length : Int) := by omega
      clear hbl
      go_wp2
      go_ret
      obtain rfl : k = a.length := by omega
      refine ⟨?_, HX.out⟩
      have e := Ht.out
      rw [List.take_of_length_le (by omega), List.take_of_length_le (by rw [← Hl.out]; omega)] at e
      subst e; rw [cmpL_self]; rfl
theorem numsA_full {xs : List Int} (j : Nat) (u : Value) (hu : (numsA .u8 xs)[j]? = some u) : (numsA .u8 xs)[0 + j]? = some u := by rw [Nat.zero_add]; exact hu
set_option maxHeartbeats 1000000 in
set_option maxRecDepth 100000 in
theorem compareKeys_any (a b : List Int) (ha : K32 a) (hb : K32 b) (w : World) :
    Calls Try.prog 119 #[.agg (numsA .u8 a), .agg (numsA .u8 b)] w fun e w' => e = .returned (.int .i64 (cmpL a b)) ∧ Ext w w' := by
  have HA := Lib.hid ha
  have HB := Lib.hid hb
  clear ha hb
  go_enter Try.func119, Try.ntmps119
  go_wp2_with fail
  go_region_held3 (fun W => Ext ((w.alloc (.cells (numsA .u8 a) 45)).alloc (.cells (numsA .u8 b) 45)) W) (first | exact Ext.refl _ | exact (Ext.refl _).drew | exact Ext.trans (by assumption) (by assumption))
    (first
    | (go_at_call 130; refine (slCompare_any _ _ a b _ _ _ (rdl_blk (((Blk.new w 45 (numsA .u8 a)).alloc _).ext ((Ext.refl _).drew)) numsA_full HA.out.1 HA.out.2 (by decide) 32 (Nat.le_refl _)) (rdl_blk ((Blk.new' (g := w.heap.size + 1) (w := w.alloc (.cells (numsA .u8 a) 45)) (by simp) 45 (numsA .u8 b)).ext ((Ext.refl _).drew)) numsA_full HB.out.1 HB.out.2 (by decide) 32 (Nat.le_refl _)) (by rw [HA.out.1, HB.out.1])).mono ?_; rintro e p1 ⟨rfl, hx⟩))
  go_wp2
  go_ret
  exact ⟨rfl, ((ext_alloc w _).alloc _).trans (by assumption)⟩

end Go.Proofs.Ytikpakhccmdmcaa
