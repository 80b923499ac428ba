/- One bit of a pack is changed: the reference and the program. No condition. -/
import Derived.Test.YtepmhononinbkaaSlc
import Derived.RegionTactic
import Derived.OpenShut
namespace Go.Proofs.Ytepmhononinbkaa
open Go.RowKit Go.WideShapes
set_option linter.unusedVariables false
set_option linter.unusedSimpArgs false

def spoil (x b : Int) : Int := bits BinOp.xor IntKind.u8 x (2 ^ b.toNat % 256)
theorem spoil_ok (x b : Int) : 0 ≤ spoil x b ∧ spoil x b ≤ 255 := by
  have h : (Lit.int .u8 (spoil x b)).wf = true := Go.wf_bits ..
  simpa [Lit.wf, IntKind.min, IntKind.max, IntKind.signed, IntKind.bits] using h
def spoilR (xs : List Int) (a b : Int) : List Int × Int :=
  if 140000 < xs.length then ([], 3) else if ¬ ((0 ≤ a ∧ a ≤ xs.length - 1) ∧ 0 ≤ b ∧ b ≤ 7) then ([], 2) else (xs.set a.toNat (spoil (gI xs a.toNat) b), 0)

set_option maxHeartbeats 1000000 in
set_option maxRecDepth 100000 in
theorem specSpoil_ok (v : Value) (xs : List Int) (w : World) (S : Nat → Prop) (h : RdL tByte w S v xs) (hl : xs.length ≤ 140000) (k : Nat) (hk : k < xs.length) (b : Int) (hb0 : 0 ≤ b) (hb : b ≤ 7) :
    Calls Try.prog 22 #[v, .int .i64 k, .int .i64 b] w fun e w' => ∃ v', e = .returned (.tuple #[v', .int .i64 0]) ∧ Own tByte 5 w' w.heap.size v' (xs.set k (spoil (gI xs k) b)) ∧ Ext w w' := by
  have H := Lib.hid h
  obtain ⟨A, cap, rfl, hcap, hlen, hrd, hok⟩ := h
  have Hrd := Lib.hid hrd
  have Hok := Lib.hid hok
  have hb8 := B8.get hok k
  clear hrd hok
  have c1 : (decide ((0 : Int) ≤ k) && decide ((k : Int) ≤ xs.length - 1)) = true := by simp; omega
  have c2 : (decide ((0 : Int) ≤ b) && decide (b ≤ 7)) = true := by simp; omega
  have i1 := fun W => l00In_any k 0 (xs.length - 1) W
  have i2 := fun W => l00In_any b 0 7 W
  rw [c1] at i1
  rw [c2] at i2
  clear c1 c2
  go_enter Try.func22, Try.ntmps22
  go_wp2_with fail
  refine (i1 _).mono ?_
  rintro e w' ⟨rfl, rfl⟩
  go_wp2_with fail
  refine (i2 _).mono ?_
  rintro e w' ⟨rfl, rfl⟩
  clear i1 i2
  go_wp2_with (at_builtin; refine wpl_append rowByte rfl _ _ rfl (v := .slice (some ⟨w.heap.size, 0, none⟩) 0 0) rfl (Own.empty tByte _ 5 w.heap.size (Nat.le_refl _)) _ _ rfl rfl (Hrd.out.ext (by decide) (ext_alloc _ _)) Hok.out (by simp; omega) (by simp) ?_; intro v1 w1 ho1 hg1 hat1; rw [List.nil_append] at ho1; obtain ⟨g1, c1, rfl, hb1, hlt1, hc1, hf1, hs1⟩ := ho1.byte k hk; have HX := Lib.hid ((ext_alloc w _).grown hg1 (fun k hk => Nat.le_of_eq (Option.some.inj hk))); have HS := Lib.hid hs1; clear ho1 hg1 hat1 hs1)
  go_ret2
  exact ⟨_, rfl, HS.out _ (spoil_ok _ _).1 (spoil_ok _ _).2, HX.out.set hb1 _⟩

set_option maxHeartbeats 1000000 in
set_option maxRecDepth 100000 in
theorem specSpoil_long (v : Value) (xs : List Int) (w : World) (S : Nat → Prop) (h : RdL tByte w S v xs) (hl : 140000 < xs.length) (a b : Int) :
    Calls Try.prog 22 #[v, .int .i64 a, .int .i64 b] w fun e w' => ∃ v', e = .returned (.tuple #[v', .int .i64 3]) ∧ Own tByte 5 w' w.heap.size v' [] ∧ Ext w w' := by
  obtain ⟨A, cap, rfl, hcap, hlen, _⟩ := h
  go_enter Try.func22, Try.ntmps22
  go_wp2_with fail
  go_ret2
  exact ⟨_, rfl, Own.empty _ _ _ _ (Nat.le_refl _), ext_alloc _ _⟩

set_option maxHeartbeats 1000000 in
set_option maxRecDepth 100000 in
theorem specSpoil_range (v : Value) (xs : List Int) (w : World) (S : Nat → Prop) (h : RdL tByte w S v xs) (hl : xs.length ≤ 140000) (a b : Int) (hr : ¬ ((0 ≤ a ∧ a ≤ xs.length - 1) ∧ 0 ≤ b ∧ b ≤ 7)) :
    Calls Try.prog 22 #[v, .int .i64 a, .int .i64 b] w fun e w' => ∃ v', e = .returned (.tuple #[v', .int .i64 2]) ∧ Own tByte 5 w' w.heap.size v' [] ∧ Ext w w' := by
  obtain ⟨A, cap, rfl, hcap, hlen, _⟩ := h
  have i1 := fun W => l00In_any a 0 (xs.length - 1) W
  have i2 := fun W => l00In_any b 0 7 W
  by_cases h1 : 0 ≤ a ∧ a ≤ (xs.length : Int) - 1
  · have c1 : (decide ((0 : Int) ≤ a) && decide (a ≤ (xs.length : Int) - 1)) = true := by simp; omega
    have c2 : (decide ((0 : Int) ≤ b) && decide (b ≤ 7)) = false := by
      rw [Bool.eq_false_iff]; intro h; simp at h; exact hr ⟨h1, by omega, by omega⟩
    rw [c1] at i1
    rw [c2] at i2
    clear c1 c2 hr h1
    go_enter Try.func22, Try.ntmps22
    go_wp2_with fail
    refine (i1 _).mono ?_
    rintro e w' ⟨rfl, rfl⟩
    go_wp2_with fail
    refine (i2 _).mono ?_
    rintro e w' ⟨rfl, rfl⟩
    clear i1 i2
    go_wp2_with fail
    go_ret2
    exact ⟨_, rfl, Own.empty _ _ _ _ (Nat.le_refl _), ext_alloc _ _⟩
  · have c1 : (decide ((0 : Int) ≤ a) && decide (a ≤ (xs.length : Int) - 1)) = false := by
      rw [Bool.eq_false_iff]; intro h; simp at h; exact h1 ⟨by omega, by omega⟩
    rw [c1] at i1
    clear c1 hr h1 i2
    go_enter Try.func22, Try.ntmps22
    go_wp2_with fail
    refine (i1 _).mono ?_
    rintro e w' ⟨rfl, rfl⟩
    clear i1
    go_wp2_with fail
    go_ret2
    exact ⟨_, rfl, Own.empty _ _ _ _ (Nat.le_refl _), ext_alloc _ _⟩

theorem specSpoil_any (v : Value) (xs : List Int) (w : World) (S : Nat → Prop) (h : RdL tByte w S v xs) (a b : Int) :
    Calls Try.prog 22 #[v, .int .i64 a, .int .i64 b] w fun e w' => ∃ v', e = .returned (.tuple #[v', .int .i64 (spoilR xs a b).2]) ∧ Own tByte 5 w' w.heap.size v' (spoilR xs a b).1 ∧ Ext w w' := by
  unfold spoilR
  split
  · exact specSpoil_long v xs w S h (by assumption) a b
  · split
    · exact specSpoil_range v xs w S h (by omega) a b (by assumption)
    · rename_i h1 h2
      have h3 : (0 ≤ a ∧ a ≤ (xs.length : Int) - 1) ∧ 0 ≤ b ∧ b ≤ 7 := Decidable.not_not.1 h2
      have h4 := specSpoil_ok v xs w S h (by omega) a.toNat (by omega) b h3.2.1 h3.2.2
      rwa [Int.toNat_of_nonneg h3.1.1] at h4

set_option maxHeartbeats 1000000 in
set_option maxRecDepth 100000 in
theorem implSpoil_ok (v : Value) (xs : List Int) (w : World) (S : Nat → Prop) (h : RdL tByte w S v xs) (hl : xs.length ≤ 140000) (k : Nat) (hk : k < xs.length) (b : Int) (hb0 : 0 ≤ b) (hb : b ≤ 7) :
    Calls Try.prog 24 #[v, .int .i64 k, .int .i64 b] w fun e w' => ∃ v', e = .returned (.tuple #[v', .int .i64 0]) ∧ Own tByte 5 w' w.heap.size v' (xs.set k (spoil (gI xs k) b)) ∧ Ext w w' := by
  have H := Lib.hid h
  obtain ⟨A, cap, rfl, hcap, hlen, hrd, hok⟩ := h
  have Hrd := Lib.hid hrd
  have Hok := Lib.hid hok
  have hb8 := B8.get hok k
  clear hrd hok
  have c1 : (decide ((0 : Int) ≤ k) && decide ((k : Int) ≤ xs.length - 1)) = true := by simp; omega
  have c2 : (decide ((0 : Int) ≤ b) && decide (b ≤ 7)) = true := by simp; omega
  have i1 := fun W => within_any k 0 (xs.length - 1) W
  have i2 := fun W => within_any b 0 7 W
  rw [c1] at i1
  rw [c2] at i2
  clear c1 c2
  go_enter Try.func24, Try.ntmps24
  go_wp2_with fail
  refine (sizeB_any _ _ _ _).mono ?_
  rintro e w' ⟨rfl, rfl⟩
  go_wp2_with fail
  refine (i1 _).mono ?_
  rintro e w' ⟨rfl, rfl⟩
  go_wp2_with fail
  refine (i2 _).mono ?_
  rintro e w' ⟨rfl, rfl⟩
  clear i1 i2
  go_wp2_with fail
  refine (cloneB_any _ xs _ S H.out (by omega)).mono ?_
  rintro e w1 ⟨v1, rfl, ho1, hx1⟩
  obtain ⟨g1, c1, rfl, hb1, hlt1, hc1, hf1, hs1⟩ := ho1.byte k hk
  have HX := Lib.hid hx1
  have HS := Lib.hid hs1
  clear ho1 hx1 hs1
  go_wp2_with fail
  go_region
  all_goals
    go_wp2_with fail
    go_ret2
    exact ⟨_, rfl, HS.out _ (spoil_ok _ _).1 (spoil_ok _ _).2, HX.out.drew.set hb1 _⟩

set_option maxHeartbeats 1000000 in
set_option maxRecDepth 100000 in
theorem implSpoil_long (v : Value) (xs : List Int) (w : World) (S : Nat → Prop) (h : RdL tByte w S v xs) (hl : 140000 < xs.length) (a b : Int) :
    Calls Try.prog 24 #[v, .int .i64 a, .int .i64 b] w fun e w' => ∃ v', e = .returned (.tuple #[v', .int .i64 3]) ∧ Own tByte 5 w' w.heap.size v' [] ∧ Ext w w' := by
  obtain ⟨A, cap, rfl, hcap, hlen, _⟩ := h
  go_enter Try.func24, Try.ntmps24
  go_wp2_with fail
  go_ret2
  exact ⟨_, rfl, Own.nil _ _ _ _, Ext.refl _⟩

set_option maxHeartbeats 1000000 in
set_option maxRecDepth 100000 in
theorem implSpoil_range (v : Value) (xs : List Int) (w : World) (S : Nat → Prop) (h : RdL tByte w S v xs) (hl : xs.length ≤ 140000) (a b : Int) (hr : ¬ ((0 ≤ a ∧ a ≤ xs.length - 1) ∧ 0 ≤ b ∧ b ≤ 7)) :
    Calls Try.prog 24 #[v, .int .i64 a, .int .i64 b] w fun e w' => ∃ v', e = .returned (.tuple #[v', .int .i64 2]) ∧ Own tByte 5 w' w.heap.size v' [] ∧ Ext w w' := by
  obtain ⟨A, cap, rfl, hcap, hlen, _⟩ := h
  have i1 := fun W => within_any a 0 (xs.length - 1) W
  have i2 := fun W => within_any b 0 7 W
  by_cases h1 : 0 ≤ a ∧ a ≤ (xs.length : Int) - 1
  · have c1 : (decide ((0 : Int) ≤ a) && decide (a ≤ (xs.length : Int) - 1)) = true := by simp; omega
    have c2 : (decide ((0 : Int) ≤ b) && decide (b ≤ 7)) = false := by
      rw [Bool.eq_false_iff]; intro h; simp at h; exact hr ⟨h1, by omega, by omega⟩
    rw [c1] at i1
    rw [c2] at i2
    clear c1 c2 hr h1
    go_enter Try.func24, Try.ntmps24
    go_wp2_with fail
    refine (sizeB_any _ _ _ _).mono ?_
    rintro e w' ⟨rfl, rfl⟩
    go_wp2_with fail
    refine (i1 _).mono ?_
    rintro e w' ⟨rfl, rfl⟩
    go_wp2_with fail
    refine (i2 _).mono ?_
    rintro e w' ⟨rfl, rfl⟩
    clear i1 i2
    go_wp2_with fail
    go_ret2
    exact ⟨_, rfl, Own.nil _ _ _ _, Ext.refl _⟩
  · have c1 : (decide ((0 : Int) ≤ a) && decide (a ≤ (xs.length : Int) - 1)) = false := by
      rw [Bool.eq_false_iff]; intro h; simp at h; exact h1 ⟨by omega, by omega⟩
    rw [c1] at i1
    clear c1 hr h1 i2
    go_enter Try.func24, Try.ntmps24
    go_wp2_with fail
    refine (sizeB_any _ _ _ _).mono ?_
    rintro e w' ⟨rfl, rfl⟩
    go_wp2_with fail
    refine (i1 _).mono ?_
    rintro e w' ⟨rfl, rfl⟩
    clear i1
    go_wp2_with fail
    go_ret2
    exact ⟨_, rfl, Own.nil _ _ _ _, Ext.refl _⟩

theorem implSpoil_any (v : Value) (xs : List Int) (w : World) (S : Nat → Prop) (h : RdL tByte w S v xs) (a b : Int) :
    Calls Try.prog 24 #[v, .int .i64 a, .int .i64 b] w fun e w' => ∃ v', e = .returned (.tuple #[v', .int .i64 (spoilR xs a b).2]) ∧ Own tByte 5 w' w.heap.size v' (spoilR xs a b).1 ∧ Ext w w' := by
  unfold spoilR
  split
  · exact implSpoil_long v xs w S h (by assumption) a b
  · split
    · exact implSpoil_range v xs w S h (by omega) a b (by assumption)
    · rename_i h1 h2
      have h3 : (0 ≤ a ∧ a ≤ (xs.length : Int) - 1) ∧ 0 ≤ b ∧ b ≤ 7 := Decidable.not_not.1 h2
      have h4 := implSpoil_ok v xs w S h (by omega) a.toNat (by omega) b h3.2.1 h3.2.2
      rwa [Int.toNat_of_nonneg h3.1.1] at h4

end Go.Proofs.Ytepmhononinbkaa
