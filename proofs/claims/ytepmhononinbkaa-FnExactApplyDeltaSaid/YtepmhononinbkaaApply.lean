/- What a program makes of a base: the reference and the program. No condition. -/
import Derived.Test.YtepmhononinbkaaDelta
import Derived.Test.YtepmhononinbkaaSlc
import Derived.Test.YtepmhononinbkaaLittle
import Derived.Deep.RegionLaw
namespace Go.Proofs.Ytepmhononinbkaa
open Go.RowKit
set_option linter.unusedVariables false
set_option linter.unusedSimpArgs false

set_option maxHeartbeats 1000000 in
set_option maxRecDepth 100000 in
theorem l06Apply_any (v u : Value) (base p : List Int) (w : World) (S S' : Nat → Prop) (h : RdL tByte w S v base) (h' : RdL tByte w S' u p) (hb : base.length ≤ 1024) (hp : p.length ≤ 1024) :
    Calls Try.prog 96 #[v, u] w fun e w' => ∃ v', e = .returned (.tuple #[v', .int .i64 (applyL base p []).2]) ∧ Own tByte 5 w' w.heap.size v' (applyL base p []).1 ∧ Ext w w' := by
  obtain ⟨A, cap, rfl, hcap, hlen, hrd, hok⟩ := h
  obtain ⟨A', cap', rfl, hcap', hlen', hrd', hok'⟩ := h'
  have Hrd := Lib.hid (show Rd w S 1 A base.length (nums .u8 base) by rw [← flat_bytes]; exact hrd)
  have Hrd' := Lib.hid (show Rd w S' 1 A' p.length (nums .u8 p) by rw [← flat_bytes]; exact hrd')
  have Hok := Lib.hid hok
  have Hok' := Lib.hid hok'
  clear hrd hrd' hok hok'
  go_enter Try.func96, Try.ntmps96
  go_wp2_with fail
  go_loopw [6, 7] (fun o i wr => ∃ (k : Nat) (out : List Int), k ≤ p.length ∧ i = .int .i64 k ∧ applyL base p [] = applyL base (p.drop k) out ∧ out.length ≤ 255 * k ∧ Own tByte 5 wr w.heap.size o out ∧ Ext w wr)
    (fun _ i _ => p.length - (intOf i).toNat)
  case atStart => exact ⟨0, [], by omega, rfl, by simp, by simp, Own.empty _ _ _ _ (Nat.le_refl _), ext_alloc _ _⟩
  case round =>
    obtain ⟨k, out, hk, rfl, hF, hol, hO, hX⟩ := hrel
    have HF := Lib.hid hF
    have HO := Lib.hid hO
    have HX := Lib.hid hX
    obtain ⟨B, bc, rfl⟩ := hO.shape
    clear hF hO hX
    have Hl := Lib.hid (show (p.drop k).length = p.length - k by simp)
    by_cases hlt : k < p.length
    · obtain ⟨g, o, hA', hs, hc⟩ := (Hrd'.out).byte k hlt
      subst hA'
      replace hc := HX.out.cell hc
      have hB0 := B8.get Hok'.out k
      by_cases hk2 : 1 < gI p k
      · have hbad : applyL base (p.drop k) out = ([], 5) := applyL_bad _ _ _ (by rw [Hl.out]; omega) (by rw [gI_drop]; intro h; have := h.1; simp at this; omega) (by rw [gI_drop]; intro h; have := h.1; simp at this; omega)
        have HB := Lib.hid hbad
        clear hbad
        go_wp2_with fail
        go_ret2
        rw [HF.out, HB.out]
        exact ⟨_, rfl, Own.empty _ _ _ _ HX.out.size, HX.out.alloc _⟩
      have hk01 : gI p k = 0 ∨ gI p k = 1 := by omega
      rcases hk01 with h0 | h1
      · rw [h0] at hc
        have HZ := Lib.hid h0
        clear h0 hB0 hk2
        have hbadn : ¬ (1 < (p.drop k).length ∧ 0 < gI p (k + 1) ∧ 2 + (gI p (k + 1)).toNat ≤ (p.drop k).length) → applyL base (p.drop k) out = ([], 5) := fun hh => applyL_bad _ _ _ (by rw [Hl.out]; omega) (by rw [gI_drop, gI_drop]; exact fun q => hh q.2) (by rw [gI_drop]; intro q; have h9 := HZ.out; have := q.1; simp at this; omega)
        have HBn := Lib.hid hbadn
        clear hbadn
        by_cases hlen2 : p.length < k + 2
        · go_wp2_with fail
          go_ret2
          rw [HF.out, HBn.out (by rw [Hl.out]; omega)]
          exact ⟨_, rfl, Own.empty _ _ _ _ HX.out.size, HX.out.alloc _⟩
        obtain ⟨g', o', hA2, _, hc1⟩ := (Hrd'.out).byte (k + 1) (by omega)
        obtain ⟨rfl, rfl⟩ : g' = g ∧ o' = o := by injection hA2 with h; injection h with h1 h2; exact ⟨h1.symm, h2.symm⟩
        replace hc1 := HX.out.cell hc1
        have hB1 := B8.get Hok'.out (k + 1)
        clear hA2
        by_cases hz : gI p (k + 1) = 0
        · have HZ1 := Lib.hid hz
          rw [hz] at hc1
          clear hz hB1
          go_wp2_with fail
          go_ret2
          rw [HF.out, HBn.out (by rw [HZ1.out]; omega)]
          exact ⟨_, rfl, Own.empty _ _ _ _ HX.out.size, HX.out.alloc _⟩
        have hne : (gI p (k + 1) == 0) = false := by simpa using hz
        by_cases hlen3 : p.length < k + 2 + (gI p (k + 1)).toNat
        · go_wp2_with fail
          go_ret2
          rw [HF.out, HBn.out (by rw [Hl.out]; omega)]
          exact ⟨_, rfl, Own.empty _ _ _ _ HX.out.size, HX.out.alloc _⟩
        · have hgood := applyL_lit base (p.drop k) out (by rw [gI_drop]; exact HZ.out) (by rw [Hl.out]; omega) (by rw [gI_drop]; omega) (by rw [gI_drop, Hl.out]; omega)
          rw [gI_drop, List.drop_drop, List.drop_drop] at hgood
          have HG := Lib.hid hgood
          clear hgood
          go_wp2_with (at_builtin; refine wpl_append rowByte rfl _ _ rfl (v := .slice B out.length bc) rfl HO.out _ _ rfl (ys := (p.drop (k + 2)).take (gI p (k + 1)).toNat) (S := S') (by simp; omega) ((Hrd'.out.ext (by decide) HX.out).sub8 (k + 2) _ (by omega)) (fun x hx => Hok'.out x (List.mem_of_mem_drop (List.mem_of_mem_take hx))) (by simp; omega) HX.out.size ?_; intro v1 w1 ho1 hg1 hat1; have HO1 := Lib.hid ho1; have HX1 := Lib.hid (HO.out.ext_app HX.out hg1); obtain ⟨B1, bn1, bc1, rfl⟩ := ho1.shape3; clear ho1 hg1 hat1)
          go_roundw
          case rel => exact ⟨k + (2 + (gI p (k + 1)).toNat), _, by omega, by congr 1; omega, HF.out.trans HG.out, by simp; omega, HO1.out, HX1.out⟩
          case measure => simp [intOf]; omega
      · rw [h1] at hc
        have HZ := Lib.hid h1
        clear h1 hB0 hk2
        have hbadn : ¬ (3 < (p.drop k).length ∧ 0 < gI p (k + 3) ∧ (gI p (k + 1) + 256 * gI p (k + 2)).toNat + (gI p (k + 3)).toNat ≤ base.length) → applyL base (p.drop k) out = ([], 5) := fun hh => applyL_bad _ _ _ (by rw [Hl.out]; omega) (by rw [gI_drop]; intro q; have h9 := HZ.out; have := q.1; simp at this; omega) (by rw [gI_drop, gI_drop, gI_drop, gI_drop]; exact fun q => hh q.2)
        have HBn := Lib.hid hbadn
        clear hbadn
        by_cases hlen4 : p.length < k + 4
        · go_wp2_with fail
          go_ret2
          rw [HF.out, HBn.out (by rw [Hl.out]; omega)]
          exact ⟨_, rfl, Own.empty _ _ _ _ HX.out.size, HX.out.alloc _⟩
        obtain ⟨g', o', hA2, _, hc1⟩ := (Hrd'.out).byte (k + 1) (by omega)
        obtain ⟨rfl, rfl⟩ : g' = g ∧ o' = o := by injection hA2 with h; injection h with h1 h2; exact ⟨h1.symm, h2.symm⟩
        obtain ⟨g'', o'', hA3, _, hc2⟩ := (Hrd'.out).byte (k + 2) (by omega)
        obtain ⟨rfl, rfl⟩ : g'' = g' ∧ o'' = o' := by injection hA3 with h; injection h with h1 h2; exact ⟨h1.symm, h2.symm⟩
        obtain ⟨g3, o3, hA4, _, hc3⟩ := (Hrd'.out).byte (k + 3) (by omega)
        obtain ⟨rfl, rfl⟩ : g3 = g'' ∧ o3 = o'' := by injection hA4 with h; injection h with h1 h2; exact ⟨h1.symm, h2.symm⟩
        replace hc1 := HX.out.cell hc1
        replace hc2 := HX.out.cell hc2
        replace hc3 := HX.out.cell hc3
        have hB1 := B8.get Hok'.out (k + 1)
        have hB2 := B8.get Hok'.out (k + 2)
        have hB3 := B8.get Hok'.out (k + 3)
        clear hA2 hA3 hA4
        by_cases hz : gI p (k + 3) = 0
        · have HZ1 := Lib.hid hz
          rw [hz] at hc3
          clear hz hB3
          go_wp2_with fail
          go_ret2
          rw [HF.out, HBn.out (by rw [HZ1.out]; omega)]
          exact ⟨_, rfl, Own.empty _ _ _ _ HX.out.size, HX.out.alloc _⟩
        have hne : (gI p (k + 3) == 0) = false := by simpa using hz
        by_cases hfit : base.length < (gI p (k + 1) + 256 * gI p (k + 2)).toNat + (gI p (k + 3)).toNat
        · go_wp2_with fail
          go_quiet (fail)
          go_wp2_with fail
          go_ret2
          rw [HF.out, HBn.out (by omega)]
          exact ⟨_, rfl, Own.empty _ _ _ _ HX.out.size, (HX.out.drewN _).alloc _⟩
        · have hgood := applyL_copy base (p.drop k) out (by rw [gI_drop]; exact HZ.out) (by rw [Hl.out]; omega) (by rw [gI_drop]; omega) (by rw [gI_drop, gI_drop, gI_drop]; omega)
          rw [gI_drop, gI_drop, gI_drop, List.drop_drop] at hgood
          have HG := Lib.hid hgood
          clear hgood
          obtain ⟨gb, ob, hA5, _, _⟩ := Hrd.out.2 (by omega)
          subst hA5
          go_wp2_with fail
          go_quiet (fail)
          go_wp2_with (at_builtin; refine wpl_append rowByte rfl _ _ rfl (v := .slice B out.length bc) rfl (HO.out.drewN _) _ _ rfl (ys := (base.drop (gI p (k + 1) + 256 * gI p (k + 2)).toNat).take (gI p (k + 3)).toNat) (S := S) (by simp; omega) (((Hrd.out.ext (by decide) HX.out).ext (by decide) ((Ext.refl _).drewN _)).sub8 _ _ (by omega)) (fun x hx => Hok.out x (List.mem_of_mem_drop (List.mem_of_mem_take hx))) (by simp; omega) HX.out.size ?_; intro v1 w1 ho1 hg1 hat1; have HO1 := Lib.hid ho1; have HX1 := Lib.hid ((HO.out.drewN _).ext_app (HX.out.drewN _) hg1); obtain ⟨B1, bn1, bc1, rfl⟩ := ho1.shape3; clear ho1 hg1 hat1)
          go_roundw
          case rel => exact ⟨k + 4, _, by omega, by congr 1, HF.out.trans HG.out, by simp; omega, HO1.out, HX1.out⟩
          case measure => simp [intOf]; omega
    · obtain rfl : k = p.length := by omega
      have hend := applyL_end base out
      rw [List.drop_length] at HF
      by_cases h1 : 1024 < out.length
      · rw [if_pos h1] at hend
        have HE := Lib.hid hend
        clear hend
        go_wp2_with fail
        go_ret2
        rw [HF.out, HE.out]
        exact ⟨_, rfl, Own.empty _ _ _ _ HX.out.size, HX.out.alloc _⟩
      · rw [if_neg h1] at hend
        have HE := Lib.hid hend
        clear hend
        go_wp2_with fail
        go_ret2
        rw [HF.out, HE.out]
        exact ⟨_, rfl, HO.out, HX.out⟩

end Go.Proofs.Ytepmhononinbkaa
