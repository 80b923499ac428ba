/- The place of the greatest priority: the reference. No condition. -/
import Derived.Test.YtikpakhccmdmcaaTreeP
namespace Go.Proofs.Ytikpakhccmdmcaa
open Go.RowKit
set_option linter.unusedVariables false
set_option linter.unusedSimpArgs false

set_option maxHeartbeats 1000000 in
set_option maxRecDepth 100000 in
theorem l04Top_any (v : Value) (L : List En) (h0 : 0 < L.length) (hg : good L) (w : World) (S : Nat → Prop) (h : RdL tEnt w S v L) :
    Calls Try.prog 86 #[v] w fun e w' => e = .returned (.int .i64 (topE L)) ∧ Ext w w' := by
  obtain ⟨A, cap, rfl, hcap, hlen, hrd, hok⟩ := h
  have Hrd := Lib.hid hrd
  have Hok := Lib.hid hok
  have HG := Lib.hid hg
  clear hrd hok hg
  have hsz : ∀ k (hk : k < L.length), L[k].1.size ≤ 1048576 := fun k hk => by have := entB_le (HG.out _ (List.getElem_mem hk)).2; omega
  have HSZ := Lib.hid hsz
  obtain ⟨g, o, rfl, hs0, hc⟩ := Hrd.out.elem Hok.out 0 h0
  have d0 : w.cell? ⟨g, o, none⟩ = some (.string L[0].1) := by have := hc 0 _ rfl; simpa using this
  have i0 : (0 : Int) < (L.length : Int) := by omega
  have hT := topE
  have HTE := Lib.hid (show topE L = topI (prios L) L.length from rfl)
  have HT1 := Lib.hid (topI_one (prios L))
  have HP0 := Lib.hid (prios_at L 0 h0)
  clear hc hsz hT
  go_enter Try.func86, Try.ntmps86
  go_wp2_with fail
  refine (l04Priority_any L[0].1 (HSZ.out 0 h0) _).mono ?_
  rintro e w1 ⟨rfl, hx⟩
  have HX1 := Lib.hid hx
  have HK := Lib.hid (fun k => (prioL_ok k).1)
  clear hx d0
  go_wp2_with (refine wpl_storeNew aggKey (HK.out _) rfl rfl _ _ rfl rfl rfl rfl ?_)
  go_loopw [3, 5] (fun b i wr => ∃ k : Nat, 1 ≤ k ∧ k ≤ L.length ∧ i = .int .i64 k ∧ b = .int .i64 (topI (prios L) k) ∧ Blk wr w1.heap.size 45 (numsA .u8 (gK (prios L) (topI (prios L) k))) ∧ Ext w wr) (fun _ i _ => L.length - (intOf i).toNat)
  case atStart => exact ⟨1, Nat.le_refl _, h0, rfl, by rw [HT1.out]; rfl, by rw [HT1.out, HP0.out]; exact Blk.new w1 _ _, HX1.out.alloc _⟩
  case round =>
    obtain ⟨k, hk1, hk, rfl, rfl, hB, hx⟩ := hrel
    have HX := Lib.hid hx
    have HB := Lib.hid hB
    have HTL := Lib.hid (topI_lt (prios L) k (by omega))
    have HSC := Lib.hid (topI_succ (prios L) k)
    clear hx hB
    obtain ⟨t, ht⟩ : ∃ t, topI (prios L) k = t := ⟨_, rfl⟩
    rw [ht] at HB HTL HSC ⊢
    have HT := Lib.hid ht
    clear ht
    by_cases hlt : k < L.length
    · obtain ⟨g2, o2, e2, hs2, hc⟩ := Hrd.out.elem Hok.out k hlt
      injection e2 with e2
      injection e2 with e3 e4
      subst e3 e4
      have d0 : wr.cell? ⟨g, o + k * 2, none⟩ = some (.string L[k].1) := HX.out.cell (hc 0 _ rfl)
      have HPK := Lib.hid (prios_at L k hlt)
      have HKT := Lib.hid (show K32 (gK (prios L) t) by rw [gK_lt (by rw [prios_length]; have := HTL.out; omega)]; exact prios_ok L _ (List.getElem_mem _))
      have hi : (0 : Int) ≤ (k : Int) := by omega
      have hi2 : (k : Int) < (L.length : Int) := by omega
      clear hc
      go_wp2_with fail
      refine (l04Priority_any L[k].1 (HSZ.out k hlt) _).mono ?_
      rintro e w2 ⟨rfl, hx⟩
      have HX2 := Lib.hid (HX.out.trans hx)
      have HB2 := Lib.hid (HB.out.ext hx)
      clear hx d0 HX HB
      go_wp2_with (first
        | (refine wpl_storeNew aggKey (HK.out _) rfl rfl _ _ rfl rfl rfl rfl ?_)
        | (refine wpl_loadN (Blk.new w2 45 (numsA .u8 (prioL L[k].1))) aggKey (HK.out _) rfl _ rfl rfl ?_)
        | (refine wpl_loadN (HB2.out.alloc _) aggKey HKT.out.1 rfl _ rfl rfl ?_))
      refine (l01Compare_any (prioL L[k].1) (gK (prios L) t) (prioL_ok _) HKT.out _).mono ?_
      rintro e w3 ⟨rfl, hx⟩
      have HB3 := Lib.hid ((HB2.out.alloc (.cells (numsA .u8 (prioL L[k].1)) 45)).ext hx)
      have HN3 := Lib.hid ((Blk.new w2 45 (numsA .u8 (prioL L[k].1))).ext hx)
      have HX3 := Lib.hid ((HX2.out.alloc _).trans hx)
      clear hx
      by_cases hc : 0 < cmpL (prioL L[k].1) (gK (prios L) t)
      · have HC := Lib.hid (show topI (prios L) (k + 1) = k by rw [HSC.out, HPK.out, if_pos hc])
        go_wp2_with (first
          | (refine wpl_loadN HN3.out aggKey (HK.out _) rfl _ rfl rfl ?_)
          | (refine wpl_storeN HB3.out aggKey (HK.out _) (by rw [numsA_size, HKT.out.1]) rfl _ _ rfl rfl rfl rfl ?_))
        go_roundw
        case rel => exact ⟨k + 1, by omega, by omega, by go_num, by rw [HC.out], by rw [HC.out, HPK.out]; exact HB3.out.setRow _, HX3.out.setRow HX1.out.size _⟩
        case measure => simp [intOf]; omega
      · have HC := Lib.hid (show topI (prios L) (k + 1) = t by rw [HSC.out, HPK.out, if_neg hc])
        go_wp2
        go_roundw
        case rel => exact ⟨k + 1, by omega, by omega, by go_num, by rw [HC.out], by rw [HC.out]; exact HB3.out, HX3.out⟩
        case measure => simp [intOf]; omega
    · obtain rfl : k = L.length := by omega
      go_wp2
      go_ret
      exact ⟨by rw [HTE.out, HT.out]; rfl, HX.out⟩
end Go.Proofs.Ytikpakhccmdmcaa
