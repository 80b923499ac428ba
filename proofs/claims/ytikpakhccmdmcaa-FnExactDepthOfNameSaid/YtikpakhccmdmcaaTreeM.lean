/- The tree of a map and its key: the program. No condition. -/
import Derived.Test.YtikpakhccmdmcaaTreeG
namespace Go.Proofs.Ytikpakhccmdmcaa
open Go.RowKit
set_option linter.unusedVariables false
set_option linter.unusedSimpArgs false

theorem rowKeys : Row Try.prog tKey 127 45 32 := Row.mk' Try.underlying127 (.agg (numsA .u8 (List.replicate 32 0))) (by kernel_rfl) rfl (by decide) (by decide)
set_option maxHeartbeats 1000000 in
set_option maxRecDepth 100000 in
theorem treeOf_any (v : Value) (L : List En) (h64 : L.length ≤ 64) (hg : good L) (w : World) (S : Nat → Prop) (h : RdL tEnt w S v L) :
    Calls Try.prog 56 #[v] w fun e w' => ∃ v', e = .returned v' ∧ TrAt w' v' (trF L.length L) ∧ Ext w w' := by
  have H := Lib.hid h
  obtain ⟨A, cap, rfl, hcap, hlen, hrd, hok⟩ := h
  have Hrd := Lib.hid hrd
  have Hok := Lib.hid hok
  have hgrow := fun u W S' hW hu => growTr_any L.length (.slice A L.length cap) u L (Nat.le_refl _) h64 hg W S S' hW hu
  have HSZ := Lib.hid (show ∀ k (hk : k < L.length), L[k].1.size ≤ 1048576 from fun k hk => by have := entB_le (hg _ (List.getElem_mem hk)).2; omega)
  have HPT := Lib.hid (show ∀ k, k < L.length → (hk : k < L.length) → prios (L.take (k + 1)) = prios (L.take k) ++ [prioL L[k].1] from fun k hk _ => by rw [List.take_succ_eq_append_getElem hk, prios, List.map_append]; rfl)
  have HPA := Lib.hid (show prios (L.take L.length) = prios L by rw [List.take_length])
  have HPLn := Lib.hid (show ∀ k, k ≤ L.length → (prios (L.take k)).length = k from fun k hk => by rw [prios_length, List.length_take]; omega)
  clear hrd hok
  go_enter Try.func56, Try.ntmps56
  go_wp2_with fail
  go_loopw [3, 9] (fun o i wr => ∃ k : Nat, k ≤ L.length ∧ i = .int .i64 k ∧ Own tKey 45 wr w.heap.size o (prios (L.take k)) ∧ Ext w wr) (fun _ i _ => L.length - (intOf i).toNat)
  case atStart => exact ⟨0, by omega, rfl, by rw [List.take_zero]; exact Own.empty tKey w 45 w.heap.size (Nat.le_refl _), ext_alloc _ _⟩
  case round =>
    obtain ⟨k, hk, rfl, ho, hx⟩ := hrel
    have HX := Lib.hid hx
    have HO := Lib.hid ho
    obtain ⟨C, cn, cc, rfl⟩ := ho.shape3
    clear hx ho
    by_cases hlt : k < L.length
    · obtain ⟨g, o, rfl, hs0, hc⟩ := Hrd.out.elem Hok.out k hlt
      have HD := Lib.hid (show ∀ j u, ([Value.string L[k].1, .string L[k].2] : List Value)[j]? = some u → wr.cell? ⟨g, o + k * 2 + j, none⟩ = some u from fun j u hu => HX.out.cell (hc j u hu))
      have hi : (0 : Int) ≤ (k : Int) := by omega
      have hi2 : (k : Int) < (L.length : Int) := by omega
      have hst : St 2 #[.string L[k].1, .string L[k].2] := ⟨rfl, fun u hu => by simp at hu; rcases hu with rfl | rfl <;> rfl⟩
      have hsz := HSZ.out k hlt
      have HKO := Lib.hid (prioL_ok L[k].1)
      have hnl : (nums .u8 (prioL L[k].1)).length = 32 := by rw [nums_length, HKO.out.1]
      have HLN := Lib.hid (HPLn.out k hk)
      have hns : (numsA .u8 (prioL L[k].1)).size = 32 := sizeN HKO.out.1
      clear hc
      go_wp2_with (first
        | (refine wpl_load ⟨g, o + k * 2, none⟩ [.string L[k].1, .string L[k].2] aggEntryI rfl _ rfl rfl (fun j u hu => by rw [Addr.add_lit]; exact HD.out j u hu) ?_)
        | (refine wpl_storeNewB aggEntryI hst rfl rfl _ _ rfl rfl rfl rfl ?_)
        | (refine wpl_conv Try.underlying9 Try.underlying126 Try.underlying5 rfl _ rfl rfl (by omega) ?_; intro A1 c1 w1 hr hx; have HR := Lib.hid hr; have HX1 := Lib.hid ((HX.out.alloc _).trans hx); have HO1 := Lib.hid ((HO.out.alloc _).ext hx); clear hr hx))
      refine (hash_any 4 (by decide) _ (strL L[k].1) _ _ HR.out (by rw [strL_length]; omega)).mono ?_
      rw [← prioL_eq]
      rintro e w2 ⟨rfl, hx⟩
      have HX2 := Lib.hid (HX1.out.trans hx)
      have HO2 := Lib.hid (HO1.out.ext hx)
      clear hx HO1 HX1 HR
      go_wp2_with (at_builtin; go_loud (rw [fold_fillA (numsA .u8 (prioL L[k].1)) _ _ (sizeN HKO.out.1) rfl]); go_loud (refine wpl_append rowKeys rfl _ _ rfl (v := .slice C cn cc) rfl (HO2.out.alloc _) _ _ rfl (A := some ⟨w2.heap.size, 0, none⟩) (ys := [prioL L[k].1]) rfl (rd_one (T := tKey) w2 (prioL L[k].1) HKO.out _) (by intro y hy; obtain rfl := List.mem_singleton.1 hy; exact HKO.out) (by rw [HLN.out]; simp; omega) (HX2.out.alloc _).size ?_); intro v9 w9 ho1 hg1 hat1; have HX9 := Lib.hid ((HO2.out.alloc _).ext_app (HX2.out.alloc _) hg1); have HO9 := Lib.hid ho1; clear ho1 hg1 hat1)
      go_roundw
      case rel => exact ⟨k + 1, by omega, by go_num, by rw [HPT.out k hlt hlt]; exact HO9.out, HX9.out⟩
      case measure => simp [intOf]; omega
    · obtain rfl : k = L.length := by omega
      rw [HPA.out] at HO
      go_wp2_with fail
      refine (hgrow _ _ _ (H.out.ext (by decide) HX.out) HO.out.rd).mono ?_
      rintro e w2 ⟨v2, rfl, ht, hx⟩
      have HX2 := Lib.hid (HX.out.trans hx)
      have HTR := Lib.hid ht
      obtain ⟨p, rfl⟩ := ht.ptr
      clear hx ht hgrow
      go_wp2
      go_ret
      exact ⟨_, rfl, HTR.out, HX2.out⟩
end Go.Proofs.Ytikpakhccmdmcaa
