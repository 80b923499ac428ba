/- An entry put into a map: the program. No condition. -/
import Derived.Test.YtbippohfinbngaaInsE
import Derived.Test.YtbippohfinbngaaPutE
import Derived.Test.YtbippohfinbngaaRangeI
namespace Go.Proofs.Ytbippohfinbngaa
open Go.RowKit
set_option linter.unusedVariables false
set_option linter.unusedSimpArgs false

def putI (L : List En) (e : En) : List En × Int := if hasE L e.1 then (L.set (posE L e.1) e, 0) else if L.length = 64 then ([], 3) else (insR L (posE L e.1) e, 0)
/-- both make the same -/
theorem putI_eq {L : List En} {e : En} (hb : okE L = true) (hb2 : entB e.1 e.2 = true) : putR L e = putI L e := by
  obtain ⟨hinc, h64⟩ := okE_incs' hb
  have hp := (posE_facts L e.1).1
  simp only [putR, hb, hb2, Bool.and_true, if_true, putF_eq hinc, putI]
  cases hh : hasE L e.1 with
  | true =>
    have hlt := hasE_lt' hh
    have e1 : L.set (posE L e.1) e = L.take (posE L e.1) ++ [e] ++ L.drop (posE L e.1 + 1) := by
      rw [List.set_eq_take_append_cons_drop, if_pos hlt, List.append_assoc, List.singleton_append]
    have e2 : (L.take (posE L e.1) ++ [e] ++ L.drop (posE L e.1 + 1)).length = L.length := by rw [← e1, List.length_set]
    simp only [if_true]
    rw [e2, if_neg (by omega), e1]
  | false =>
    have e1 : (L.take (posE L e.1) ++ [e] ++ L.drop (posE L e.1)).length = L.length + 1 := insR_length e hp
    simp only [Bool.false_eq_true, if_false]
    rw [e1]
    by_cases h : L.length = 64
    · rw [if_pos (by omega), if_pos h]
    · rw [if_neg (by omega), if_neg h]; rfl
set_option maxHeartbeats 1000000 in
set_option maxRecDepth 100000 in
theorem put_any (v : Value) (L : List En) (e : En) (he : tEnt.ok e) (hinc : incs L L.length = true) (h64 : L.length ≤ 64) (w : World) (S : Nat → Prop) (h : RdL tEnt w S v L) :
    Calls Try.prog 85 #[v, .agg #[.string e.1, .string e.2]] w fun q w' => ∃ v', q = .returned (.tuple #[v', .int .i64 (putI L e).2]) ∧ Own tEnt 67 w' w.heap.size v' (putI L e).1 ∧ Ext w w' := by
  have hpl := (posE_facts L e.1).1
  have hwx : ∃ wx, wx = w.alloc (.cells #[.string e.1, .string e.2] 67) := ⟨_, rfl⟩
  obtain ⟨wx, hwx⟩ := hwx
  have HB := Lib.hid (show ∀ W, Ext wx W → W.cell? ⟨w.heap.size, 0, none⟩ = some (.string e.1) ∧ W.cell? ⟨w.heap.size, 1, none⟩ = some (.string e.2) from fun W hW => by
    subst hwx
    exact ⟨hW.cell (by rw [(Blk.new w _ _).cell]; rfl), hW.cell (by rw [(Blk.new w _ _).cell]; rfl)⟩)
  have HXX := Lib.hid (show Ext w wx by subst hwx; exact ext_alloc _ _)
  have HSX := Lib.hid (show wx.heap.size = w.heap.size + 1 by subst hwx; simp)
  have H := Lib.hid h
  have hclone := cloneE_any v L wx S (h.ext (by decide) HXX.out) (by omega)
  obtain ⟨k, hk⟩ : ∃ k, posE L e.1 = k := ⟨_, rfl⟩
  have hf := fun v W S hW => find_any v L hinc e.1 W S hW
  rw [hk] at hpl
  simp only [hk] at hf
  obtain ⟨A, cap, rfl, hcap, hlen, _⟩ := h
  cases hh : hasE L e.1 with
  | true =>
    have hlt := hasE_lt' hh
    rw [hk] at hlt
    simp only [putI, hh, if_true, hk]
    simp only [hh] at hf
    clear hh hk hinc
    go_enter Try.func85, Try.ntmps85
    go_wp2_with fail
    rw [← hwx]
    refine hclone.mono ?_
    rintro q w1 ⟨v1, rfl, ho, hx⟩
    have b0 := (HB.out _ hx).1
    have hr := ho.rd
    have hbw := ho.base_le
    have HO := Lib.hid ho
    have HX := Lib.hid (HXX.out.trans hx)
    have HX0 := Lib.hid hx
    obtain ⟨A1, c1, rfl⟩ := ho.shape
    clear ho hx hclone hwx
    go_wp2_with fail
    refine (hf _ w1 _ hr).mono ?_
    rintro q w2 ⟨rfl, hx⟩
    have b0 := (HB.out _ (HX0.out.trans hx)).1
    have b1 := (HB.out _ (HX0.out.trans hx)).2
    have HX2 := Lib.hid (HX.out.trans hx)
    have ho2 := HO.out.ext hx
    obtain ⟨g, cap2, cur, hv, hgb, hgl, hB, hcs, hnc, hcm, hat⟩ := at_of_own ho2 (by omega)
    injection hv with hv1 hv2 hv3
    subst hv1 hv3
    have HB2 := Lib.hid hB
    have HAT := Lib.hid hat
    have HOK := Lib.hid HO.out.2.2
    have hst : St 2 #[.string e.1, .string e.2] := ⟨rfl, fun u hu => by simp at hu; rcases hu with rfl | rfl <;> rfl⟩
    have hne : w.heap.size ≠ g := by have := HSX.out; omega
    have i1 : (0 : Int) ≤ (k : Int) := by omega
    have i2 : (k : Int) < (L.length : Int) := by omega
    clear hx hat hB ho2 HO hr hbw hf
    go_wp2_with (first
      | (refine wpl_load ⟨w.heap.size, 0, none⟩ [.string e.1, .string e.2] aggEntryI rfl _ rfl rfl (fun j u hu => by rw [Addr.add_lit, Nat.zero_add]; match j, hu with | 0, hu => rw [b0]; simpa using hu | 1, hu => rw [b1]; simpa using hu) ?_)
      | (refine wpl_storeP (off := k * 2) HB2.out aggEntryI hst (by rw [hcs]; omega) rfl _ _ rfl rfl rfl rfl ?_))
    go_ret2
    refine ⟨_, rfl, ?_, HX2.out.setRow (by have := HSX.out; omega) _⟩
    have hfit : k * 2 + 2 ≤ cur.size := by rw [hcs]; omega
    have hsz : (splice cur (k * 2) [.string e.1, .string e.2]).size = c1 * 2 := by rw [splice_size _ _ _ hfit, hcs]
    have := own_of_at (base := w.heap.size) (cap := c1) (xs := L.set k e) (HB2.out.setRow (splice cur (k * 2) [.string e.1, .string e.2])) (by have := HSX.out; omega) hsz (by rw [List.length_set]; exact hnc) hcm (by rw [List.length_set]; omega) (fun x hx => by
      rcases List.mem_or_eq_of_mem_set hx with hx | rfl
      · exact HOK.out x hx
      · exact he) (fun i hi => by
      rw [List.length_set] at hi
      rw [List.getElem_set]
      split
      · subst_vars
        exact at_put cur _ e hfit
      · exact at_far hfit (by omega) (HAT.out i hi))
    rw [List.length_set] at this
    exact this
  | false =>
    by_cases hl : L.length = 64
    · simp only [putI, hh, Bool.false_eq_true, if_false, if_pos hl]
      simp only [hh] at hf
      have l1 : ((L.length : Int) == 64) = true := by rw [hl]; rfl
      have HL := Lib.hid hl
      clear hh hk hinc hl
      go_enter Try.func85, Try.ntmps85
      go_wp2_with fail
      rw [← hwx]
      refine hclone.mono ?_
      rintro q w1 ⟨v1, rfl, ho, hx⟩
      have b0 := (HB.out _ hx).1
      have hr := ho.rd
      have HX := Lib.hid (HXX.out.trans hx)
      obtain ⟨A1, c1, rfl⟩ := ho.shape
      clear ho hx hclone hwx
      go_wp2_with fail
      refine (hf _ w1 _ hr).mono ?_
      rintro q w2 ⟨rfl, hx⟩
      have HX2 := Lib.hid (HX.out.trans hx)
      clear hx hr hf
      go_wp2
      go_ret2
      exact ⟨_, rfl, Own.nil _ _ _ _, HX2.out⟩
    · simp only [putI, hh, Bool.false_eq_true, if_false, if_neg hl, hk]
      simp only [hh] at hf
      have l1 : ((L.length : Int) == 64) = false := by rw [beq_eq_false_iff_ne]; omega
      clear hh hk hinc
      go_enter Try.func85, Try.ntmps85
      go_wp2_with fail
      rw [← hwx]
      refine hclone.mono ?_
      rintro q w1 ⟨v1, rfl, ho, hx⟩
      have b0 := (HB.out _ hx).1
      have hr := ho.rd
      have HX := Lib.hid (HXX.out.trans hx)
      have HX0 := Lib.hid hx
      have HO := Lib.hid ho
      obtain ⟨A1, c1, rfl⟩ := ho.shape
      clear ho hx hclone hwx
      go_wp2_with fail
      refine (hf _ w1 _ hr).mono ?_
      rintro q w2 ⟨rfl, hx⟩
      have b0 := (HB.out _ (HX0.out.trans hx)).1
      have b1 := (HB.out _ (HX0.out.trans hx)).2
      have HX2 := Lib.hid (HX.out.trans hx)
      have HX20 := Lib.hid (HX0.out.trans hx)
      have HO2 := Lib.hid (HO.out.ext hx)
      have HW := Lib.hid (show wx.heap.size ≤ w2.heap.size from HX20.out.size)
      have HBL := Lib.hid HO2.out.base_le
      have hins := insE_any _ L k e he (w2.alloc (.cells #[.string e.1, .string e.2] 67)) wx.heap.size w2.heap.size 67 (HO2.out.alloc _) hpl h64 (Blk.new w2 _ _) (by have := HW.out; simp; omega) (fun h => by have := HBL.out _ h; omega)
      clear hx hr hf HO
      go_wp2_with (refine wpl_load ⟨w.heap.size, 0, none⟩ [.string e.1, .string e.2] aggEntryI rfl _ rfl rfl (fun j u hu => by rw [Addr.add_lit, Nat.zero_add]; match j, hu with | 0, hu => rw [b0]; simpa using hu | 1, hu => rw [b1]; simpa using hu) ?_)
      refine hins.mono ?_
      rintro q w3 ⟨v3, rfl, ho, hg⟩
      have HO3 := Lib.hid (ho.le (base' := w.heap.size) (by have := HSX.out; omega))
      have HX3 := Lib.hid ((HX2.out.alloc _).grown hg (fun q hq => by have := HBL.out q hq; have := HSX.out; omega))
      clear ho hg hins
      go_wp2
      go_ret2
      exact ⟨_, rfl, HO3.out, HX3.out⟩
set_option maxHeartbeats 1000000 in
set_option maxRecDepth 100000 in
theorem implPutEntry_any (v : Value) (L : List En) (e : En) (he : tEnt.ok e) (w : World) (S : Nat → Prop) (h : RdL tEnt w S v L) :
    Calls Try.prog 39 #[v, .agg #[.string e.1, .string e.2]] w fun q w' => ∃ v', q = .returned (.tuple #[v', .int .i64 (putR L e).2]) ∧ Own tEnt 67 w' w.heap.size v' (putR L e).1 ∧ Ext w w' := by
  have hwx : ∃ wx, wx = w.alloc (.cells #[.string e.1, .string e.2] 67) := ⟨_, rfl⟩
  obtain ⟨wx, hwx⟩ := hwx
  have HB := Lib.hid (show ∀ W, Ext wx W → W.cell? ⟨w.heap.size, 0, none⟩ = some (.string e.1) ∧ W.cell? ⟨w.heap.size, 1, none⟩ = some (.string e.2) from fun W hW => by
    subst hwx
    exact ⟨hW.cell (by rw [(Blk.new w _ _).cell]; rfl), hW.cell (by rw [(Blk.new w _ _).cell]; rfl)⟩)
  have HXX := Lib.hid (show Ext w wx by subst hwx; exact ext_alloc _ _)
  have H := Lib.hid h
  have hc := validEntries_any v L wx S (h.ext (by decide) HXX.out)
  have hn := fun W => validEntry_any e.1 e.2 he.1 he.2 W
  have hp := fun hb W hW => put_any v L e he (okE_incs' hb).1 (okE_incs' hb).2 W S (h.ext (by decide) hW)
  obtain ⟨A, cap, rfl, hcap, hlen, _⟩ := h
  cases hb : okE L with
  | false =>
    simp only [putR, hb, Bool.false_and, Bool.false_eq_true, if_false]
    simp only [hb] at hc
    clear hb hp
    go_enter Try.func39, Try.ntmps39
    go_wp2_with fail
    rw [← hwx]
    refine hc.mono ?_
    rintro q w1 ⟨rfl, hx⟩
    have HX := Lib.hid (HXX.out.trans hx)
    clear hx hwx
    go_wp2
    go_ret2
    exact ⟨_, rfl, Own.nil _ _ _ _, HX.out⟩
  | true =>
    simp only [hb] at hc
    cases hb2 : entB e.1 e.2 with
    | false =>
      simp only [putR, hb, hb2, Bool.and_false, Bool.false_eq_true, if_false]
      simp only [hb2] at hn
      clear hb hb2 hp
      go_enter Try.func39, Try.ntmps39
      go_wp2_with fail
      rw [← hwx]
      refine hc.mono ?_
      rintro q w1 ⟨rfl, hx⟩
      have HX := Lib.hid (HXX.out.trans hx)
      have b0 := (HB.out _ hx).1
      have b1 := (HB.out _ hx).2
      clear hx hwx
      go_wp2_with (refine wpl_load ⟨w.heap.size, 0, none⟩ [.string e.1, .string e.2] aggEntryI rfl _ rfl rfl (fun j u hu => by rw [Addr.add_lit, Nat.zero_add]; match j, hu with | 0, hu => rw [b0]; simpa using hu | 1, hu => rw [b1]; simpa using hu) ?_)
      refine (hn _).mono ?_
      rintro q w2 ⟨rfl, hx⟩
      have HX2 := Lib.hid (HX.out.trans hx)
      clear hx
      go_wp2
      go_ret2
      exact ⟨_, rfl, Own.nil _ _ _ _, HX2.out⟩
    | true =>
      rw [putI_eq hb hb2]
      simp only [hb2] at hn
      replace hp := hp hb
      clear hb hb2
      go_enter Try.func39, Try.ntmps39
      go_wp2_with fail
      rw [← hwx]
      refine hc.mono ?_
      rintro q w1 ⟨rfl, hx⟩
      have HX := Lib.hid (HXX.out.trans hx)
      have HX0 := Lib.hid hx
      have b0 := (HB.out _ hx).1
      have b1 := (HB.out _ hx).2
      clear hx hwx
      go_wp2_with (refine wpl_load ⟨w.heap.size, 0, none⟩ [.string e.1, .string e.2] aggEntryI rfl _ rfl rfl (fun j u hu => by rw [Addr.add_lit, Nat.zero_add]; match j, hu with | 0, hu => rw [b0]; simpa using hu | 1, hu => rw [b1]; simpa using hu) ?_)
      refine (hn _).mono ?_
      rintro q w2 ⟨rfl, hx⟩
      have HX2 := Lib.hid (HX.out.trans hx)
      have b0 := (HB.out _ (HX0.out.trans hx)).1
      have b1 := (HB.out _ (HX0.out.trans hx)).2
      clear hx
      go_wp2_with (refine wpl_load ⟨w.heap.size, 0, none⟩ [.string e.1, .string e.2] aggEntryI rfl _ rfl rfl (fun j u hu => by rw [Addr.add_lit, Nat.zero_add]; match j, hu with | 0, hu => rw [b0]; simpa using hu | 1, hu => rw [b1]; simpa using hu) ?_)
      refine (hp _ HX2.out).mono ?_
      rintro q w3 ⟨v3, rfl, ho, hx⟩
      have HO := Lib.hid (ho.le (base' := w.heap.size) HX2.out.size)
      have HX3 := Lib.hid (HX2.out.trans hx)
      obtain ⟨A3, n3, c3, rfl⟩ := ho.shape3
      clear ho hx
      go_wp2
      go_ret2
      exact ⟨_, rfl, HO.out, HX3.out⟩
end Go.Proofs.Ytbippohfinbngaa
