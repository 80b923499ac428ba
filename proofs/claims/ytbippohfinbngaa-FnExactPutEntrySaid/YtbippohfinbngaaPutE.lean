/- An entry put into a map: the reference. No condition. -/
import Derived.Test.YtbippohfinbngaaPutS
namespace Go.Proofs.Ytbippohfinbngaa
open Go.RowKit
set_option linter.unusedVariables false
set_option linter.unusedSimpArgs false

def putR (L : List En) (e : En) : List En × Int := if okE L && entB e.1 e.2 then (if 64 < (putEnd e (putF e L)).length then ([], 3) else (putEnd e (putF e L), 0)) else ([], 1)
set_option maxHeartbeats 1000000 in
set_option maxRecDepth 100000 in
theorem specPutEntry_any (v : Value) (L : List En) (e : En) (he : tEnt.ok e) (w : World) (S : Nat → Prop) (h : RdL tEnt w S v L) :
    Calls Try.prog 37 #[v, .agg #[.string e.1, .string e.2]] w fun q w' => ∃ v', q = .returned (.tuple #[v', .int .i64 (putR L e).2]) ∧ Own tEnt 67 w' w.heap.size v' (putR L e).1 ∧ Ext w w' := by
  have hwx : ∃ wx, wx = w.alloc (.cells #[.string e.1, .string e.2] 67) := ⟨_, rfl⟩
  obtain ⟨wx, hwx⟩ := hwx
  have HB := Lib.hid (show ∀ W, Ext wx W → W.cell? ⟨w.heap.size, 0, none⟩ = some (.string e.1) ∧ W.cell? ⟨w.heap.size, 1, none⟩ = some (.string e.2) from fun W hW => by
    subst hwx
    exact ⟨hW.cell (by rw [(Blk.new w _ _).cell]; rfl), hW.cell (by rw [(Blk.new w _ _).cell]; rfl)⟩)
  have HXX := Lib.hid (show Ext w wx by subst hwx; exact ext_alloc _ _)
  have H := Lib.hid h
  have hc := l04Ok_any v L wx S (h.ext (by decide) HXX.out)
  have hn := fun W hW => l04Entry_any e.1 e.2 he.1 he.2 w.heap.size 0 W (HB.out W hW).1 (HB.out W hW).2
  have hp := fun W hW h64 => l04Put_any v L e he W S (h.ext (by decide) hW) h64
  obtain ⟨A, cap, rfl, hcap, hlen, _⟩ := h
  cases hb : okE L with
  | false =>
    simp only [putR, hb, Bool.false_and, Bool.false_eq_true, if_false]
    simp only [hb] at hc
    clear hb
    go_enter Try.func37, Try.ntmps37
    go_wp2_with fail
    rw [← hwx]
    refine hc.mono ?_
    rintro q w1 ⟨rfl, hx⟩
    have HX := Lib.hid (HXX.out.trans hx)
    clear hx hwx
    go_wp2
    go_ret2
    exact ⟨_, rfl, Own.empty tEnt _ 67 _ HX.out.size, HX.out.alloc _⟩
  | true =>
    obtain ⟨hinc, h64⟩ := okE_incs' hb
    simp only [hb] at hc
    cases hb2 : entB e.1 e.2 with
    | false =>
      simp only [putR, hb, hb2, Bool.and_false, Bool.false_eq_true, if_false]
      simp only [hb2] at hn
      clear hb hb2
      go_enter Try.func37, Try.ntmps37
      go_wp2_with fail
      rw [← hwx]
      refine hc.mono ?_
      rintro q w1 ⟨rfl, hx⟩
      have HX := Lib.hid hx
      have HX2 := Lib.hid (HXX.out.trans hx)
      clear hx hwx
      go_wp2_with fail
      refine (hn _ HX.out).mono ?_
      rintro q w' ⟨rfl, rfl⟩
      go_wp2
      go_ret2
      exact ⟨_, rfl, Own.empty tEnt _ 67 _ HX2.out.size, HX2.out.alloc _⟩
    | true =>
      simp only [putR, hb, hb2, Bool.and_true, if_true]
      simp only [hb2] at hn
      clear hb hb2
      obtain ⟨Z, hZ⟩ : ∃ Z, putEnd e (putF e L) = Z := ⟨_, rfl⟩
      simp only [hZ] at hp ⊢
      go_enter Try.func37, Try.ntmps37
      go_wp2_with fail
      rw [← hwx]
      refine hc.mono ?_
      rintro q w1 ⟨rfl, hx⟩
      have HX := Lib.hid hx
      have HX2 := Lib.hid (HXX.out.trans hx)
      clear hx hwx
      go_wp2_with fail
      refine (hn _ HX.out).mono ?_
      rintro q w' ⟨rfl, rfl⟩
      have b0 := (HB.out _ HX.out).1
      have b1 := (HB.out _ HX.out).2
      go_wp2_with (refine wpl_load ⟨w.heap.size, 0, none⟩ [.string e.1, .string e.2] aggEntryI rfl _ rfl rfl (fun j u hu => by rw [Addr.add_lit, Nat.zero_add]; match j, hu with | 0, hu => rw [b0]; simpa using hu | 1, hu => rw [b1]; simpa using hu) ?_)
      refine (hp _ HX2.out h64).mono ?_
      rintro q w2 ⟨v2, rfl, ho, hx⟩
      have HO := Lib.hid (ho.le (base' := w.heap.size) HX2.out.size)
      have HX3 := Lib.hid (HX2.out.trans hx)
      obtain ⟨A2, c2, rfl⟩ := ho.shape
      clear ho hx
      by_cases hl : 64 < Z.length
      · have hif := Lib.hid (show (if 64 < Z.length then (([], 3) : List En × Int) else (Z, 0)) = ([], 3) from if_pos hl)
        have hl2 : (64 : Int) < (Z.length : Int) := by omega
        go_wp2
        go_ret2
        exact ⟨_, by (try simp only [if_pos hl]); (try rw [if_pos hl]); rfl, by (try simp only [if_pos hl]); (try rw [if_pos hl]); exact Own.empty tEnt _ 67 _ HX3.out.size, HX3.out.alloc _⟩
      · have hif := Lib.hid (show (if 64 < Z.length then (([], 3) : List En × Int) else (Z, 0)) = (Z, 0) from if_neg hl)
        have hl2 : ¬ (64 : Int) < (Z.length : Int) := by omega
        go_wp2
        go_ret2
        exact ⟨_, by (try simp only [if_neg hl]); (try rw [if_neg hl]); rfl, by (try simp only [if_neg hl]); (try rw [if_neg hl]); exact HO.out, HX3.out⟩
end Go.Proofs.Ytbippohfinbngaa
