/- What the walk of the law FnListProofs needs, part 3 of 5. No condition. -/
import Derived.Laws.StructEq
import Derived.BigFrame
import Derived.Test.YtdjclllnmclocaaPFnListProofs2
/- On which sides a leaf stands: the program; rows of truth values turned round. No condition. -/
namespace Go.Proofs.Ytdjclllnmclocaa
open Go.RowKit
set_option linter.unusedVariables false
set_option linter.unusedSimpArgs false

def tBool : Ty Bool := ⟨1, fun b => [.bool b], fun _ => True, fun _ _ => rfl, fun _ u hu => by simp at hu; subst hu; rfl⟩
theorem rowBool : Row Try.prog tBool 101 4 1 := Row.mk' Try.underlying101 (.bool false) (by kernel_rfl) rfl (by decide) (by decide)
theorem flat_bool (xs : List Bool) : xs.flatMap tBool.enc = xs.map Value.bool := by
  induction xs with
  | nil => rfl
  | cons x r ih => simp only [List.flatMap_cons, ih]; rfl
def gB (xs : List Bool) (k : Nat) : Bool := xs.getD k false
theorem gB_lt {xs : List Bool} {k : Nat} (h : k < xs.length) : gB xs k = xs[k] := by simp [gB, List.getD_eq_getElem?_getD, h]
/-- an element of a row of one's own -/
theorem Own.boolAt {e : TypeId} {w : World} {base : Nat} {v : Value} {xs : List Bool} (h : Own tBool e w base v xs) (h0 : 0 < xs.length) :
    ∃ g cap, v = .slice (some ⟨g, 0, none⟩) xs.length cap ∧ base ≤ g ∧ g < w.heap.size ∧ ∀ k, k < xs.length → w.cell? ⟨g, k, none⟩ = some (.bool (gB xs k)) ∧ w.frozen? ⟨g, k, none⟩ = false ∧ ∀ b : Bool, Own tBool e (w.setCell ⟨g, k, none⟩ (.bool b)) base v (xs.set k b) := by
  obtain ⟨h1, h2, h3⟩ := h
  rw [flat_bool] at h1
  rcases h1.2 with ⟨rfl, hz⟩ | ⟨g, cap, cur, rfl, hb, hg, hc, hm, hs, ht⟩
  · omega
  · refine ⟨g, cap, rfl, hb, (Array.getElem?_eq_some_iff.1 hg).1, fun k hk => ⟨?_, by simp [World.frozen?, hg], fun b => ⟨?_, by simpa using h2, fun _ _ => trivial⟩⟩⟩
    · have hv : (xs.map Value.bool)[k]? = some (.bool (gB xs k)) := by rw [List.getElem?_map, List.getElem?_eq_getElem hk, gB_lt hk]; rfl
      have := h1.cells (g := g) rfl k _ hv
      rwa [Addr.add_lit, Nat.zero_add] at this
    · rw [flat_bool]
      have := (h1.stored k (.bool b)).1
      simpa [List.map_set, tBool] using this
theorem grown_drewS {w w' : World} {row : Option Nat} (h : w.grownBy w' row) (n : Nat) : w.grownBy (w'.drewN n) row := ⟨h.os, h.tape, h.output, h.size, h.block⟩
theorem Own.kept1 {α : Type} {T : Ty α} {e : TypeId} {w w' : World} {base : Nat} {v : Value} {xs : List α} (h : Own T e w base v xs) (hk : w'.heap = w.heap) : Own T e w' base v xs := by
  obtain ⟨⟨hl, hx⟩, h2, h3⟩ := h
  rcases hx with hx | ⟨g, cap, cur, rfl, h4, h5, h6⟩
  · exact ⟨⟨hl, .inl hx⟩, h2, h3⟩
  · exact ⟨⟨hl, .inr ⟨g, cap, cur, rfl, h4, by rw [hk]; exact h5, h6⟩⟩, h2, h3⟩
set_option maxHeartbeats 4000000 in
set_option maxRecDepth 100000 in
theorem reverse_any (v : Value) (xs : List Bool) (w : World) (base : Nat) (h : Own tBool 4 w base v xs) (hl : xs.length ≤ 1000) :
    Calls Try.prog 95 #[v] w fun q w' => q = .returned (.tuple #[]) ∧ Own tBool 4 w' base v xs.reverse ∧ w.grownBy w' v.ownBlock := by
  by_cases h0 : xs.length = 0
  · obtain rfl : xs = [] := List.eq_nil_of_length_eq_zero h0
    have HO := Lib.hid h
    obtain ⟨A, cap, rfl⟩ := h.shape
    clear h
    go_enter Try.func95, Try.ntmps95
    go_wp2
    go_loopw [2, 3] (fun i j wr => i = .int .i64 0 ∧ j = .int .i64 (-1) ∧ wr = w) (fun _ _ _ => 0)
    case atStart => exact ⟨rfl, by first | rfl | go_num, rfl⟩
    case round =>
      obtain ⟨rfl, rfl, rfl⟩ := hrel
      go_wp2
      go_end0
      exact ⟨rfl, HO.out, grown_refl _ _⟩
  · obtain ⟨n, hn⟩ : ∃ n, xs.length = n + 1 := ⟨xs.length - 1, by omega⟩
    obtain ⟨g, cap, rfl, hgb, hgl, _⟩ := h.boolAt (by omega)
    have HO := Lib.hid h
    have HN := Lib.hid hn
    have hnb : n ≤ 999 := by omega
    have hw1 : IntKind.i64.wrap ((n : Int) + 1 - 1) = (n : Int) := by rw [IntWalk.i64_in _ (by omega)]; omega
    have hs1 : (n : Int) + 1 - 1 = (n : Int) := by omega
    rw [hn]
    clear h hn h0
    go_enter Try.func95, Try.ntmps95
    go_wp2
    go_loopw [2, 3] (fun i j wr => ∃ (p q : Nat) (ys : List Bool), i = .int .i64 p ∧ j = .int .i64 ((q : Int) - 1) ∧ p + q = n + 1 ∧ p ≤ q + 1 ∧ ys.length = n + 1 ∧ Own tBool 4 wr base (.slice (some ⟨g, 0, none⟩) (n + 1) cap) ys ∧ (∀ k, k < n + 1 → gB ys k = if k < p ∨ q ≤ k then gB xs (n - k) else gB xs k) ∧ w.grownBy wr (some g)) (fun i _ _ => n + 1 - (intOf i).toNat)
    case atStart => exact ⟨0, n + 1, xs, rfl, by first | rfl | go_num, by omega, by omega, HN.out, by have := HO.out; rwa [HN.out] at this, fun k hk => by rw [if_neg (by omega)], grown_refl _ _⟩
    case round =>
      obtain ⟨p, q, ys, rfl, rfl, hpq, hpq2, hyl, ho, hv, hg⟩ := hrel
      have HOW := Lib.hid ho
      have HV := Lib.hid hv
      have HG := Lib.hid hg
      have HYL := Lib.hid hyl
      have HPQ := Lib.hid hpq
      clear ho hv hg HO
      by_cases hlt : p + 1 < q
      · obtain ⟨r, hr⟩ : ∃ r, q = r + 1 := ⟨q - 1, by omega⟩
        subst hr
        obtain ⟨g', cap', e', _, _, hat⟩ := HOW.out.boolAt (by omega)
        rw [hyl] at e' hat
        obtain ⟨e1, _, rfl⟩ := Value.slice.inj e'
        injection e1 with e1
        injection e1 with e1 _ _
        subst e1
        have hp := hat p (by omega)
        have hr := hat r (by omega)
        obtain ⟨yp, hyp⟩ : ∃ yp, gB ys p = yp := ⟨_, rfl⟩
        obtain ⟨yr, hyr⟩ : ∃ yr, gB ys r = yr := ⟨_, rfl⟩
        rw [hyp] at hp
        rw [hyr] at hr
        have HYP := Lib.hid hyp
        have HYR := Lib.hid hyr
        have CP := Lib.hid hp.1
        have CR := Lib.hid hr.1
        have FP := Lib.hid hp.2.1
        have FR := Lib.hid hr.2.1
        have H1 := Lib.hid (hp.2.2 yr)
        have hpr : p < r := by omega
        obtain ⟨_, _, e2, _, _, hat2⟩ := H1.out.boolAt (by rw [List.length_set]; omega)
        rw [List.length_set, hyl] at e2 hat2
        obtain ⟨e3, _, rfl⟩ := Value.slice.inj e2
        injection e3 with e3
        injection e3 with e3 _ _
        subst e3
        have h2 := hat2 r (by omega)
        have CR2 := Lib.hid h2.1
        have FR2 := Lib.hid h2.2.1
        have H2 := Lib.hid (h2.2.2 yp)
        have e : ((r + 1 : Nat) : Int) - 1 = (r : Int) := by omega
        rw [e]
        have q0 : (0 : Int) ≤ (p : Int) := by omega
        have q1 : (p : Int) < (n : Int) + 1 := by omega
        have q2 : (0 : Int) ≤ (r : Int) := by omega
        have q3 : (r : Int) < (n : Int) + 1 := by omega
        have q4 : (p : Int) < (r : Int) := by omega
        clear e e' hp hr hat hyp hyr hat2 h2 e2 hpq hyl hlt
        go_wp2_with fail
        refine wp_region_f [13, 15] (S := fun W => W.cell? ⟨g, p, none⟩ = some (.bool yp) ∧ W.cell? ⟨g, r, none⟩ = some (.bool yr)) (by kernel_rfl) ⟨CP.out, CR.out⟩ (fun hHeld => ?_)
        refine wpF_take (i := 0) (oi := ?oiz1) (v := ?vz1) ?hiz1 (by kernel_rfl) (by kernel_rfl) (by kernel_rfl) (by kernel_rfl) ?hQz1 ?hyz1 (by assumption) ?restz1
        case hiz1 => simp only [List.getElem?_toArray, List.getElem?_cons_zero, List.getElem?_cons_succ]; rfl
        case hQz1 => exact fun _ _ _ h => h
        case hyz1 => exact Or.inl ⟨by rfl, by intro w hSw; (try dsimp only at hSw); go_simp; with_reducible rfl⟩
        try simp only [Act.put, List.setIfInBounds_toArray, List.set_cons_zero, List.set_cons_succ]
        refine wpF_take (i := 1) (oi := ?oiz2) (v := ?vz2) ?hiz2 (by kernel_rfl) (by kernel_rfl) (by kernel_rfl) (by kernel_rfl) ?hQz2 ?hyz2 (by assumption) ?restz2
        case hiz2 => simp only [List.getElem?_toArray, List.getElem?_cons_zero, List.getElem?_cons_succ]; rfl
        case hQz2 => exact fun _ _ _ h => h
        case hyz2 => exact Or.inl ⟨by rfl, by intro w hSw; (try dsimp only at hSw); go_simp; with_reducible rfl⟩
        try simp only [Act.put, List.setIfInBounds_toArray, List.set_cons_zero, List.set_cons_succ]
        refine wpF_take (i := 4) (oi := ?oiz3) (v := ?vz3) ?hiz3 (by kernel_rfl) (by kernel_rfl) (by kernel_rfl) (by kernel_rfl) ?hQz3 ?hyz3 (by assumption) ?restz3
        case hiz3 => simp only [List.getElem?_toArray, List.getElem?_cons_zero, List.getElem?_cons_succ]; rfl
        case hQz3 => exact fun _ _ _ h => h
        case hyz3 => exact Or.inl ⟨by rfl, by intro w hSw; (try dsimp only at hSw); go_simp; with_reducible rfl⟩
        try simp only [Act.put, List.setIfInBounds_toArray, List.set_cons_zero, List.set_cons_succ]
        refine wpF_take (i := 5) (oi := ?oiz4) (v := ?vz4) ?hiz4 (by kernel_rfl) (by kernel_rfl) (by kernel_rfl) (by kernel_rfl) ?hQz4 ?hyz4 (by assumption) ?restz4
        case hiz4 => simp only [List.getElem?_toArray, List.getElem?_cons_zero, List.getElem?_cons_succ]; rfl
        case hQz4 => exact fun _ _ _ h => h
        case hyz4 => exact Or.inl ⟨by rfl, by intro w hSw; (try dsimp only at hSw); go_simp; with_reducible rfl⟩
        try simp only [Act.put, List.setIfInBounds_toArray, List.set_cons_zero, List.set_cons_succ]
        refine wpF_take (i := 6) (oi := ?oiz5) (v := ?vz5) ?hiz5 (by kernel_rfl) (by kernel_rfl) (by kernel_rfl) (by kernel_rfl) ?hQz5 ?hyz5 (by assumption) ?restz5
        case hiz5 => simp only [List.getElem?_toArray, List.getElem?_cons_zero, List.getElem?_cons_succ]; rfl
        case hQz5 => exact fun _ _ _ h => h
        case hyz5 => exact Or.inl ⟨by rfl, by intro w hSw; (try dsimp only at hSw); go_simp; with_reducible rfl⟩
        try simp only [Act.put, List.setIfInBounds_toArray, List.set_cons_zero, List.set_cons_succ]
        refine wpF_take (i := 7) (oi := ?oiz6) (v := (.bool yr)) ?hiz6 (by kernel_rfl) (by kernel_rfl) (by kernel_rfl) (by kernel_rfl) ?hQz6 ?hyz6 (by assumption) ?restz6
        case hiz6 => simp only [List.getElem?_toArray, List.getElem?_cons_zero, List.getElem?_cons_succ]; rfl
        case hQz6 => exact fun _ _ _ h => h
        case hyz6 => exact Or.inl ⟨by rfl, by intro w hSw; (try dsimp only at hSw); have hcq := hSw.2; go_simp; (try with_reducible rfl)⟩
        try simp only [Act.put, List.setIfInBounds_toArray, List.set_cons_zero, List.set_cons_succ]
        refine wpF_take (i := 8) (oi := ?oiz7) (v := ?vz7) ?hiz7 (by kernel_rfl) (by kernel_rfl) (by kernel_rfl) (by kernel_rfl) ?hQz7 ?hyz7 (by assumption) ?restz7
        case hiz7 => simp only [List.getElem?_toArray, List.getElem?_cons_zero, List.getElem?_cons_succ]; rfl
        case hQz7 => exact fun _ _ _ h => h
        case hyz7 => exact Or.inl ⟨by rfl, by intro w hSw; (try dsimp only at hSw); go_simp; with_reducible rfl⟩
        try simp only [Act.put, List.setIfInBounds_toArray, List.set_cons_zero, List.set_cons_succ]
        refine wpF_take (i := 9) (oi := ?oiz8) (v := ?vz8) ?hiz8 (by kernel_rfl) (by kernel_rfl) (by kernel_rfl) (by kernel_rfl) ?hQz8 ?hyz8 (by assumption) ?restz8
        case hiz8 => simp only [List.getElem?_toArray, List.getElem?_cons_zero, List.getElem?_cons_succ]; rfl
        case hQz8 => exact fun _ _ _ h => h
        case hyz8 => exact Or.inl ⟨by rfl, by intro w hSw; (try dsimp only at hSw); go_simp; with_reducible rfl⟩
        try simp only [Act.put, List.setIfInBounds_toArray, List.set_cons_zero, List.set_cons_succ]
        refine wpF_take (i := 10) (oi := ?oiz9) (v := ?vz9) ?hiz9 (by kernel_rfl) (by kernel_rfl) (by kernel_rfl) (by kernel_rfl) ?hQz9 ?hyz9 (by assumption) ?restz9
        case hiz9 => simp only [List.getElem?_toArray, List.getElem?_cons_zero, List.getElem?_cons_succ]; rfl
        case hQz9 => exact fun _ _ _ h => h
        case hyz9 => exact Or.inl ⟨by rfl, by intro w hSw; (try dsimp only at hSw); go_simp; with_reducible rfl⟩
        try simp only [Act.put, List.setIfInBounds_toArray, List.set_cons_zero, List.set_cons_succ]
        refine wpF_take (i := 11) (oi := ?oiz10) (v := (.bool yp)) ?hiz10 (by kernel_rfl) (by kernel_rfl) (by kernel_rfl) (by kernel_rfl) ?hQz10 ?hyz10 (by assumption) ?restz10
        case hiz10 => simp only [List.getElem?_toArray, List.getElem?_cons_zero, List.getElem?_cons_succ]; rfl
        case hQz10 => exact fun _ _ _ h => h
        case hyz10 => exact Or.inl ⟨by rfl, by intro w hSw; (try dsimp only at hSw); have hcq := hSw.1; go_simp; (try with_reducible rfl)⟩
        try simp only [Act.put, List.setIfInBounds_toArray, List.set_cons_zero, List.set_cons_succ]
        refine wpF_late (i := 2) (oi := ?oiz11) (v := ?vz11) ?hiz11 (by kernel_rfl) (by kernel_rfl) (by kernel_rfl) ?hQz11 ?hyz11 ?restz11
        case hiz11 => simp only [List.getElem?_toArray, List.getElem?_cons_zero, List.getElem?_cons_succ]; rfl
        case hQz11 => exact fun _ _ _ h => h
        case hyz11 => exact Or.inl ⟨by rfl, by intro w hSw; (try dsimp only at hSw); go_simp; with_reducible rfl⟩
        try simp only [Act.put, List.setIfInBounds_toArray, List.set_cons_zero, List.set_cons_succ]
        refine wpF_late (i := 3) (oi := ?oiz12) (v := ?vz12) ?hiz12 (by kernel_rfl) (by kernel_rfl) (by kernel_rfl) ?hQz12 ?hyz12 ?restz12
        case hiz12 => simp only [List.getElem?_toArray, List.getElem?_cons_zero, List.getElem?_cons_succ]; rfl
        case hQz12 => exact fun _ _ _ h => h
        case hyz12 => exact Or.inl ⟨by rfl, by intro w hSw; (try dsimp only at hSw); go_simp; with_reducible rfl⟩
        try simp only [Act.put, List.setIfInBounds_toArray, List.set_cons_zero, List.set_cons_succ]
        refine wpF_late (i := 12) (oi := ?oiz13) (v := ?vz13) ?hiz13 (by kernel_rfl) (by kernel_rfl) (by kernel_rfl) ?hQz13 ?hyz13 ?restz13
        case hiz13 => simp only [List.getElem?_toArray, List.getElem?_cons_zero, List.getElem?_cons_succ]; rfl
        case hQz13 => exact fun _ _ _ h => h
        case hyz13 => exact Or.inl ⟨by rfl, by intro w hSw; (try dsimp only at hSw); go_simp; with_reducible rfl⟩
        try simp only [Act.put, List.setIfInBounds_toArray, List.set_cons_zero, List.set_cons_succ]
        have FP1 : wr.drew.frozen? ⟨g, p, none⟩ = false := FP.out
        have FR1 : wr.drew.frozen? ⟨g, r, none⟩ = false := FR.out
        have HG1 := Lib.hid (show w.grownBy wr.drew (some g) from grown_drewS HG.out 1)
        have HH1 := Lib.hid (show wr.drew.heap = wr.heap from rfl)
        generalize wr.drew = wz at hHeld FP1 FR1 HG1 HH1 ⊢
        have K1 := Lib.hid (show Own tBool 4 (wz.setCell ⟨g, p, none⟩ (.bool yr)) base (.slice (some ⟨g, 0, none⟩) (n + 1) cap) (ys.set p yr) from H1.out.kept1 (by simp [World.setCell, HH1.out]))
        have K2 := Lib.hid (show Own tBool 4 ((wz.setCell ⟨g, p, none⟩ (.bool yr)).setCell ⟨g, r, none⟩ (.bool yp)) base (.slice (some ⟨g, 0, none⟩) (n + 1) cap) ((ys.set p yr).set r yp) from H2.out.kept1 (by simp [World.setCell, HH1.out]))
        have c2 : ∃ u, (wz.setCell ⟨g, p, none⟩ (.bool yr)).cell? ⟨g, r, none⟩ = some u := ⟨_, (World.cell?_of_block (w := wr.setCell ⟨g, p, none⟩ (.bool yr)) (by simp [World.setCell, HH1.out])).trans CR2.out⟩
        have f2 : (wz.setCell ⟨g, p, none⟩ (.bool yr)).frozen? ⟨g, r, none⟩ = false := by have := FR2.out; simpa [World.frozen?, World.setCell, HH1.out] using this
        obtain ⟨u2, c2⟩ := c2
        have cp := hHeld.1
        refine wpF_ready (rs := [13]) (by kernel_rfl) (by simp) (AllF.cons (o := ?oy1413) ?hy1413 (fun K hK => ?sy1413) AllF.nil)
        case hy1413 => simp only [List.getElem?_toArray, List.getElem?_cons_zero, List.getElem?_cons_succ]; rfl
        go_simp
        refine hK.out _ _ (fun h => absurd (by decide) h) ?_
        clear hK K hHeld cp
        generalize hwy : wz.setCell ⟨g, p, none⟩ (.bool yr) = wy at K1 K2 c2 f2 ⊢
        have HG2 := Lib.hid (show w.grownBy wy (some g) by rw [← hwy]; exact grown_set HG1.out _)
        clear hwy
        try simp only [Act.put, List.setIfInBounds_toArray, List.set_cons_zero, List.set_cons_succ]
        refine wpF_late (i := 14) (oi := ?oiz15) (v := ?vz15) ?hiz15 (by kernel_rfl) (by kernel_rfl) (by kernel_rfl) ?hQz15 ?hyz15 ?restz15
        case hiz15 => simp only [List.getElem?_toArray, List.getElem?_cons_zero, List.getElem?_cons_succ]; rfl
        case hQz15 => exact fun _ _ _ h => h
        case hyz15 => exact Or.inl ⟨by rfl, by intro w hSw; (try dsimp only at hSw); go_simp; with_reducible rfl⟩
        try simp only [Act.put, List.setIfInBounds_toArray, List.set_cons_zero, List.set_cons_succ]
        refine wpF_ready (rs := [15]) (by kernel_rfl) (by simp) (AllF.cons (o := ?oy1615) ?hy1615 (fun K hK => ?sy1615) AllF.nil)
        case hy1615 => simp only [List.getElem?_toArray, List.getElem?_cons_zero, List.getElem?_cons_succ]; rfl
        go_simp
        refine hK.out _ _ (fun h => absurd (by decide) h) ?_
        clear hK K
        have HG3 := Lib.hid (grown_set (i := r) HG2.out (.bool yp))
        try simp only [Act.put, List.setIfInBounds_toArray, List.set_cons_zero, List.set_cons_succ]
        refine wpF_done (by kernel_rfl) ?_ _
        clear c2 f2 FP1 FR1
        go_wp2
        go_roundw
        case rel =>
          refine ⟨p + 1, r, _, by go_num, by go_num, by have := HPQ.out; omega, by omega, by rw [List.length_set, List.length_set]; exact HYL.out, K2.out, fun k hk => ?_, HG3.out⟩
          have hvk := HV.out k hk
          have hvp := HV.out p (by have := HPQ.out; omega)
          have hvr := HV.out r (by have := HPQ.out; omega)
          rw [HYP.out, if_neg (by omega)] at hvp
          rw [HYR.out, if_neg (by omega)] at hvr
          have hpq := HPQ.out
          by_cases e1 : k = r
          · subst e1
            have : gB ((ys.set p yr).set k yp) k = yp := by
              unfold gB
              rw [List.getD_eq_getElem?_getD, List.getElem?_set_self (by rw [List.length_set, HYL.out]; exact hk)]; rfl
            rw [this, if_pos (by omega), show n - k = p by omega]
            exact hvp
          · by_cases e2 : k = p
            · subst e2
              have : gB ((ys.set k yr).set r yp) k = yr := by
                unfold gB
                rw [List.getD_eq_getElem?_getD, List.getElem?_set_ne (by omega), List.getElem?_set_self (by rw [HYL.out]; exact hk)]; rfl
              rw [this, if_pos (by omega), show n - k = r by omega]
              exact hvr
            · have : gB ((ys.set p yr).set r yp) k = gB ys k := by
                unfold gB
                rw [List.getD_eq_getElem?_getD, List.getElem?_set_ne (by omega), List.getElem?_set_ne (by omega), List.getD_eq_getElem?_getD]
              rw [this, hvk]
              by_cases e3 : k < p ∨ r + 1 ≤ k
              · rw [if_pos e3, if_pos (by omega)]
              · rw [if_neg e3, if_neg (by omega)]
        case measure => simp [intOf]; omega
      · have HE := Lib.hid (show ys = xs.reverse by
          refine List.ext_getElem (by rw [hyl, List.length_reverse, HN.out]) fun k h1 h2 => ?_
          have hk : k < n + 1 := by omega
          have := HV.out k hk
          rw [gB_lt h1] at this
          have hpq3 := HPQ.out
          have hlast : gB xs (n - k) = xs.reverse[k] := by
            rw [gB_lt (by rw [HN.out]; omega), List.getElem_reverse]
            congr 1
            rw [HN.out]
            omega
          by_cases e3 : k < p ∨ q ≤ k
          · rw [if_pos e3] at this
            rw [this, hlast]
          · rw [if_neg e3] at this
            have ek : k = n - k := by omega
            rw [this, ← hlast, ← ek])
        have q4 : ¬ (p : Int) < (q : Int) - 1 := by omega
        clear hpq hyl hlt
        go_wp2
        go_end0
        exact ⟨rfl, by rw [← HE.out]; exact HOW.out, HG.out⟩
set_option maxHeartbeats 1000000 in
set_option maxRecDepth 100000 in
theorem sizeBool_any (A : Option Addr) (n c : Nat) (w : World) : Calls Try.prog 69 #[.slice A n c] w fun q w' => q = .returned (.int .i64 n) ∧ w = w' := by
  go_enter Try.func69, Try.ntmps69
  go_wp2
  go_ret
  exact ⟨rfl, rfl⟩
set_option maxHeartbeats 1000000 in
set_option maxRecDepth 100000 in
theorem isLeaves_any (n : Int) (w : World) : Calls Try.prog 68 #[.int .i64 n] w fun q w' => q = .returned (.bool (decide (1 ≤ n) && decide (n ≤ 256))) ∧ w = w' := by
  have hw := fun W => within_any n 1 256 W
  obtain ⟨R, hR⟩ : ∃ R, (decide (1 ≤ n) && decide (n ≤ 256)) = R := ⟨_, rfl⟩
  simp only [hR] at hw ⊢
  clear hR
  go_enter Try.func68, Try.ntmps68
  go_wp2_with fail
  refine (hw _).mono ?_
  rintro e w' ⟨rfl, rfl⟩
  go_wp2
  go_ret
  exact ⟨rfl, rfl⟩
set_option maxHeartbeats 4000000 in
set_option maxRecDepth 100000 in
theorem sides_any (n i : Nat) (hn : n ≤ 256) (hi : i < n) (w : World) :
    Calls Try.prog 70 #[.int .i64 n, .int .i64 i] w fun q w' => ∃ v', q = .returned v' ∧ Own tBool 4 w' w.heap.size v' (sd n i).reverse ∧ Ext w w' := by
  obtain ⟨R, hR⟩ : ∃ R, sd n i = R := ⟨_, rfl⟩
  have HRR := Lib.hid hR
  rw [hR]
  clear hR
  go_enter Try.func70, Try.ntmps70
  go_wp2
  go_loopw [0, 1, 5, 6, 7] (fun a b o _ _ wr => ∃ (m j : Nat) (done : List Bool), a = .int .i64 m ∧ b = .int .i64 j ∧ m ≤ 256 ∧ j < m ∧ Own tBool 4 wr w.heap.size o done ∧ done ++ sd m j = R ∧ done.length + m ≤ 256 ∧ Ext w wr) (fun a _ _ _ _ _ => (intOf a).toNat)
  case atStart => exact ⟨n, i, [], rfl, rfl, hn, hi, Own.empty tBool _ _ _ (Nat.le_refl _), by rw [List.nil_append]; exact HRR.out, by simpa using hn, ext_alloc _ _⟩
  case round =>
    obtain ⟨m, j, done, rfl, rfl, hm, hj, ho, hd, hdl, hx⟩ := hrel
    obtain ⟨C, cn, cc, rfl⟩ := ho.shape3
    have HO := Lib.hid ho
    have HD := Lib.hid hd
    have HX := Lib.hid hx
    have HDL := Lib.hid hdl
    clear ho hd hx hdl
    by_cases h2 : 2 ≤ m
    · have hhf := half_lt h2
      have hlo := fun W => leftOf_any m h2 hm W
      have hst := sd_step h2 j
      obtain ⟨k, hk⟩ : ∃ k, half m = k := ⟨_, rfl⟩
      rw [hk] at hhf hlo hst
      have HST := Lib.hid hst
      obtain ⟨hp1, hp2, hp3⟩ := hhf
      have hm1 : (1 : Int) < (m : Int) := by omega
      have hwk : IntKind.i64.wrap ((m : Int) - (k : Int)) = ((m - k : Nat) : Int) := by rw [IntWalk.i64_in _ (by omega)]; omega
      have hwq : (m : Int) - (k : Int) = ((m - k : Nat) : Int) := by omega
      clear hst hk
      by_cases hjk : k ≤ j
      · have hjk' : (k : Int) ≤ (j : Int) := by omega
        have hwj : IntKind.i64.wrap ((j : Int) - (k : Int)) = ((j - k : Nat) : Int) := by rw [IntWalk.i64_in _ (by omega)]; omega
        have hwj2 : (j : Int) - (k : Int) = ((j - k : Nat) : Int) := by omega
        go_wp2_with fail
        refine (hlo _).mono ?_
        rintro e w' ⟨rfl, rfl⟩
        clear hlo
        go_wp2_with (at_builtin; refine wpl_append rowBool rfl _ _ rfl (v := .slice C cn cc) rfl (HO.out.alloc (.cells #[.bool true] 4)) _ _ rfl (A := some ⟨wr.heap.size, 0, none⟩) (ys := [true]) rfl (rd_one (T := tBool) wr true trivial _) (fun _ _ => trivial) (by have := HDL.out; simp; omega) (by have := HX.out.size; simp; omega) ?_; intro v5 w5 ho5 hg5 hat5; have HX5 := Lib.hid ((HO.out.alloc (.cells #[.bool true] 4)).ext_app (HX.out.alloc _) hg5); have HO5 := Lib.hid ho5; obtain ⟨C5, n5, c5, rfl⟩ := ho5.shape3; clear ho5 hg5 hat5)
        go_roundw
        case rel => exact ⟨m - k, j - k, _, rfl, rfl, by omega, by omega, HO5.out, by rw [← HD.out, HST.out, if_pos hjk, List.append_assoc]; rfl, by have := HDL.out; simp; omega, HX5.out⟩
        case measure => simp [intOf]; omega
      · have hjk' : ¬ (k : Int) ≤ (j : Int) := by omega
        clear hwk hwq
        go_wp2_with fail
        refine (hlo _).mono ?_
        rintro e w' ⟨rfl, rfl⟩
        clear hlo
        go_wp2_with (at_builtin; refine wpl_append rowBool rfl _ _ rfl (v := .slice C cn cc) rfl (HO.out.alloc (.cells #[.bool false] 4)) _ _ rfl (A := some ⟨wr.heap.size, 0, none⟩) (ys := [false]) rfl (rd_one (T := tBool) wr false trivial _) (fun _ _ => trivial) (by have := HDL.out; simp; omega) (by have := HX.out.size; simp; omega) ?_; intro v5 w5 ho5 hg5 hat5; have HX5 := Lib.hid ((HO.out.alloc (.cells #[.bool false] 4)).ext_app (HX.out.alloc _) hg5); have HO5 := Lib.hid ho5; obtain ⟨C5, n5, c5, rfl⟩ := ho5.shape3; clear ho5 hg5 hat5)
        go_roundw
        case rel => exact ⟨k, j, _, rfl, rfl, by omega, by omega, HO5.out, by rw [← HD.out, HST.out, if_neg hjk, List.append_assoc]; rfl, by have := HDL.out; simp; omega, HX5.out⟩
        case measure => simp [intOf]; omega
    · have HE := Lib.hid (show done = R by have := HD.out; rwa [sd_one (by omega), List.append_nil] at this)
      have hm1 : ¬ (1 : Int) < (m : Int) := by omega
      have hrv := reverse_any (.slice C cn cc) done wr _ HO.out (by have := HDL.out; omega)
      go_wp2_with fail
      refine hrv.mono ?_
      rintro e w2 ⟨rfl, ho, hg⟩
      have HO2 := Lib.hid ho
      have HX2 := Lib.hid (HX.out.grown hg (fun q hq => (HO.out.base_le q hq).1))
      clear ho hg hrv
      go_wp2
      go_ret
      exact ⟨_, rfl, by rw [← HE.out]; exact HO2.out, HX2.out⟩
end Go.Proofs.Ytdjclllnmclocaa
/- Keys that are drawn from a source. No condition. -/
namespace Go.Proofs.Ytdjclllnmclocaa
open Go.RowKit
set_option linter.unusedVariables false
set_option linter.unusedSimpArgs false

theorem zeroA_ok : K32 (List.replicate 32 0) := zero_ok
theorem K32.setA {k : List Int} (h : K32 k) (i : Nat) {x : Int} (h0 : 0 ≤ x) (h1 : x ≤ 255) : K32 (k.set i x) := by
  refine ⟨by rw [List.length_set]; exact h.1, fun y hy => ?_⟩
  rcases List.mem_or_eq_of_mem_set hy with hy | rfl
  · exact h.2 y hy
  · exact ⟨h0, h1⟩
theorem stRowA (w : World) (g : Nat) (cs : Array Value) : w.grownBy (w.setRow g cs) (some g) := ⟨rfl, rfl, rfl, by simp, fun k _ hk => setRow_other w g k cs (fun e => hk (by rw [e]))⟩
set_option maxHeartbeats 8000000 in
set_option maxRecDepth 100000 in
theorem l01Any_any (g : Nat) (b : Int) (hb : b ≤ 4611686018427370000) (w : World) (h : Src w g b) :
    Calls Try.prog 60 #[.pointer (some ⟨g, 0, none⟩)] w fun e w' => ∃ k : List Int, e = .returned (.agg (numsA .u8 k)) ∧ K32 k ∧ Src w' g (b + 410) ∧ w.grownBy w' (some g) := by
  have hgl := h.lt
  have hzA : (Try.prog.info? 28).map (·.zero) = some (some (.agg (numsA .u8 (List.replicate 32 0)))) := by kernel_rfl
  have hbA := built_zeroA
  have hZ0 := zeroA_ok
  generalize (List.replicate 32 (0 : Int)) = Z at hzA hbA hZ0
  have HZ := Lib.hid hZ0
  clear hZ0
  have hzl := HZ.out.1
  have hzst := St.nums (k := .u8) hzl
  have H := Lib.hid h
  clear h
  go_enter Try.func60, Try.ntmps60
  go_wp2_with (first
    | (refine wpl_alloc (numsA .u8 Z) hzA rfl rfl ?_)
    | (refine wpl_buildN rfl rfl hbA ?_)
    | (refine wpl_storeNewB aggKey hzst hzst.size rfl _ _ rfl rfl rfl rfl ?_)
    | (refine wpl_storeNewG (g := w.heap.size + 1) (w := w.alloc _) (by simp) aggKey hzst hzst.size rfl _ _ rfl rfl rfl rfl ?_))
  have BR0 := Lib.hid ((Blk.new w 28 (numsA .u8 Z)).alloc (.cells (numsA .u8 Z) 28))
  have BK0 := Lib.hid (Blk.new' (g := w.heap.size + 1) (w := w.alloc (.cells (numsA .u8 Z) 28)) (by simp) 28 (numsA .u8 Z))
  have hX := (ext_alloc w (.cells (numsA .u8 Z) 28)).alloc (.cells (numsA .u8 Z) 28)
  refine (srcPick_any g b (by omega) 3 (by omega) _ (H.out.ext hX)).mono ?_
  rintro e w1 ⟨n, rfl, hn0, hn1, hs, hg⟩
  have HG := Lib.hid (grown_trans (ext_grown (some g) hX) hg)
  have HS := Lib.hid hs
  have BR := Lib.hid (BR0.out.grown hg (fun e => by injection e with e; omega))
  have BK := Lib.hid (BK0.out.grown hg (fun e => by injection e with e; omega))
  clear hs hg hX BR0 BK0 H
  have hn3 : n = 0 ∨ n = 1 ∨ n = 2 := by omega
  rcases hn3 with rfl | rfl | rfl
  · clear hn0 hn1
    go_wp2_with fail
    refine (srcPick_any g (b + 2) (by omega) 3 (by omega) _ HS.out).mono ?_
    rintro e w2 ⟨t, rfl, ht0, ht1, hs, hg⟩
    have ht2 : t ≤ 255 := by omega
    have htw := u8_in t ht0 ht2
    replace HS := Lib.hid hs
    replace BR := Lib.hid (BR.out.grown hg (fun e => by injection e with e; omega))
    replace HG := Lib.hid (grown_trans HG.out hg)
    clear hs hg ht1
    go_wp2_with fail
    refine (l01Data_any g (b + 2 + 2) (by omega) 4 (by omega) _ HS.out).mono ?_
    rintro e w3 ⟨v3, xs, rfl, ho, hl, hs, hg⟩
    obtain ⟨A3, n3, c3, rfl⟩ := ho.shape3
    have HO := Lib.hid ho
    replace HS := Lib.hid hs
    replace BR := Lib.hid (BR.out.grown hg (fun e => by injection e with e; omega))
    replace HG := Lib.hid (grown_trans HG.out hg)
    clear hs hg ho
    go_wp2_with fail
    refine (l01Hash_any t ⟨ht0, ht2⟩ _ xs _ _ HO.out.rd (by omega)).mono ?_
    rintro e w4 ⟨rfl, hx⟩
    have hk := (hashL_ok t xs).1
    replace HS := Lib.hid (HS.out.ext hx)
    replace BR := Lib.hid (BR.out.ext hx)
    replace HG := Lib.hid (grown_ext HG.out hx)
    clear hx HO
    go_wp2_with (refine wpl_storeN BR.out aggKey hk hzst.size rfl _ _ rfl rfl rfl rfl ?_)
    refine bodyPost_ret (results_blk rfl _ rfl aggKey hk (BR.out.setRow _)) rfl ?_
    exact ⟨_, rfl, hashL_ok t xs, (HS.out.later (stRowA _ _ _) (fun k e => by injection e with e; omega)).le (by omega), grownR HG.out (stRowA _ _ _) (fun k e => by injection e with e; omega)⟩
  · clear hn0 hn1
    go_wp2_with fail
    refine (srcPick_any g (b + 2) (by omega) 32 (by omega) _ HS.out).mono ?_
    rintro e w2 ⟨i, rfl, hi0, hi1, hs, hg⟩
    obtain ⟨i, rfl⟩ := Int.eq_ofNat_of_zero_le hi0
    have hi2 : i < 32 := by omega
    have hi3 : (i : Int) < 32 := by omega
    replace HS := Lib.hid hs
    replace BR := Lib.hid (BR.out.grown hg (fun e => by injection e with e; omega))
    replace BK := Lib.hid (BK.out.grown hg (fun e => by injection e with e; omega))
    replace HG := Lib.hid (grown_trans HG.out hg)
    clear hs hg hi1
    go_wp2_with fail
    refine (srcPick_any g (b + 2 + 2) (by omega) 256 (by omega) _ HS.out).mono ?_
    rintro e w3 ⟨x, rfl, hx0, hx1, hs, hg⟩
    have hx2 : x ≤ 255 := by omega
    have hxw := u8_in x hx0 hx2
    replace HS := Lib.hid hs
    replace BR := Lib.hid (BR.out.grown hg (fun e => by injection e with e; omega))
    replace BK := Lib.hid (BK.out.grown hg (fun e => by injection e with e; omega))
    replace HG := Lib.hid (grown_trans HG.out hg)
    have d := BK.out.num i (by rw [hzl]; exact hi2)
    have f := BK.out.free i
    have HK := Lib.hid (HZ.out.setA i hx0 hx2)
    have hkl := HK.out.1
    have hksz := sizeN (k := .u8) hkl
    have BK2 := Lib.hid (show Blk (w3.setCell ⟨w.heap.size + 1, i, none⟩ (.int .u8 x)) (w.heap.size + 1) 28 (numsA .u8 (Z.set i x)) by
      have := BK.out.set i (.int .u8 x)
      rwa [numsA_set] at this)
    have BR2 := Lib.hid (BR.out.far (p := ⟨w.heap.size + 1, i, none⟩) (by show w.heap.size ≠ w.heap.size + 1; omega) (.int .u8 x))
    have HG2 := Lib.hid (grownR HG.out (r2 := some (w.heap.size + 1)) (grown_set (grown_refl w3 _) (i := i) (.int .u8 x)) (fun k e => by injection e with e; omega))
    have HS2 := Lib.hid (HS.out.later (grown_set (grown_refl w3 (some (w.heap.size + 1))) (i := i) (.int .u8 x)) (fun k e => by injection e with e; omega))
    clear hs hg hx1
    go_wp2_with (first
      | (refine wpl_loadB BK2.out aggKey hksz rfl _ rfl rfl ?_)
      | (refine wpl_storeN BR2.out aggKey hkl hzst.size rfl _ _ rfl rfl rfl rfl ?_))
    refine bodyPost_ret (results_blk rfl _ rfl aggKey hkl (BR2.out.setRow _)) rfl ?_
    exact ⟨_, rfl, HK.out, (HS2.out.later (stRowA _ _ _) (fun k e => by injection e with e; omega)).le (by omega), grownR HG2.out (stRowA _ _ _) (fun k e => by injection e with e; omega)⟩
  · clear hn0 hn1
    go_wp2_with fail
    go_loopw [4] (fun q wr => ∃ (j : Nat) (ks : List Int), j ≤ 32 ∧ q = .int .i64 j ∧ K32 ks ∧ Blk wr (w.heap.size + 1) 28 (numsA .u8 ks) ∧ Blk wr w.heap.size 28 (numsA .u8 Z) ∧ Src wr g (b + 2 + 2 * j) ∧ w.grownBy wr (some g)) (fun q _ => 32 - (intOf q).toNat)
    case atStart => exact ⟨0, _, by omega, rfl, HZ.out, BK.out, BR.out, HS.out.le (by omega), HG.out⟩
    case round =>
      obtain ⟨j, ks, hj, rfl, hks, hbk, hbr, hs, hg⟩ := hrel
      clear HS HG BK BR
      have BK := Lib.hid hbk
      have BR := Lib.hid hbr
      have HS := Lib.hid hs
      have HG := Lib.hid hg
      have HK0 := Lib.hid hks
      have hksl := hks.1
      clear hbk hbr hs hg hks
      by_cases hlj : j < 32
      · have hjI : (j : Int) < 32 := by omega
        have hj0 : (0 : Int) ≤ (j : Int) := by omega
        go_wp2_with fail
        refine (srcPick_any g _ (by omega) 256 (by omega) _ HS.out).mono ?_
        rintro e w3 ⟨x, rfl, hx0, hx1, hs, hg⟩
        have hx2 : x ≤ 255 := by omega
        have hxw := u8_in x hx0 hx2
        replace HS := Lib.hid hs
        replace BR := Lib.hid (BR.out.grown hg (fun e => by injection e with e; omega))
        replace BK := Lib.hid (BK.out.grown hg (fun e => by injection e with e; omega))
        replace HG := Lib.hid (grown_trans HG.out hg)
        have d := BK.out.num j (by rw [hksl]; exact hlj)
        have f := BK.out.free j
        have HK := Lib.hid (HK0.out.setA j hx0 hx2)
        have BK2 := Lib.hid (show Blk (w3.setCell ⟨w.heap.size + 1, j, none⟩ (.int .u8 x)) (w.heap.size + 1) 28 (numsA .u8 (ks.set j x)) by
          have := BK.out.set j (.int .u8 x)
          rwa [numsA_set] at this)
        have BR2 := Lib.hid (BR.out.far (p := ⟨w.heap.size + 1, j, none⟩) (by show w.heap.size ≠ w.heap.size + 1; omega) (.int .u8 x))
        have HG2 := Lib.hid (grownR HG.out (r2 := some (w.heap.size + 1)) (grown_set (grown_refl w3 _) (i := j) (.int .u8 x)) (fun k e => by injection e with e; omega))
        have HS2 := Lib.hid (HS.out.later (grown_set (grown_refl w3 (some (w.heap.size + 1))) (i := j) (.int .u8 x)) (fun k e => by injection e with e; omega))
        clear hs hg hx1
        go_wp2
        go_roundw
        case rel => exact ⟨j + 1, _, by omega, by go_num, HK.out, BK2.out, BR2.out, HS2.out.le (by omega), HG2.out⟩
        case measure => simp [intOf]; omega
      · obtain rfl : j = 32 := by omega
        have hksz := sizeN (k := .u8) hksl
        go_wp2_with (first
          | (refine wpl_loadB BK.out aggKey hksz rfl _ rfl rfl ?_)
          | (refine wpl_storeN BR.out aggKey hksl hzst.size rfl _ _ rfl rfl rfl rfl ?_))
        refine bodyPost_ret (results_blk rfl _ rfl aggKey hksl (BR.out.setRow _)) rfl ?_
        exact ⟨_, rfl, HK0.out, (HS.out.later (stRowA _ _ _) (fun k e => by injection e with e; omega)).le (by omega), grownR HG.out (stRowA _ _ _) (fun k e => by injection e with e; omega)⟩
set_option maxHeartbeats 4000000 in
set_option maxRecDepth 100000 in
theorem a2Keys_any (v : Value) (code : List Int) (most : Nat) (hm : most ≤ 20) (w : World) (S : Nat → Prop) (h : RdL tByte w S v code) :
    Calls Try.prog 21 #[v, .int .i64 most] w fun e w' => ∃ v' ks, e = .returned v' ∧ Own tKey 28 w' w.heap.size v' ks ∧ ks.length ≤ most ∧ Ext w w' := by
  obtain ⟨A, cap, rfl, _⟩ := id h
  have hm1 : (most : Int) + 1 ≤ 4611686018427387904 := by omega
  have hw1 : IntKind.i64.wrap ((most : Int) + 1) = (most : Int) + 1 := IntWalk.i64_in _ (by omega)
  go_enter Try.func21, Try.ntmps21
  go_wp2_with fail
  refine (l00From_any _ code _ _ h).mono ?_
  rintro e w1 ⟨rfl, hs, hx⟩
  have HX1 := Lib.hid hx
  have HS := Lib.hid hs
  have hgl := hs.lt
  clear hs hx h
  obtain ⟨g, hg0⟩ : ∃ g, w.heap.size = g := ⟨_, rfl⟩
  have HG0 := Lib.hid hg0
  rw [hg0] at HS hgl ⊢
  clear hg0
  go_wp2_with fail
  refine (srcPick_any g 0 (by omega) (most + 1) (by omega) _ (HS.out.ext (ext_alloc _ _))).mono ?_
  rintro e w2 ⟨n, rfl, hn0, hn1, hs, hg⟩
  obtain ⟨n, rfl⟩ := Int.eq_ofNat_of_zero_le hn0
  have hn2 : n ≤ most := by omega
  have HO := Lib.hid ((Own.empty tKey w1 28 w1.heap.size (Nat.le_refl _)).kept hg ((Own.empty tKey w1 28 w1.heap.size (Nat.le_refl _)).ne_sA hgl))
  have HG := Lib.hid (grown_trans (ext_grown (some g) (ext_alloc w1 (Obj.cells #[] 28))) hg)
  replace HS := Lib.hid hs
  clear hs hg hw1
  go_wp2
  go_loopw [6, 7] (fun a i wr => ∃ (k : Nat) (ks : List (List Int)), k ≤ n ∧ i = .int .i64 k ∧ Own tKey 28 wr w1.heap.size a ks ∧ ks.length + k ≤ most ∧ Src wr g (2 + 410 * (n - k)) ∧ w1.grownBy wr (some g)) (fun _ i _ => (intOf i).toNat)
  case atStart => exact ⟨n, [], by omega, rfl, HO.out, by simp; omega, HS.out.le (by omega), HG.out⟩
  case round =>
    obtain ⟨k, ks, hk, rfl, ho, hl, hs, hg⟩ := hrel
    obtain ⟨C, cn, cc, rfl⟩ := ho.shape3
    clear HO HS HG
    have HO := Lib.hid ho
    have HS := Lib.hid hs
    have HG := Lib.hid hg
    have HL := Lib.hid hl
    clear ho hs hg hl
    by_cases h0 : 0 < k
    · have hi : (0 : Int) < (k : Int) := by omega
      go_wp2_with fail
      refine (l01Any_any g _ (by omega) _ HS.out).mono ?_
      rintro e w3 ⟨q7, rfl, hko, hs, hg⟩
      replace HO := Lib.hid (HO.out.kept hg (HO.out.ne_sA hgl))
      replace HS := Lib.hid hs
      replace HG := Lib.hid (grown_trans HG.out hg)
      have HKO := Lib.hid hko
      clear hs hg hko
      go_wp2_with (first
        | (refine wpl_one rowKeyA (by decide) q7 HKO.out rfl _ rfl rfl ?_)
        | (at_builtin; refine wpl_append rowKeyA rfl _ _ rfl (v := .slice C cn cc) rfl (HO.out.alloc (.cells (tKey.enc q7).toArray 28)) _ _ rfl (A := some ⟨w3.heap.size, 0, none⟩) (ys := [q7]) rfl (rd_one (T := tKey) w3 q7 HKO.out _) (by intro y hy; obtain rfl := List.mem_singleton.1 hy; exact HKO.out) (by have := HL.out; simp; omega) (by have := HG.out.size; simp; omega) ?_; intro v5 w5 ho5 hg5 hat5; have HS5 := Lib.hid ((HS.out.ext (ext_alloc w3 (.cells (tKey.enc q7).toArray 28))).later hg5 (fun q hq => Nat.lt_of_lt_of_le hgl (HO.out.base_le q hq).1)); have HG5 := Lib.hid (grownR (grown_ext HG.out (ext_alloc w3 (.cells (tKey.enc q7).toArray 28))) hg5 (fun q hq => (HO.out.base_le q hq).1)); have HO5 := Lib.hid ho5; obtain ⟨C5, n5, c5, rfl⟩ := ho5.shape3; clear ho5 hg5 hat5))
      go_roundw
      case rel => exact ⟨k - 1, _, by omega, by go_num, HO5.out, by have := HL.out; simp; omega, HS5.out.le (by omega), HG5.out⟩
      case measure => simp [intOf]; omega
    · obtain rfl : k = 0 := by omega
      have HX := Lib.hid (HX1.out.grown HG.out (fun k e => by injection e with e; have := HG0.out; omega))
      have HOL := Lib.hid (HO.out.le HX1.out.size)
      go_wp2
      go_ret
      exact ⟨_, ks, rfl, HOL.out, by have := HL.out; omega, HX.out⟩
end Go.Proofs.Ytdjclllnmclocaa
/- The proof of a leaf: the program. No condition. -/
namespace Go.Proofs.Ytdjclllnmclocaa
open Go.RowKit
set_option linter.unusedVariables false
set_option linter.unusedSimpArgs false

set_option maxHeartbeats 8000000 in
set_option maxRecDepth 100000 in
theorem proof_any : ∀ (n : Nat), n ≤ 256 → ∀ (i : Nat) (v : Value) (xs : List (List Int)) (w : World) (S : Nat → Prop), i < n → xs.length = n → RdL tKey w S v xs →
    Calls Try.prog 67 #[v, .int .i64 i] w fun q w' => ∃ v', q = .returned v' ∧ Own tKey 28 w' w.heap.size v' (prf xs i) ∧ Ext w w' := by
  intro n
  induction n using Nat.strongRecOn with
  | ind n ih =>
    intro hn i v xs w S hi hlx h
    obtain ⟨A, cap, rfl, hcap, hlen, hrd, hok⟩ := id h
    have HR := Lib.hid h
    have HOK := Lib.hid (show ∀ x ∈ xs, K32 x from hok)
    have HL := Lib.hid hlx
    clear h hrd hok
    rw [hlx] at hcap hlen ⊢
    by_cases h1 : n = 1
    · have he := Lib.hid (prf_one (xs := xs) (by omega) i)
      subst h1
      go_enter Try.func67, Try.ntmps67
      go_wp2_with fail
      refine (sizeKey_any _ _ _ _).mono ?_
      rintro e w' ⟨rfl, rfl⟩
      go_wp2
      go_ret
      exact ⟨_, rfl, by rw [he.out]; exact Own.nil _ _ _ _, Ext.refl _⟩
    have h2 : 2 ≤ n := by omega
    have hhf := half_lt h2
    have hlo := fun W => leftOf_any n h2 hn W
    have hst := prf_step (xs := xs) (by omega) i
    rw [hlx] at hst
    obtain ⟨m, hm⟩ : ∃ m, half n = m := ⟨_, rfl⟩
    rw [hm] at hhf hlo hst
    obtain ⟨A', cap', e', _, _, hrd, _⟩ := HR.out
    obtain ⟨rfl, _, rfl⟩ := Value.slice.inj e'
    obtain ⟨g, o, rfl, _, _⟩ := hrd.2 (by omega)
    have HRR := Lib.hid (show RdL tKey w S (.slice (some ⟨g, o, none⟩) n cap) xs by have := HR.out; rwa [hlx] at this)
    have HTL := Lib.hid (show ∀ W, RdL tKey W S (.slice (some ⟨g, o, none⟩) n cap) xs → RdL tKey W S (.slice (some ⟨g, o, none⟩) m cap) (xs.take m) from fun W hW => rdlK_take hW (by omega) (by omega))
    have HDL := Lib.hid (show ∀ W, RdL tKey W S (.slice (some ⟨g, o, none⟩) n cap) xs → RdL tKey W S (.slice (some ⟨g, o + m * 32, none⟩) (n - m) (cap - m)) (xs.drop m) from fun W hW => rdlK_drop hW (by omega) (by omega))
    have HLT := Lib.hid (show (xs.take m).length = m by rw [List.length_take]; omega)
    have HLD := Lib.hid (show (xs.drop m).length = n - m by rw [List.length_drop]; omega)
    have KA := Lib.hid (show ∀ x ∈ xs.take m, K32 x from fun x hx => HOK.out x (List.mem_of_mem_take hx))
    have KB := Lib.hid (show ∀ x ∈ xs.drop m, K32 x from fun x hx => HOK.out x (List.mem_of_mem_drop hx))
    have HST := Lib.hid hst
    have HN := Lib.hid hn
    clear hst e' hrd hm HR
    generalize xs.take m = ta at HTL HLT KA HST
    generalize xs.drop m = tb at HDL HLD KB HST
    have hn1 : ((n : Int) == 1) = false := by rw [beq_eq_false_iff_ne]; omega
    have q0 : (0 : Int) ≤ (m : Int) := by omega
    have q1 : (m : Int) ≤ (n : Int) := by omega
    have q2 : (m : Int) ≤ (cap : Int) := by omega
    have q3 : (n : Int) ≤ (cap : Int) := by omega
    have q4 : m ≤ cap := by omega
    have q5 : m ≤ n := by omega
    have hcm : ¬ cap = m := by omega
    obtain ⟨hp1, hp2, hp3⟩ := hhf
    by_cases hc : i < m
    · have hci : (i : Int) < (m : Int) := by omega
      have HP := Lib.hid (fun W hW => ih m hp2 (by omega) i _ _ W S hc HLT.out (HTL.out W hW))
      have HQ := Lib.hid (fun W hW => listKey_any (n - m) (by omega) _ _ W S HLD.out (HDL.out W hW))
      have HE := Lib.hid (show prf xs i = prf ta i ++ [lk tb] by rw [HST.out, if_pos hc])
      have HPL := Lib.hid (show (prf ta i).length ≤ 256 by have := prf_le KA.out i; rw [HLT.out] at this; omega)
      have HKB := Lib.hid (lk_ok KB.out)
      generalize prf ta i = pa at HP HE HPL
      generalize lk tb = kb at HQ HE HKB
      clear ih hp1 hp2 hp3 hc
      go_enter Try.func67, Try.ntmps67
      go_wp2_with fail
      refine (sizeKey_any _ _ _ _).mono ?_
      rintro e w' ⟨rfl, rfl⟩
      go_wp2_with fail
      refine (hlo _).mono ?_
      rintro e w' ⟨rfl, rfl⟩
      clear hlo
      go_wp2_with fail
      refine wp_region_held_drew (S := fun W => Ext w W) (by kernel_rfl) (Ext.refl _).drew (fun hHeld => ?_)
      refine wpAnyH_take (i := 0) (oi := ?oiz1) (v := ?vz1) ?hiz1 (by kernel_rfl) (by kernel_rfl) (by kernel_rfl) ?hQz1 ?hyz1 (by assumption) ?restz1
      case hiz1 => simp only [List.getElem?_toArray, List.getElem?_cons_zero, List.getElem?_cons_succ]; rfl
      case hQz1 => exact fun _ _ _ h => h
      case hyz1 => exact Or.inl ⟨by rfl, by intro w hSw; (try dsimp only at hSw); go_simp; with_reducible rfl⟩
      try simp only [Act.put, List.setIfInBounds_toArray, List.set_cons_zero, List.set_cons_succ]
      refine wpAnyH_take (i := 1) (oi := ?oiz2) (v := ?vz2) ?hiz2 (by kernel_rfl) (by kernel_rfl) (by kernel_rfl) ?hQz2 ?hyz2 (by assumption) ?restz2
      case hiz2 => simp only [List.getElem?_toArray, List.getElem?_cons_zero, List.getElem?_cons_succ]; rfl
      case hQz2 => exact fun _ _ _ h => h
      case hyz2 => exact Or.inl ⟨by rfl, by intro w hSw; (try dsimp only at hSw); go_simp; with_reducible rfl⟩
      try simp only [Act.put, List.setIfInBounds_toArray, List.set_cons_zero, List.set_cons_succ]
      refine wpAnyH_take (i := 2) (oi := ?oiz3) (v := (.slice (some ⟨g, o, none⟩) m cap)) ?hiz3 (by kernel_rfl) (by kernel_rfl) (by kernel_rfl) ?hQz3 ?hyz3 (by assumption) ?restz3
      case hiz3 => simp only [List.getElem?_toArray, List.getElem?_cons_zero, List.getElem?_cons_succ]; rfl
      case hQz3 => exact fun _ _ _ h => h
      case hyz3 => exact Or.inl ⟨by rfl, by intro w hSw; (try dsimp only at hSw); go_simp; (try with_reducible rfl)⟩
      try simp only [Act.put, List.setIfInBounds_toArray, List.set_cons_zero, List.set_cons_succ]
      refine wpAnyH_take (i := 3) (oi := ?oiz4) (v := ?vz4) ?hiz4 (by kernel_rfl) (by kernel_rfl) (by kernel_rfl) ?hQz4 ?hyz4 (by assumption) ?restz4
      case hiz4 => simp only [List.getElem?_toArray, List.getElem?_cons_zero, List.getElem?_cons_succ]; rfl
      case hQz4 => exact fun _ _ _ h => h
      case hyz4 => exact Or.inl ⟨by rfl, by intro w hSw; (try dsimp only at hSw); go_simp; with_reducible rfl⟩
      try simp only [Act.put, List.setIfInBounds_toArray, List.set_cons_zero, List.set_cons_succ]
      refine wpAnyH_take (i := 5) (oi := ?oiz5) (v := ?vz5) ?hiz5 (by kernel_rfl) (by kernel_rfl) (by kernel_rfl) ?hQz5 ?hyz5 (by assumption) ?restz5
      case hiz5 => simp only [List.getElem?_toArray, List.getElem?_cons_zero, List.getElem?_cons_succ]; rfl
      case hQz5 => exact fun _ _ _ h => h
      case hyz5 => exact Or.inl ⟨by rfl, by intro w hSw; (try dsimp only at hSw); go_simp; with_reducible rfl⟩
      try simp only [Act.put, List.setIfInBounds_toArray, List.set_cons_zero, List.set_cons_succ]
      refine wpAnyH_take (i := 6) (oi := ?oiz6) (v := ?vz6) ?hiz6 (by kernel_rfl) (by kernel_rfl) (by kernel_rfl) ?hQz6 ?hyz6 (by assumption) ?restz6
      case hiz6 => simp only [List.getElem?_toArray, List.getElem?_cons_zero, List.getElem?_cons_succ]; rfl
      case hQz6 => exact fun _ _ _ h => h
      case hyz6 => exact Or.inl ⟨by rfl, by intro w hSw; (try dsimp only at hSw); go_simp; with_reducible rfl⟩
      try simp only [Act.put, List.setIfInBounds_toArray, List.set_cons_zero, List.set_cons_succ]
      refine wpAnyH_take (i := 7) (oi := ?oiz7) (v := (.slice (some ⟨g, o + m * 32, none⟩) (n - m) (cap - m))) ?hiz7 (by kernel_rfl) (by kernel_rfl) (by kernel_rfl) ?hQz7 ?hyz7 (by assumption) ?restz7
      case hiz7 => simp only [List.getElem?_toArray, List.getElem?_cons_zero, List.getElem?_cons_succ]; rfl
      case hQz7 => exact fun _ _ _ h => h
      case hyz7 => exact Or.inl ⟨by rfl, by intro w hSw; (try dsimp only at hSw); go_simp; (try with_reducible rfl)⟩
      try simp only [Act.put, List.setIfInBounds_toArray, List.set_cons_zero, List.set_cons_succ]
      refine wpAnyH_ready (rs := [4]) (by kernel_rfl) (by simp) (AllReadyH.cons (o := ?oy84) ?hy84 (fun K hK => ?sy84) AllReadyH.nil)
      case hy84 => simp only [List.getElem?_toArray, List.getElem?_cons_zero, List.getElem?_cons_succ]; rfl
      go_simp
      refine (HP.out _ (HRR.out.ext (by decide) hHeld)).mono ?_
      rintro e w1 ⟨v1, rfl, ho, hx⟩
      have HX1 := Lib.hid (hHeld.trans hx)
      have HO1 := Lib.hid (ho.le hHeld.size)
      obtain ⟨C1, n1, c1, rfl⟩ := ho.shape3
      refine hK.out _ _ HX1.out (fun _ => ?_)
      clear hHeld hK K ho hx
      have hHeld := HX1.out
      try simp only [Act.put, List.setIfInBounds_toArray, List.set_cons_zero, List.set_cons_succ]
      refine wpAnyH_ready (rs := [8]) (by kernel_rfl) (by simp) (AllReadyH.cons (o := ?oy98) ?hy98 (fun K hK => ?sy98) AllReadyH.nil)
      case hy98 => simp only [List.getElem?_toArray, List.getElem?_cons_zero, List.getElem?_cons_succ]; rfl
      go_simp
      refine (HQ.out _ (HRR.out.ext (by decide) hHeld)).mono ?_
      rintro e w2 ⟨rfl, hx⟩
      have HO2 := Lib.hid (HO1.out.ext hx)
      have HX2 := Lib.hid (hHeld.trans hx)
      refine hK.out _ _ HX2.out (fun _ => ?_)
      clear hHeld hK K hx HO1 HX1
      have hHeld := HX2.out
      try simp only [Act.put, List.setIfInBounds_toArray, List.set_cons_zero, List.set_cons_succ]
      refine wpAnyH_ready (rs := [9]) (by kernel_rfl) (by simp) (AllReadyH.cons (o := ?oy109) ?hy109 (fun K hK => ?sy109) AllReadyH.nil)
      case hy109 => simp only [List.getElem?_toArray, List.getElem?_cons_zero, List.getElem?_cons_succ]; rfl
      refine stp_one rowKeyA (by decide) kb HKB.out rfl _ rfl rfl ?_
      have HO3 := Lib.hid (HO2.out.alloc (.cells (tKey.enc kb).toArray 28))
      have HX3 := Lib.hid (hHeld.alloc (.cells (tKey.enc kb).toArray 28))
      refine hK.out _ _ HX3.out (fun _ => ?_)
      clear hHeld hK K HO2 HX2
      have hHeld := HX3.out
      try simp only [Act.put, List.setIfInBounds_toArray, List.set_cons_zero, List.set_cons_succ]
      refine wpAnyH_ready (rs := [10]) (by kernel_rfl) (by simp) (AllReadyH.cons (o := ?oy1110) ?hy1110 (fun K hK => ?sy1110) AllReadyH.nil)
      case hy1110 => simp only [List.getElem?_toArray, List.getElem?_cons_zero, List.getElem?_cons_succ]; rfl
      refine stp_append rowKeyA rfl _ _ rfl (v := .slice C1 n1 c1) rfl HO3.out _ _ rfl (A := some ⟨w2.heap.size, 0, none⟩) (ys := [kb]) rfl (rd_one (T := tKey) w2 kb HKB.out _) (by intro y hy; obtain rfl := List.mem_singleton.1 hy; exact HKB.out) (by have := HPL.out; simp only [List.length_singleton]; omega) hHeld.size ?_
      intro v5 w5 ho5 hg5 hat5
      have HX5 := Lib.hid (Own.ext_app HX3.out HO3.out hg5)
      have HO5 := Lib.hid ho5
      obtain ⟨C5, n5, c5, rfl⟩ := ho5.shape3
      refine hK.out _ _ HX5.out (fun _ => ?_)
      clear hHeld hK K HO3 HX3 ho5 hg5 hat5
      have hHeld := HX5.out
      try simp only [Act.put, List.setIfInBounds_toArray, List.set_cons_zero, List.set_cons_succ]
      refine wpAnyH_take (i := 11) (oi := ?oiz12) (v := ?vz12) ?hiz12 (by kernel_rfl) (by kernel_rfl) (by kernel_rfl) ?hQz12 ?hyz12 (by assumption) ?restz12
      case hiz12 => simp only [List.getElem?_toArray, List.getElem?_cons_zero, List.getElem?_cons_succ]; rfl
      case hQz12 => exact fun _ _ _ h => h
      case hyz12 => exact Or.inl ⟨by rfl, by intro w hSw; (try dsimp only at hSw); go_simp; with_reducible rfl⟩
      try simp only [Act.put, List.setIfInBounds_toArray, List.set_cons_zero, List.set_cons_succ]
      refine wpAnyH_done (by kernel_rfl) ?_ _
      go_wp2
      go_ret
      exact ⟨_, rfl, by rw [HE.out]; exact HO5.out, HX5.out⟩
    · have hci : ¬ (i : Int) < (m : Int) := by omega
      have ei : ((i - m : Nat) : Int) = (i : Int) - (m : Int) := by omega
      have HP := Lib.hid (fun W hW => ih (n - m) (by omega) (by omega) (i - m) _ _ W S (by omega) HLD.out (HDL.out W hW))
      rw [ei] at HP
      have hwi : IntKind.i64.wrap ((i : Int) - (m : Int)) = (i : Int) - (m : Int) := IntWalk.i64_in _ (by omega)
      have HQ := Lib.hid (fun W hW => listKey_any m (by omega) _ _ W S HLT.out (HTL.out W hW))
      have HE := Lib.hid (show prf xs i = prf tb (i - m) ++ [lk ta] by rw [HST.out, if_neg hc])
      have HPL := Lib.hid (show (prf tb (i - m)).length ≤ 256 by have := prf_le KB.out (i - m); rw [HLD.out] at this; omega)
      have HKB := Lib.hid (lk_ok KA.out)
      generalize prf tb (i - m) = pa at HP HE HPL
      generalize lk ta = kb at HQ HE HKB
      clear ih hp1 hp2 hp3 hc
      go_enter Try.func67, Try.ntmps67
      go_wp2_with fail
      refine (sizeKey_any _ _ _ _).mono ?_
      rintro e w' ⟨rfl, rfl⟩
      go_wp2_with fail
      refine (hlo _).mono ?_
      rintro e w' ⟨rfl, rfl⟩
      clear hlo
      go_wp2_with fail
      refine wp_region_held_drew (S := fun W => Ext w W) (by kernel_rfl) (Ext.refl _).drew (fun hHeld => ?_)
      refine wpAnyH_take (i := 0) (oi := ?oiz13) (v := ?vz13) ?hiz13 (by kernel_rfl) (by kernel_rfl) (by kernel_rfl) ?hQz13 ?hyz13 (by assumption) ?restz13
      case hiz13 => simp only [List.getElem?_toArray, List.getElem?_cons_zero, List.getElem?_cons_succ]; rfl
      case hQz13 => exact fun _ _ _ h => h
      case hyz13 => exact Or.inl ⟨by rfl, by intro w hSw; (try dsimp only at hSw); go_simp; with_reducible rfl⟩
      try simp only [Act.put, List.setIfInBounds_toArray, List.set_cons_zero, List.set_cons_succ]
      refine wpAnyH_take (i := 1) (oi := ?oiz14) (v := ?vz14) ?hiz14 (by kernel_rfl) (by kernel_rfl) (by kernel_rfl) ?hQz14 ?hyz14 (by assumption) ?restz14
      case hiz14 => simp only [List.getElem?_toArray, List.getElem?_cons_zero, List.getElem?_cons_succ]; rfl
      case hQz14 => exact fun _ _ _ h => h
      case hyz14 => exact Or.inl ⟨by rfl, by intro w hSw; (try dsimp only at hSw); go_simp; with_reducible rfl⟩
      try simp only [Act.put, List.setIfInBounds_toArray, List.set_cons_zero, List.set_cons_succ]
      refine wpAnyH_take (i := 2) (oi := ?oiz15) (v := (.slice (some ⟨g, o + m * 32, none⟩) (n - m) (cap - m))) ?hiz15 (by kernel_rfl) (by kernel_rfl) (by kernel_rfl) ?hQz15 ?hyz15 (by assumption) ?restz15
      case hiz15 => simp only [List.getElem?_toArray, List.getElem?_cons_zero, List.getElem?_cons_succ]; rfl
      case hQz15 => exact fun _ _ _ h => h
      case hyz15 => exact Or.inl ⟨by rfl, by intro w hSw; (try dsimp only at hSw); go_simp; (try with_reducible rfl)⟩
      try simp only [Act.put, List.setIfInBounds_toArray, List.set_cons_zero, List.set_cons_succ]
      refine wpAnyH_take (i := 3) (oi := ?oiz16) (v := ?vz16) ?hiz16 (by kernel_rfl) (by kernel_rfl) (by kernel_rfl) ?hQz16 ?hyz16 (by assumption) ?restz16
      case hiz16 => simp only [List.getElem?_toArray, List.getElem?_cons_zero, List.getElem?_cons_succ]; rfl
      case hQz16 => exact fun _ _ _ h => h
      case hyz16 => exact Or.inl ⟨by rfl, by intro w hSw; (try dsimp only at hSw); go_simp; with_reducible rfl⟩
      try simp only [Act.put, List.setIfInBounds_toArray, List.set_cons_zero, List.set_cons_succ]
      refine wpAnyH_take (i := 4) (oi := ?oiz17) (v := ?vz17) ?hiz17 (by kernel_rfl) (by kernel_rfl) (by kernel_rfl) ?hQz17 ?hyz17 (by assumption) ?restz17
      case hiz17 => simp only [List.getElem?_toArray, List.getElem?_cons_zero, List.getElem?_cons_succ]; rfl
      case hQz17 => exact fun _ _ _ h => h
      case hyz17 => exact Or.inl ⟨by rfl, by intro w hSw; (try dsimp only at hSw); go_simp; with_reducible rfl⟩
      try simp only [Act.put, List.setIfInBounds_toArray, List.set_cons_zero, List.set_cons_succ]
      refine wpAnyH_take (i := 5) (oi := ?oiz18) (v := (.int .i64 ((i : Int) - (m : Int)))) ?hiz18 (by kernel_rfl) (by kernel_rfl) (by kernel_rfl) ?hQz18 ?hyz18 (by assumption) ?restz18
      case hiz18 => simp only [List.getElem?_toArray, List.getElem?_cons_zero, List.getElem?_cons_succ]; rfl
      case hQz18 => exact fun _ _ _ h => h
      case hyz18 => exact Or.inl ⟨by rfl, by intro w hSw; (try dsimp only at hSw); go_simp; (try with_reducible rfl)⟩
      try simp only [Act.put, List.setIfInBounds_toArray, List.set_cons_zero, List.set_cons_succ]
      refine wpAnyH_take (i := 7) (oi := ?oiz19) (v := ?vz19) ?hiz19 (by kernel_rfl) (by kernel_rfl) (by kernel_rfl) ?hQz19 ?hyz19 (by assumption) ?restz19
      case hiz19 => simp only [List.getElem?_toArray, List.getElem?_cons_zero, List.getElem?_cons_succ]; rfl
      case hQz19 => exact fun _ _ _ h => h
      case hyz19 => exact Or.inl ⟨by rfl, by intro w hSw; (try dsimp only at hSw); go_simp; with_reducible rfl⟩
      try simp only [Act.put, List.setIfInBounds_toArray, List.set_cons_zero, List.set_cons_succ]
      refine wpAnyH_take (i := 8) (oi := ?oiz20) (v := ?vz20) ?hiz20 (by kernel_rfl) (by kernel_rfl) (by kernel_rfl) ?hQz20 ?hyz20 (by assumption) ?restz20
      case hiz20 => simp only [List.getElem?_toArray, List.getElem?_cons_zero, List.getElem?_cons_succ]; rfl
      case hQz20 => exact fun _ _ _ h => h
      case hyz20 => exact Or.inl ⟨by rfl, by intro w hSw; (try dsimp only at hSw); go_simp; with_reducible rfl⟩
      try simp only [Act.put, List.setIfInBounds_toArray, List.set_cons_zero, List.set_cons_succ]
      refine wpAnyH_take (i := 9) (oi := ?oiz21) (v := (.slice (some ⟨g, o, none⟩) m cap)) ?hiz21 (by kernel_rfl) (by kernel_rfl) (by kernel_rfl) ?hQz21 ?hyz21 (by assumption) ?restz21
      case hiz21 => simp only [List.getElem?_toArray, List.getElem?_cons_zero, List.getElem?_cons_succ]; rfl
      case hQz21 => exact fun _ _ _ h => h
      case hyz21 => exact Or.inl ⟨by rfl, by intro w hSw; (try dsimp only at hSw); go_simp; (try with_reducible rfl)⟩
      try simp only [Act.put, List.setIfInBounds_toArray, List.set_cons_zero, List.set_cons_succ]
      refine wpAnyH_ready (rs := [6]) (by kernel_rfl) (by simp) (AllReadyH.cons (o := ?oy226) ?hy226 (fun K hK => ?sy226) AllReadyH.nil)
      case hy226 => simp only [List.getElem?_toArray, List.getElem?_cons_zero, List.getElem?_cons_succ]; rfl
      go_simp
      refine (HP.out _ (HRR.out.ext (by decide) hHeld)).mono ?_
      rintro e w1 ⟨v1, rfl, ho, hx⟩
      have HX1 := Lib.hid (hHeld.trans hx)
      have HO1 := Lib.hid (ho.le hHeld.size)
      obtain ⟨C1, n1, c1, rfl⟩ := ho.shape3
      refine hK.out _ _ HX1.out (fun _ => ?_)
      clear hHeld hK K ho hx
      have hHeld := HX1.out
      try simp only [Act.put, List.setIfInBounds_toArray, List.set_cons_zero, List.set_cons_succ]
      refine wpAnyH_ready (rs := [10]) (by kernel_rfl) (by simp) (AllReadyH.cons (o := ?oy2310) ?hy2310 (fun K hK => ?sy2310) AllReadyH.nil)
      case hy2310 => simp only [List.getElem?_toArray, List.getElem?_cons_zero, List.getElem?_cons_succ]; rfl
      go_simp
      refine (HQ.out _ (HRR.out.ext (by decide) hHeld)).mono ?_
      rintro e w2 ⟨rfl, hx⟩
      have HO2 := Lib.hid (HO1.out.ext hx)
      have HX2 := Lib.hid (hHeld.trans hx)
      refine hK.out _ _ HX2.out (fun _ => ?_)
      clear hHeld hK K hx HO1 HX1
      have hHeld := HX2.out
      try simp only [Act.put, List.setIfInBounds_toArray, List.set_cons_zero, List.set_cons_succ]
      refine wpAnyH_ready (rs := [11]) (by kernel_rfl) (by simp) (AllReadyH.cons (o := ?oy2411) ?hy2411 (fun K hK => ?sy2411) AllReadyH.nil)
      case hy2411 => simp only [List.getElem?_toArray, List.getElem?_cons_zero, List.getElem?_cons_succ]; rfl
      refine stp_one rowKeyA (by decide) kb HKB.out rfl _ rfl rfl ?_
      have HO3 := Lib.hid (HO2.out.alloc (.cells (tKey.enc kb).toArray 28))
      have HX3 := Lib.hid (hHeld.alloc (.cells (tKey.enc kb).toArray 28))
      refine hK.out _ _ HX3.out (fun _ => ?_)
      clear hHeld hK K HO2 HX2
      have hHeld := HX3.out
      try simp only [Act.put, List.setIfInBounds_toArray, List.set_cons_zero, List.set_cons_succ]
      refine wpAnyH_ready (rs := [12]) (by kernel_rfl) (by simp) (AllReadyH.cons (o := ?oy2512) ?hy2512 (fun K hK => ?sy2512) AllReadyH.nil)
      case hy2512 => simp only [List.getElem?_toArray, List.getElem?_cons_zero, List.getElem?_cons_succ]; rfl
      refine stp_append rowKeyA rfl _ _ rfl (v := .slice C1 n1 c1) rfl HO3.out _ _ rfl (A := some ⟨w2.heap.size, 0, none⟩) (ys := [kb]) rfl (rd_one (T := tKey) w2 kb HKB.out _) (by intro y hy; obtain rfl := List.mem_singleton.1 hy; exact HKB.out) (by have := HPL.out; simp only [List.length_singleton]; omega) hHeld.size ?_
      intro v5 w5 ho5 hg5 hat5
      have HX5 := Lib.hid (Own.ext_app HX3.out HO3.out hg5)
      have HO5 := Lib.hid ho5
      obtain ⟨C5, n5, c5, rfl⟩ := ho5.shape3
      refine hK.out _ _ HX5.out (fun _ => ?_)
      clear hHeld hK K HO3 HX3 ho5 hg5 hat5
      have hHeld := HX5.out
      try simp only [Act.put, List.setIfInBounds_toArray, List.set_cons_zero, List.set_cons_succ]
      refine wpAnyH_take (i := 13) (oi := ?oiz26) (v := ?vz26) ?hiz26 (by kernel_rfl) (by kernel_rfl) (by kernel_rfl) ?hQz26 ?hyz26 (by assumption) ?restz26
      case hiz26 => simp only [List.getElem?_toArray, List.getElem?_cons_zero, List.getElem?_cons_succ]; rfl
      case hQz26 => exact fun _ _ _ h => h
      case hyz26 => exact Or.inl ⟨by rfl, by intro w hSw; (try dsimp only at hSw); go_simp; with_reducible rfl⟩
      try simp only [Act.put, List.setIfInBounds_toArray, List.set_cons_zero, List.set_cons_succ]
      refine wpAnyH_done (by kernel_rfl) ?_ _
      go_wp2
      go_ret
      exact ⟨_, rfl, by rw [HE.out]; exact HO5.out, HX5.out⟩
set_option maxHeartbeats 1000000 in
set_option maxRecDepth 100000 in
theorem implProofOf_any (n : Nat) (hn : n ≤ 256) (i : Nat) (v : Value) (xs : List (List Int)) (w : World) (S : Nat → Prop) (hi : i < n) (hlx : xs.length = n) (h : RdL tKey w S v xs) :
    Calls Try.prog 29 #[v, .int .i64 i] w fun q w' => ∃ v', q = .returned (.tuple #[v', .int .i64 0]) ∧ Own tKey 28 w' w.heap.size v' (prf xs i) ∧ Ext w w' := by
  have HP := Lib.hid (proof_any n hn i v xs w S hi hlx h)
  obtain ⟨A, cap, rfl, hcap, hlen, hrd, hok⟩ := id h
  have hw := fun W => within_any (i : Int) 0 ((n : Int) - 1) W
  obtain ⟨R, hR⟩ : ∃ R, (decide ((0 : Int) ≤ (i : Int)) && decide ((i : Int) ≤ (n : Int) - 1)) = R := ⟨_, rfl⟩
  rw [hR] at hw
  obtain rfl : R = true := by rw [← hR]; simp; omega
  rw [hlx] at HP ⊢
  have hgt : ¬ (256 : Int) < (n : Int) := by omega
  have hw1 : IntKind.i64.wrap ((n : Int) - 1) = (n : Int) - 1 := IntWalk.i64_in _ (by omega)
  clear h hrd hok hR hlen hcap hlx
  go_enter Try.func29, Try.ntmps29
  go_wp2_with fail
  refine (sizeKey_any _ _ _ _).mono ?_
  rintro e w' ⟨rfl, rfl⟩
  go_wp2_with fail
  refine (hw _).mono ?_
  rintro e w' ⟨rfl, rfl⟩
  clear hw
  go_wp2_with fail
  refine HP.out.mono ?_
  rintro e w2 ⟨v2, rfl, ho, hx⟩
  have HO := Lib.hid ho
  have HX := Lib.hid hx
  obtain ⟨C, cn, cc, rfl⟩ := ho.shape3
  clear ho hx HP
  go_wp2
  go_ret2
  exact ⟨_, rfl, HO.out, HX.out⟩
set_option maxHeartbeats 1000000 in
set_option maxRecDepth 100000 in
theorem proofOf_any (n : Nat) (hn : n ≤ 256) (i : Nat) (v : Value) (xs : List (List Int)) (w : World) (S : Nat → Prop) (hi : i < n) (hlx : xs.length = n) (h : RdL tKey w S v xs) :
    Calls Try.prog 73 #[v, .int .i64 i] w fun q w' => ∃ v', q = .returned v' ∧ Own tKey 28 w' w.heap.size v' (prf xs i) ∧ Ext w w' := by
  have HP := Lib.hid (proof_any n hn i v xs w S hi hlx h)
  obtain ⟨A, cap, rfl, hcap, hlen, hrd, hok⟩ := id h
  clear h hrd hok hlen hcap
  rw [hlx] at HP ⊢
  go_enter Try.func73, Try.ntmps73
  go_wp2_with fail
  refine HP.out.mono ?_
  rintro e w2 ⟨v2, rfl, ho, hx⟩
  have HO := Lib.hid ho
  have HX := Lib.hid hx
  obtain ⟨C, cn, cc, rfl⟩ := ho.shape3
  clear ho hx HP
  go_wp2
  go_ret
  exact ⟨_, rfl, HO.out, HX.out⟩
set_option maxHeartbeats 1000000 in
set_option maxRecDepth 100000 in
theorem treeDepth_any (n i : Nat) (hn : n ≤ 256) (hi : i < n) (w : World) :
    Calls Try.prog 30 #[.int .i64 n, .int .i64 i] w fun q w' => q = .returned (.tuple #[.int .i64 ((sd n i).length : Nat), .int .i64 0]) ∧ Ext w w' := by
  have HP := Lib.hid (fun W => sides_any n i hn hi W)
  have hw := fun W => within_any (i : Int) 0 ((n : Int) - 1) W
  have hl := fun W => isLeaves_any (n : Int) W
  obtain ⟨R, hR⟩ : ∃ R, (decide ((0 : Int) ≤ (i : Int)) && decide ((i : Int) ≤ (n : Int) - 1)) = R := ⟨_, rfl⟩
  rw [hR] at hw
  obtain rfl : R = true := by rw [← hR]; simp; omega
  obtain ⟨R2, hR2⟩ : ∃ R2, (decide ((1 : Int) ≤ (n : Int)) && decide ((n : Int) ≤ 256)) = R2 := ⟨_, rfl⟩
  rw [hR2] at hl
  obtain rfl : R2 = true := by rw [← hR2]; simp; omega
  have hw1 : IntKind.i64.wrap ((n : Int) - 1) = (n : Int) - 1 := IntWalk.i64_in _ (by omega)
  clear hR hR2 hn hi
  go_enter Try.func30, Try.ntmps30
  go_wp2_with fail
  refine (hl _).mono ?_
  rintro e w' ⟨rfl, rfl⟩
  clear hl
  go_wp2_with fail
  refine (hw _).mono ?_
  rintro e w' ⟨rfl, rfl⟩
  clear hw
  go_wp2_with fail
  refine (HP.out _).mono ?_
  rintro e w2 ⟨v2, rfl, ho, hx⟩
  have HX := Lib.hid hx
  obtain ⟨C, cc, rfl⟩ := ho.shape
  clear ho hx HP
  rw [List.length_reverse]
  go_wp2_with fail
  refine (sizeBool_any _ _ _ _).mono ?_
  rintro e w' ⟨rfl, rfl⟩
  go_wp2
  go_ret2
  exact ⟨rfl, HX.out⟩
end Go.Proofs.Ytdjclllnmclocaa
/- Ones of a number; halves of a number. No condition. -/
namespace Go.Proofs.Ytdjclllnmclocaa
open Go.RowKit
set_option linter.unusedVariables false
set_option linter.unusedSimpArgs false
theorem and_one (m : Nat) (h : m ≤ 300) : bits BinOp.and IntKind.i64 (m : Int) 1 = ((m % 2 : Nat) : Int) := by
  obtain ⟨y, rfl⟩ : ∃ y : Fin 301, m = y.1 := ⟨⟨m, by omega⟩, rfl⟩
  clear h
  revert y
  decide +kernel
set_option maxHeartbeats 1000000 in
set_option maxRecDepth 100000 in
theorem ones_any (x : Nat) (hx : x ≤ 255) (w : World) :
    Calls Try.prog 98 #[.int .u64 x] w fun e w' => e = .returned (.int .i64 (pc x)) ∧ w = w' := by
  go_enter Try.func98, Try.ntmps98
  go_wp2
  go_ret
  refine ⟨ret_int ?_, rfl⟩
  obtain ⟨y, rfl⟩ : ∃ y : Fin 256, x = y.1 := ⟨⟨x, by omega⟩, rfl⟩
  clear hx w
  revert y
  decide +kernel
set_option maxHeartbeats 1000000 in
set_option maxRecDepth 100000 in
theorem len_any (x : Nat) (hx : x ≤ 255) (w : World) :
    Calls Try.prog 97 #[.int .u64 x] w fun e w' => e = .returned (.int .i64 (lenT x)) ∧ w = w' := by
  go_enter Try.func97, Try.ntmps97
  go_wp2_with fail
  refine (len64_any x hx _).mono ?_
  rintro e w' ⟨rfl, rfl⟩
  go_wp2
  go_ret
  exact ⟨rfl, rfl⟩
end Go.Proofs.Ytdjclllnmclocaa
/- Which commits are valid: the reference and the program. No condition. -/
namespace Go.Proofs.Ytdjclllnmclocaa
open Go.RowKit
set_option linter.unusedVariables false
set_option linter.unusedSimpArgs false

def gL (L : List (List Int)) (i : Nat) : List Int := L.getD i []
theorem gL_lt {L : List (List Int)} {i : Nat} (h : i < L.length) : gL L i = L[i] := by simp [gL, List.getD_eq_getElem?_getD, h]
/-- the first n are in order -/
@[irreducible] def srtB (L : List (List Int)) (n : Nat) : Bool := (List.range (n - 1)).all fun i => decide (cmpL (gL L i) (gL L (i + 1)) < 0)
theorem srtB_one (L : List (List Int)) (n : Nat) (h : n ≤ 1) : srtB L n = true := by rw [srtB, show n - 1 = 0 by omega]; rfl
theorem srtB_succ (L : List (List Int)) (k : Nat) : srtB L (k + 2) = (srtB L (k + 1) && decide (cmpL (gL L k) (gL L (k + 1)) < 0)) := by
  rw [srtB, srtB, show k + 2 - 1 = k + 1 by omega, show k + 1 - 1 = k by omega, List.range_succ, List.all_append]; simp
theorem srtB_bad (L : List (List Int)) (k n : Nat) (h : k + 1 < n) (hb : ¬ cmpL (gL L k) (gL L (k + 1)) < 0) : srtB L n = false := by
  rw [srtB, List.all_eq_false]
  exact ⟨k, List.mem_range.2 (by omega), by simpa using hb⟩
/-- a valid commit -/
@[irreducible] def okCm (x : Cm) : Bool := decide (x.par.length ≤ 3) && (decide (0 ≤ x.num) && decide (x.num ≤ 40)) && decide (x.note.size ≤ 64) && srtB x.par x.par.length
theorem okCm_eq (x : Cm) : okCm x = (decide (x.par.length ≤ 3) && (decide (0 ≤ x.num) && decide (x.num ≤ 40)) && decide (x.note.size ≤ 64) && srtB x.par x.par.length) := by rw [okCm]
end Go.Proofs.Ytdjclllnmclocaa
/- What is asked of a store's keys: told by order one after the other, and by a sorted copy. Plain. No condition. -/
namespace Go.Proofs.Ytdjclllnmclocaa
open Go.RowKit
set_option linter.unusedVariables false
set_option linter.unusedSimpArgs false

theorem cmpL7_nil (b : List Int) : cmpL [] b = 0 := by rw [cmpL]; intro x a y b' h; cases h
theorem cmpL7_nil' (a : List Int) : cmpL a [] = 0 := by rw [cmpL]; intro x a' y b' _ h; cases h
theorem cmpL7_cons (x y : Int) (a b : List Int) : cmpL (x :: a) (y :: b) = if x = y then cmpL a b else if x < y then -1 else 1 := by rw [cmpL]
theorem cmpL7_zero : ∀ {a b : List Int}, a.length = b.length → cmpL a b = 0 → a = b
  | [], [], _, _ => rfl
  | x :: a, y :: b, hl, h => by
    rw [cmpL7_cons] at h
    by_cases hxy : x = y
    · rw [if_pos hxy] at h
      rw [hxy, cmpL7_zero (by simpa using hl) h]
    · rw [if_neg hxy] at h
      split at h <;> simp at h
theorem cmpL7_neg : ∀ (a b : List Int), cmpL b a = - cmpL a b
  | [], b => by rw [cmpL7_nil, cmpL7_nil']; rfl
  | x :: a, [] => by rw [cmpL7_nil, cmpL7_nil']; rfl
  | x :: a, y :: b => by
    rw [cmpL7_cons, cmpL7_cons]
    by_cases hxy : x = y
    · subst hxy; rw [if_pos rfl, if_pos rfl, cmpL7_neg a b]
    · rw [if_neg hxy, if_neg (fun e => hxy e.symm)]
      by_cases h1 : x < y
      · rw [if_pos h1, if_neg (by omega)]; rfl
      · rw [if_neg h1, if_pos (by omega)]
theorem cmpL7_trans : ∀ (a b c : List Int), a.length = b.length → b.length = c.length → cmpL a b ≤ 0 → cmpL b c ≤ 0 → cmpL a c ≤ 0
  | [], b, c, _, _, _, _ => by rw [cmpL7_nil]; exact Int.le_refl _
  | x :: a, [], c, h, _, _, _ => by simp at h
  | x :: a, y :: b, [], _, h, _, _ => by simp at h
  | x :: a, y :: b, z :: c, h1, h2, h3, h4 => by
    rw [cmpL7_cons] at h3 h4 ⊢
    by_cases hxy : x = y
    · subst hxy
      rw [if_pos rfl] at h3
      by_cases hxz : x = z
      · subst hxz
        rw [if_pos rfl] at h4 ⊢
        exact cmpL7_trans a b c (by simpa using h1) (by simpa using h2) h3 h4
      · rw [if_neg hxz] at h4 ⊢
        exact h4
    · rw [if_neg hxy] at h3
      by_cases h5 : x < y
      · by_cases hyz : y = z
        · subst hyz; rw [if_neg hxy, if_pos h5]; decide
        · rw [if_neg hyz] at h4
          by_cases h6 : y < z
          · rw [if_neg (by omega), if_pos (by omega)]; decide
          · rw [if_neg h6] at h4; omega
      · rw [if_neg h5] at h3; omega
/-- what stands one behind the other, stands in order -/
theorem chain_pw {R : List Int → List Int → Prop} (ht : ∀ a b c : List Int, a.length = 32 → b.length = 32 → c.length = 32 → R a b → R b c → R a c) : ∀ (L : List (List Int)), (∀ x ∈ L, x.length = 32) → (∀ k (h : k + 1 < L.length), R L[k] L[k + 1]) → L.Pairwise R
  | [], _, _ => List.Pairwise.nil
  | [x], _, _ => List.pairwise_singleton _ _
  | x :: y :: r, hl, h => by
    have ih := chain_pw ht (y :: r) (fun z hz => hl z (by simp [hz])) (fun k hk => by have := h (k + 1) (by simpa using hk); simpa using this)
    refine List.Pairwise.cons (fun z hz => ?_) ih
    have h0 : R x y := by have := h 0 (by simp); simpa using this
    rcases List.mem_cons.1 hz with rfl | hz
    · exact h0
    · exact ht x y z (hl x (by simp)) (hl y (by simp)) (hl z (by simp [hz])) h0 ((List.pairwise_cons.1 ih).1 z hz)
theorem srtB_iff (L : List (List Int)) : srtB L L.length = true ↔ ∀ k (h : k + 1 < L.length), cmpL L[k] L[k + 1] < 0 := by
  have key : ∀ n, n ≤ L.length → (srtB L n = true ↔ ∀ k (h : k + 1 < n), cmpL (gL L k) (gL L (k + 1)) < 0) := by
    intro n
    induction n with
    | zero => intro _; rw [srtB_one _ _ (by omega)]; simp
    | succ n ih =>
      intro hn
      match n, ih with
      | 0, _ => rw [srtB_one _ _ (by omega)]; simp
      | n + 1, ih =>
        rw [srtB_succ, Bool.and_eq_true, ih (by omega), decide_eq_true_iff]
        constructor
        · rintro ⟨h1, h2⟩ k hk
          by_cases e : k = n
          · subst e; exact h2
          · exact h1 k (by omega)
        · intro h
          exact ⟨fun k hk => h k (by omega), h n (by omega)⟩
  rw [key _ (Nat.le_refl _)]
  constructor
  · intro h k hk
    have := h k hk
    rwa [gL_lt (by omega), gL_lt hk] at this
  · intro h k hk
    rw [gL_lt (by omega), gL_lt hk]
    exact h k hk
/-- equal neighbours, each once -/
def compactL : List (List Int) → List (List Int)
  | [] => []
  | [x] => [x]
  | x :: y :: r => if x = y then compactL (y :: r) else x :: compactL (y :: r)
theorem compactL_len : ∀ L : List (List Int), (compactL L).length ≤ L.length
  | [] => Nat.le_refl _
  | [x] => Nat.le_refl _
  | x :: y :: r => by
    have ih := compactL_len (y :: r)
    rw [compactL]
    simp only [List.length_cons] at ih
    split <;> simp only [List.length_cons] <;> omega
theorem compactL_all : ∀ L : List (List Int), (compactL L).length = L.length ↔ ∀ k (h : k + 1 < L.length), L[k] ≠ L[k + 1]
  | [] => by simp [compactL]
  | [x] => by simp [compactL]
  | x :: y :: r => by
    have ih := compactL_all (y :: r)
    have hle := compactL_len (y :: r)
    rw [compactL]
    by_cases e : x = y
    · rw [if_pos e]
      constructor
      · intro h; simp only [List.length_cons] at h hle; omega
      · intro h; exact absurd e (by have := h 0 (by simp); simpa using this)
    · rw [if_neg e]
      constructor
      · intro h k hk
        match k with
        | 0 => simpa using e
        | k + 1 => have := ih.1 (by simp only [List.length_cons] at h ⊢; omega) k (by simpa using hk); simpa using this
      · intro h
        have := ih.2 (fun k hk => by have := h (k + 1) (by simpa using hk); simpa using this)
        simp only [List.length_cons] at this ⊢
        omega
/-- the keys are in order, as the program looks -/
def sortedB (L : List (List Int)) : Prop := ∀ k (h : k + 1 < L.length), ¬ cmpL L[k + 1] L[k] < 0
/-- the two looks tell the same -/
theorem store_ok {L D : List (List Int)} (hl : ∀ x ∈ L, x.length = 32) (hp : D.Perm L) (hs : D.Pairwise fun a b => cmpL a b ≤ 0) :
    ((compactL D).length = L.length ∧ sortedB L) ↔ srtB L L.length = true := by
  have pw : sortedB L → L.Pairwise fun a b => cmpL a b ≤ 0 := fun h => chain_pw (R := fun a b => cmpL a b ≤ 0) (fun a b c ha hb hc h1 h2 => cmpL7_trans a b c (by rw [ha, hb]) (by rw [hb, hc]) h1 h2) L hl (fun k hk => by
    have h1 := h k hk
    have h2 := cmpL7_neg L[k] L[k + 1]
    omega)
  have same : sortedB L → D = L := fun h => by
    refine List.Perm.eq_of_pairwise (le := fun a b => cmpL a b ≤ 0) (fun a b ha hb h1 h2 => ?_) hs (pw h) hp
    have h3 := cmpL7_neg a b
    exact cmpL7_zero (by rw [hl a (hp.subset ha), hl b hb]) (by omega)
  rw [srtB_iff]
  constructor
  · rintro ⟨h1, h2⟩ k hk
    rw [same h2] at h1
    have h3 := (compactL_all L).1 h1 k hk
    have h4 := h2 k hk
    have h5 := cmpL7_neg L[k] L[k + 1]
    have h6 : cmpL L[k] L[k + 1] ≠ 0 := fun e => h3 (cmpL7_zero (by rw [hl _ (List.getElem_mem _), hl _ (List.getElem_mem _)]) e)
    omega
  · intro h
    have h2 : sortedB L := fun k hk => by
      have h1 := h k hk
      have h3 := cmpL7_neg L[k] L[k + 1]
      omega
    refine ⟨?_, h2⟩
    rw [same h2]
    refine (compactL_all L).2 fun k hk e => ?_
    have h1 := h k hk
    rw [e, cmpL_self] at h1
    omega
end Go.Proofs.Ytdjclllnmclocaa
/- Rows of keys, key by key: read out of an owned row, written, shut again; struck runs of equal keys. No condition. -/
namespace Go.Proofs.Ytdjclllnmclocaa
open Go.RowKit
set_option linter.unusedVariables false
set_option linter.unusedSimpArgs false

def AtK (cur : Array Value) (i : Nat) (x : List Int) : Prop := ∀ j u, (nums .u8 x)[j]? = some u → cur[i * 32 + j]? = some u
theorem flat_key (xs : List (List Int)) (hok : ∀ x ∈ xs, K32 x) (i : Nat) (hi : i < xs.length) (j : Nat) (hj : j < 32) : (xs.flatMap tKey.enc)[i * 32 + j]? = (nums .u8 xs[i])[j]? := by
  have := flatN_at (sz := 32) (xs.map tKey.enc) (by intro es hes; obtain ⟨x, hx, rfl⟩ := List.mem_map.1 hes; exact tKey.len _ (hok x hx)) i (tKey.enc xs[i]) (by rw [List.getElem?_map, List.getElem?_eq_getElem hi]; rfl) j hj
  rw [← List.flatMap_def] at this
  exact this
theorem own_of_atK {w : World} {g t cap base : Nat} {cur : Array Value} {xs : List (List Int)} (hb : Blk w g t cur) (hg : base ≤ g) (hs : cur.size = cap * 32) (hn : xs.length ≤ cap) (hc : cap ≤ maxLen) (hl : xs.length ≤ 140737488355328) (hok : ∀ x ∈ xs, tKey.ok x) (hat : ∀ i (hi : i < xs.length), AtK cur i xs[i]) :
    Own tKey t w base (.slice (some ⟨g, 0, none⟩) xs.length cap) xs := by
  have hfl := flat_length tKey xs hok
  refine ⟨⟨hfl, .inr ⟨g, cap, cur, rfl, hg, hb, hn, hc, hs, ?_⟩⟩, hl, hok⟩
  apply List.ext_getElem?
  intro q
  show (List.take (xs.length * 32) cur.toList)[q]? = _
  by_cases hq : q < xs.length * 32
  · rw [List.getElem?_take_of_lt hq, Array.getElem?_toList]
    have hi : q / 32 < xs.length := by omega
    have hj : q % 32 < 32 := by omega
    have hlen : (nums .u8 xs[q / 32]).length = 32 := by rw [nums_length, (show K32 _ from hok _ (List.getElem_mem hi)).1]
    have h1 := hat _ hi (q % 32) _ (List.getElem?_eq_getElem (by rw [hlen]; exact hj))
    have h2 := flat_key xs hok _ hi (q % 32) hj
    rw [show q / 32 * 32 + q % 32 = q by omega] at h1 h2
    rw [h1, h2, List.getElem?_eq_getElem (by rw [hlen]; exact hj)]
  · rw [List.getElem?_eq_none (by simp; omega), List.getElem?_eq_none (by rw [hfl]; show xs.length * 32 ≤ q; omega)]
theorem at_of_ownK {w : World} {t base : Nat} {v : Value} {xs : List (List Int)} (h : Own tKey t w base v xs) (h0 : 0 < xs.length) :
    ∃ g cap cur, v = .slice (some ⟨g, 0, none⟩) xs.length cap ∧ base ≤ g ∧ g < w.heap.size ∧ Blk w g t cur ∧ cur.size = cap * 32 ∧ xs.length ≤ cap ∧ cap ≤ maxLen ∧ ∀ i (hi : i < xs.length), AtK cur i xs[i] := by
  have hbl := h.base_le
  obtain ⟨⟨hl, hx⟩, h2, h3⟩ := h
  rcases hx with ⟨rfl, hz⟩ | ⟨g, cap, cur, rfl, hb, hg, hc, hm, hs, ht⟩
  · omega
  · refine ⟨g, cap, cur, rfl, hb, (hbl g rfl).2, hg, hs, hc, hm, fun i hi j u hu => ?_⟩
    have hj : j < 32 := by
      have := (List.getElem?_eq_some_iff.1 hu).1
      rw [nums_length, (show K32 _ from h3 _ (List.getElem_mem hi)).1] at this
      exact this
    have h2 := flat_key xs h3 i hi j hj
    rw [← ht] at h2
    have hz : i * 32 + j < xs.length * tKey.sz := by show i * 32 + j < xs.length * 32; omega
    rw [List.getElem?_take_of_lt hz, Array.getElem?_toList] at h2
    rw [h2, hu]
theorem at_putK (cur : Array Value) (i : Nat) (x : List Int) (hx : x.length = 32) (h : i * 32 + 32 ≤ cur.size) : AtK (splice cur (i * 32) (nums .u8 x)) i x := fun j u hu => by
  have hj := (List.getElem?_eq_some_iff.1 hu).1
  rw [splice_in cur (i * 32) (nums .u8 x) (by rw [nums_length, hx]; exact h) j hj]
  exact hu
theorem at_farK {cur : Array Value} {i p : Nat} {x f : List Int} (hx : x.length = 32) (hf : f.length = 32) (h : i * 32 + 32 ≤ cur.size) (hp : p ≠ i) (ha : AtK cur p f) : AtK (splice cur (i * 32) (nums .u8 x)) p f := fun j u hu => by
  have hj := (List.getElem?_eq_some_iff.1 hu).1
  rw [nums_length, hf] at hj
  rw [splice_out _ _ _ (by rw [nums_length, hx]; exact h) _ (by rw [nums_length, hx]; omega)]
  exact ha j u hu
/-- keys of one's own are made empty -/
theorem run_clearK {w : World} {g off n : Nat} {cur : Array Value} {t : TypeId} (hn : 0 < n) (hb : Blk w g t cur) (h : off + n * 32 ≤ cur.size) :
    ∃ cs, cs.size = cur.size ∧ (∀ q, q < off → cs[q]? = cur[q]?) ∧ ∀ ty c, (Builtin.clear_ #[47] ty #[.slice (some ⟨g, off, none⟩) n c]).run Try.prog w = .ok (.tuple #[]) (w.setRow g cs) := by
  have hz : ∀ W : World, (zeroValue 28).run Try.prog W = .ok (.agg (numsA .u8 (List.replicate 32 0))) W := by
    intro W
    have hi : (Try.prog.info? 28).map (·.zero) = some (some (.agg (numsA .u8 (List.replicate 32 0)))) := by kernel_rfl
    cases hq : Try.prog.info? 28 with
    | none => simp [hq] at hi
    | some i =>
      have hz : i.zero = some (.agg (numsA .u8 (List.replicate 32 0))) := by simpa [hq] using hi
      simp [zeroValue, typeInfo, hq, hz]
  obtain ⟨Z, hZ⟩ : ∃ Z, numsA .u8 (List.replicate 32 0) = Z := ⟨_, rfl⟩
  have hZs : Z.size = 32 := by rw [← hZ]; simp [numsA, nums]
  have hZ1 : ∀ u ∈ Z.toList, u.oneCell' = true := by rw [← hZ]; intro u hu; exact one_nums _ _ u (by simpa [numsA] using hu)
  rw [hZ] at hz
  clear hZ
  obtain ⟨m, rfl⟩ : ∃ m, n = m + 1 := ⟨n - 1, by omega⟩
  have hl : (Builtin.zeroCells Z (m + 1)).toList.length = (m + 1) * 32 := by simp [size_zeroCells, hZs]
  have h1 : ∀ u ∈ (Builtin.zeroCells Z (m + 1)).toList, u.oneCell' = true := by
    intro u hu
    simp only [Builtin.zeroCells, Array.toList_map, List.mem_map] at hu
    obtain ⟨i, _, rfl⟩ := hu
    have hlt : i % Z.size < Z.size := Nat.mod_lt _ (by omega)
    rw [getElem!_pos Z (i % Z.size) hlt]
    exact hZ1 _ (Array.getElem_mem_toList hlt)
  have hst := run_storeCells_at Try.prog g off t (Builtin.zeroCells Z (m + 1)).toList 0 cur w hb (by rw [hl]; omega) h1
  simp only [Nat.add_zero] at hst
  refine ⟨splice cur off (Builtin.zeroCells Z (m + 1)).toList, splice_size _ _ _ (by rw [hl]; omega), fun q hq => splice_out _ _ _ (by rw [hl]; omega) _ (.inl hq), fun ty c => ?_⟩
  simp [Builtin.clear_, run_underlying Try.underlying47, hz, Value.cells, hst, splice]
theorem compactL_sub : ∀ (L : List (List Int)) (x : List Int), x ∈ compactL L → x ∈ L
  | [], x, h => by simp [compactL] at h
  | [y], x, h => by simpa [compactL] using h
  | y :: z :: r, x, h => by
    have ih := compactL_sub (z :: r) x
    rw [compactL] at h
    split at h
    · exact List.mem_cons_of_mem _ (ih h)
    · rcases List.mem_cons.1 h with rfl | h
      · exact List.mem_cons_self
      · exact List.mem_cons_of_mem _ (ih h)
/-- one more key behind the others -/
theorem compactL_snoc (z : List Int) : ∀ (l : List (List Int)) (h : l ≠ []), compactL (l ++ [z]) = compactL l ++ (if z = l.getLast h then [] else [z])
  | [], h => absurd rfl h
  | [x], _ => by
    show compactL [x, z] = [x] ++ _
    rw [compactL, List.getLast_singleton]
    by_cases e : x = z
    · subst e; simp [compactL]
    · rw [if_neg e, if_neg (fun q => e q.symm)]; rfl
  | x :: y :: r, _ => by
    have ih := compactL_snoc z (y :: r) (by simp)
    have hg : (x :: y :: r).getLast (by simp) = (y :: r).getLast (by simp) := List.getLast_cons (by simp)
    rw [hg]
    show compactL (x :: y :: (r ++ [z])) = compactL (x :: y :: r) ++ _
    rw [compactL, compactL]
    rw [List.cons_append] at ih
    by_cases e : x = y
    · rw [if_pos e, if_pos e, ih]
    · rw [if_neg e, if_neg e, ih]; rfl
theorem compactL_step (L : List (List Int)) (j : Nat) (h0 : 0 < j) (h : j < L.length) : compactL (L.take (j + 1)) = compactL (L.take j) ++ (if L[j] = L[j - 1] then [] else [L[j]]) := by
  have hne : L.take j ≠ [] := by
    intro e
    have := congrArg List.length e
    rw [List.length_take, List.length_nil] at this
    omega
  have hg : (L.take j).getLast hne = L[j - 1] := by
    rw [List.getLast_eq_getElem, List.getElem_take]
    congr 1
    rw [List.length_take]
    omega
  rw [List.take_succ_eq_append_getElem h, compactL_snoc _ _ hne, hg]
/-- nothing is struck of what holds no equal neighbours -/
theorem compactL_same {L : List (List Int)} : ∀ (j : Nat), j ≤ L.length → (∀ k (h : k + 1 < L.length), k + 1 < j → L[k + 1] ≠ L[k]) → compactL (L.take j) = L.take j
  | 0, _, _ => by simp [compactL]
  | 1, h, _ => by
    cases L with
    | nil => simp at h
    | cons x r => simp [compactL]
  | j + 2, h, k => by
    rw [compactL_step L (j + 1) (by omega) (by omega), compactL_same (j + 1) (by omega) (fun q hq hlt => k q hq (by omega)), if_neg (by have := k j (by omega) (by omega); simpa using this)]
    exact (List.take_succ_eq_append_getElem (by omega)).symm
end Go.Proofs.Ytdjclllnmclocaa
/- A copy of a list of keys: the program. No condition. -/
namespace Go.Proofs.Ytdjclllnmclocaa
open Go.RowKit
set_option linter.unusedVariables false
set_option linter.unusedSimpArgs false

theorem rowKey7 : Row Try.prog tKey 47 28 32 := Row.mk' Try.underlying47 (.agg (numsA .u8 (List.replicate 32 0))) (by kernel_rfl) rfl (by decide) (by decide)
set_option maxHeartbeats 400000 in
theorem cloneK_any (v : Value) (xs : List (List Int)) (w : World) (S : Nat → Prop) (h : RdL tKey w S v xs) (hl : xs.length * 32 ≤ 140737488351232) :
    Calls Try.prog 79 #[v] w fun e w' => ∃ v', e = .returned v' ∧ Own tKey 28 w' w.heap.size v' xs ∧ Ext w w' := by
  obtain ⟨A, cap, rfl, hcap, hlen, hrd, hok⟩ := h
  have Hrd := Lib.hid hrd
  have Hok := Lib.hid hok
  clear hrd hok
  rcases A with _ | ad
  · have h0 : xs.length = 0 := by
      rcases Nat.eq_zero_or_pos xs.length with h0 | h0
      · exact h0
      · obtain ⟨g, o, h, _⟩ := Hrd.out.2 h0
        cases h
    obtain rfl : xs = [] := List.eq_nil_of_length_eq_zero h0
    have he : ∀ W : World, (binOp .eql 47 (.slice none 0 cap) (.slice none 0 0)).run Try.prog W = .ok (.bool true) W := fun W => Lib.run_eql_slice_nil W 47 _ none 0 cap 0 0 Try.underlying47
    go_enter Try.func79, Try.ntmps79
    go_wp2_with fail
    go_ret
    exact ⟨_, rfl, Own.nil _ _ _ _, Ext.refl _⟩
  · have he : ∀ W : World, (binOp .eql 47 (.slice (some ad) xs.length cap) (.slice none 0 0)).run Try.prog W = .ok (.bool false) W := fun W => Lib.run_eql_slice_nil W 47 _ (some ad) xs.length cap 0 0 Try.underlying47
    go_enter Try.func79, Try.ntmps79
    go_wp2_with (at_builtin; refine wpl_append rowKey7 rfl _ _ rfl rfl (Own.empty tKey _ 28 w.heap.size (Nat.le_refl _)) _ _ rfl rfl (Hrd.out.ext (by decide) (ext_alloc _ _)) Hok.out (by simp; omega) (by simp) ?_; intro v1 w1 ho1 hg1 hat1; obtain ⟨A1, c1, rfl⟩ := ho1.shape; have HO := Lib.hid ho1; have HG := Lib.hid hg1; clear ho1 hg1 hat1)
    go_ret
    exact ⟨_, rfl, HO.out, (ext_alloc _ _).grown HG.out (fun k hk => Nat.le_of_eq (Option.some.inj hk))⟩

end Go.Proofs.Ytdjclllnmclocaa
/- The peaks of a list: the program. No condition. -/
namespace Go.Proofs.Ytdjclllnmclocaa
open Go.RowKit
set_option linter.unusedVariables false
set_option linter.unusedSimpArgs false

theorem yields_loadSP {P : Program} {ops : Array Oper} {op : Oper} {a : Act} {S : World → Prop} {t : Nat} (g o : Nat) (cs : List Value) (ht : Agg P t cs.length) (hc : ∀ W, S W → ∀ j u, cs[j]? = some u → W.cell? ⟨g, o + j, none⟩ = some u) (hw : Region.wanted op (yielded ops a.tmps) = true) (x : Operand) (ho : op.op = .load t x) (hx : a.eval x = .pointer (some ⟨g, o, none⟩)) :
    YieldsIf P ops S op (.agg cs.toArray) a := Or.inl ⟨hw, fun W hW => by
  have hl := run_loadVar_at (P := P) (w := W) (t := t) ⟨g, o, none⟩ cs ht (fun j u hu => by rw [Addr.add_lit]; exact hc W hW j u hu)
  unfold execOp
  simp only [ho, hx, Instr.loadAt, Instr.sureAddr, Sem.run_bind, Sem.run_pure, Result.andThen_ok, hl]⟩
theorem yields_loadBSP {P : Program} {ops : Array Oper} {o : Oper} {a : Act} {S : World → Prop} {t g e n : Nat} {cs : Array Value} (hb : ∀ W, S W → Blk W g e cs) (ht : Agg P t n) (hn : cs.size = n) (hw : Region.wanted o (yielded ops a.tmps) = true) (x : Operand) (ho : o.op = .load t x) (hx : a.eval x = .pointer (some ⟨g, 0, none⟩)) :
    YieldsIf P ops S o (.agg cs) a := Or.inl ⟨hw, fun W hW => by
  unfold execOp
  simp only [ho, hx, Instr.loadAt, Instr.sureAddr, Sem.run_bind, Sem.run_pure, Result.andThen_ok, run_loadB (hb W hW) ht hn]⟩
/-- the first of a row of one's own -/
theorem Own.takeP {α : Type} {T : Ty α} {e : TypeId} {w : World} {base n cap k : Nat} {A : Option Addr} {xs : List α} (h : Own T e w base (.slice A n cap) xs) (hk : k ≤ xs.length) : Own T e w base (.slice A k cap) (xs.take k) := by
  obtain ⟨⟨hl, hx⟩, h2, h3⟩ := h
  have hkl : (xs.take k).length = k := by rw [List.length_take]; omega
  have h3' : ∀ x ∈ xs.take k, T.ok x := fun x hx => h3 x (List.mem_of_mem_take hx)
  have hsp : xs.flatMap T.enc = (xs.take k).flatMap T.enc ++ (xs.drop k).flatMap T.enc := by rw [← List.flatMap_append, List.take_append_drop]
  have hfl := flat_length T (xs.take k) h3'
  rw [hkl] at hfl
  refine ⟨⟨by rw [hkl]; exact hfl, ?_⟩, by omega, h3'⟩
  rcases hx with ⟨hv, h0⟩ | ⟨g, cp, cur, hv, h4, h5, h6, h7, h8, h9⟩
  · obtain ⟨rfl, rfl, rfl⟩ := Value.slice.inj hv
    exact .inl ⟨by rw [show k = 0 by omega], by rw [hkl]; omega⟩
  · obtain ⟨rfl, rfl, rfl⟩ := Value.slice.inj hv
    refine .inr ⟨g, cap, cur, by rw [hkl], h4, h5, by omega, h7, h8, ?_⟩
    rw [hkl]
    have e1 : (cur.toList.take (xs.length * T.sz)).take (k * T.sz) = cur.toList.take (k * T.sz) := by
      rw [List.take_take, Nat.min_eq_left (Nat.mul_le_mul_right _ hk)]
    rw [← e1, h9, hsp, List.take_left' hfl]
set_option maxHeartbeats 4000000 in
set_option maxRecDepth 100000 in
theorem peaks_any (v : Value) (xs : List (List Int)) (hl : xs.length ≤ 255) (w : World) (S : Nat → Prop) (h : RdL tKey w S v xs) :
    Calls Try.prog 75 #[v] w fun q w' => ∃ v', q = .returned v' ∧ Own tKey 28 w' w.heap.size v' (pk xs) ∧ Ext w w' := by
  obtain ⟨A, cap, rfl, hcap, hlen, hrd, hok⟩ := id h
  have HOK := Lib.hid (show ∀ x ∈ xs, K32 x from hok)
  have HR := Lib.hid h
  obtain ⟨R, hR⟩ : ∃ R, pk xs = R := ⟨_, rfl⟩
  have HRR := Lib.hid hR
  rw [hR]
  clear h hrd hok hR
  go_enter Try.func75, Try.ntmps75
  go_wp2
  go_loopw [0, 3, 4] (fun a o _ wr => ∃ (ys : List (List Int)) (done : List (List Int)) (A1 : Option Addr) (c1 : Nat), a = .slice A1 ys.length c1 ∧ ys.length ≤ 255 ∧ RdL tKey w S (.slice A1 ys.length c1) ys ∧ Own tKey 28 wr w.heap.size o done ∧ done ++ pk ys = R ∧ done.length + ys.length ≤ 255 ∧ Ext w wr) (fun a _ _ _ => lenV a)
  case atStart => exact ⟨xs, [], A, cap, rfl, hl, HR.out, Own.empty tKey _ _ _ (Nat.le_refl _), by rw [List.nil_append]; exact HRR.out, by simpa using hl, ext_alloc _ _⟩
  case round =>
    obtain ⟨ys, done, A1, c1, rfl, hyl, hry, ho, hd, hdl, hx⟩ := hrel
    obtain ⟨C, cn, cc, rfl⟩ := ho.shape3
    have HX := Lib.hid hx
    have HO := Lib.hid ho
    have HD := Lib.hid hd
    have HRY := Lib.hid hry
    have HDL := Lib.hid hdl
    clear hx ho hd hry hdl
    by_cases h0 : 0 < ys.length
    · have ht := top_le (n := ys.length) (by omega)
      have hpk := pk_step (xs := ys) (by omega)
      have hln := fun W => len_any ys.length (by omega) W
      have hlt : lenT ys.length = Nat.log2 ys.length + 1 := by rw [lenT, if_neg (by omega)]
      rw [hlt] at hln
      have hlog : Nat.log2 ys.length < 8 := (Nat.log2_lt (by omega)).2 (by omega)
      obtain ⟨p, hp⟩ : ∃ p, Nat.log2 ys.length = p := ⟨_, rfl⟩
      rw [hp] at ht hpk hln hlog
      obtain ⟨A', cap', e', hcy, hlny, hrd, hok⟩ := HRY.out
      obtain ⟨rfl, _, rfl⟩ := Value.slice.inj e'
      obtain ⟨g, o, rfl, _, _⟩ := hrd.2 h0
      have HOY := Lib.hid (show ∀ x ∈ ys, K32 x from hok)
      obtain ⟨n, hn⟩ : ∃ n, ys.length = n := ⟨_, rfl⟩
      have HN := Lib.hid hn
      rw [hn] at HRY HDL h0 ht hyl hcy ⊢
      simp only [hn] at hln
      have HPK := Lib.hid hpk
      clear hlt hp e' hrd hok hlny hn hpk
      obtain ⟨m, hm⟩ : ∃ m, 2 ^ p = m := ⟨_, rfl⟩
      rw [hm] at HPK ht
      have HT := Lib.hid (fun W (hW : Ext w W) => listKey_any m (by omega) _ _ W S (by rw [List.length_take, HN.out]; omega) (rdlK_take (k := m) (HRY.out.ext (by decide) hW) HN.out.symm (by omega)))
      have HCUT := Lib.hid (fun (h : m < n) => rdlK_drop (k := m) HRY.out HN.out.symm h)
      have HKO := Lib.hid (lk_ok (xs := ys.take m) (fun x hx => HOY.out x (List.mem_of_mem_take hx)))
      have HDN := Lib.hid (show (ys.drop m).length = n - m by rw [List.length_drop, HN.out])
      generalize lk (ys.take m) = q7 at HT HPK HKO
      have hnI : (0 : Int) < (n : Int) := by omega
      have hwu : IntKind.u64.wrap (n : Int) = (n : Int) := by rw [IntKind.wrap_u64]; omega
      have q0 : (0 : Int) ≤ (m : Int) := by omega
      have q1 : (m : Int) ≤ (n : Int) := by omega
      have q2 : (m : Int) ≤ (c1 : Int) := by omega
      have q3 : (n : Int) ≤ (c1 : Int) := by omega
      have q4 : m ≤ c1 := by omega
      have q5 : m ≤ n := by omega
      obtain ⟨hm0, hmn, hm2⟩ := ht
      have HM0 := Lib.hid hm0
      clear hmn hm2 hm0
      have hwm : wrap64 ((2 : Int) ^ p) = (m : Int) := by
        rw [show (2 : Int) ^ p = (m : Int) by rw [← hm]; simp, wrap64]
        omega
      have hpp : (p : Int) < 64 := by omega
      have hp0 : (0 : Int) ≤ (p : Int) := by omega
      have hp1 : (p : Int) + 1 - 1 = p := by omega
      have hp2 : IntKind.i64.wrap (p : Int) = (p : Int) := IntWalk.i64_in _ (by omega)
      clear hlog hm
      go_wp2_with fail
      refine (hln _).mono ?_
      rintro e w' ⟨rfl, rfl⟩
      clear hln
      go_wp2_with fail
      refine (HT.out _ HX.out).mono ?_
      rintro e w2 ⟨rfl, hx⟩
      have HX2 := Lib.hid (HX.out.trans hx)
      have HO2 := Lib.hid (HO.out.ext hx)
      clear hx HT HX HO
      have arm : True := trivial
      by_cases hcm : c1 = m
      · have hnm : n = m := by omega
        have HNM := Lib.hid (show ys.drop m = [] from List.drop_eq_nil_of_le (by rw [HN.out]; omega))
        subst hcm
        subst hnm
        go_wp2_with (first
            | (refine wpl_one rowKeyA (by decide) q7 HKO.out rfl _ rfl rfl ?_)
            | (at_builtin; refine wpl_append rowKeyA rfl _ _ rfl (v := .slice C cn cc) rfl (HO2.out.alloc (.cells (tKey.enc q7).toArray 28)) _ _ rfl (A := some ⟨w2.heap.size, 0, none⟩) (ys := [q7]) rfl (rd_one (T := tKey) w2 q7 HKO.out _) (by intro y hy; obtain rfl := List.mem_singleton.1 hy; exact HKO.out) (by have := HDL.out; simp; omega) (by have := HX2.out.size; simp; omega) ?_; intro v5 w5 ho5 hg5 hat5; have HX5 := Lib.hid ((HO2.out.alloc (.cells (tKey.enc q7).toArray 28)).ext_app (HX2.out.alloc _) hg5); have HO5 := Lib.hid ho5; obtain ⟨C5, n5, c5, rfl⟩ := ho5.shape3; clear ho5 hg5 hat5))
        go_roundw
        case rel => exact ⟨[], done ++ [q7], _, _, rfl, by simp, ⟨_, _, rfl, by simp, by simp, Rd.nil _ _ _ _, by simp⟩, HO5.out, by rw [← HD.out, HPK.out, HNM.out, List.append_assoc]; rfl, by have := HDL.out; have := HM0.out; simp; omega, HX5.out⟩
        case measure => simp [lenV]; exact HM0.out
      · by_cases hlt : m < n
        · have HC := Lib.hid (HCUT.out hlt)
          go_wp2_with (first
            | (refine wpl_one rowKeyA (by decide) q7 HKO.out rfl _ rfl rfl ?_)
            | (at_builtin; refine wpl_append rowKeyA rfl _ _ rfl (v := .slice C cn cc) rfl (HO2.out.alloc (.cells (tKey.enc q7).toArray 28)) _ _ rfl (A := some ⟨w2.heap.size, 0, none⟩) (ys := [q7]) rfl (rd_one (T := tKey) w2 q7 HKO.out _) (by intro y hy; obtain rfl := List.mem_singleton.1 hy; exact HKO.out) (by have := HDL.out; simp; omega) (by have := HX2.out.size; simp; omega) ?_; intro v5 w5 ho5 hg5 hat5; have HX5 := Lib.hid ((HO2.out.alloc (.cells (tKey.enc q7).toArray 28)).ext_app (HX2.out.alloc _) hg5); have HO5 := Lib.hid ho5; obtain ⟨C5, n5, c5, rfl⟩ := ho5.shape3; clear ho5 hg5 hat5))
          go_roundw
          case rel => exact ⟨ys.drop m, done ++ [q7], _, _, by rw [HDN.out], by rw [HDN.out]; omega, by rw [HDN.out]; exact HC.out, HO5.out, by rw [← HD.out, HPK.out, List.append_assoc]; rfl, by rw [HDN.out]; have := HDL.out; have := HM0.out; simp; omega, HX5.out⟩
          case measure => simp [lenV]; have := HM0.out; omega
        · have hnm : n = m := by omega
          have HNM := Lib.hid (show ys.drop m = [] from List.drop_eq_nil_of_le (by rw [HN.out]; omega))
          subst hnm
          go_wp2_with (first
            | (refine wpl_one rowKeyA (by decide) q7 HKO.out rfl _ rfl rfl ?_)
            | (at_builtin; refine wpl_append rowKeyA rfl _ _ rfl (v := .slice C cn cc) rfl (HO2.out.alloc (.cells (tKey.enc q7).toArray 28)) _ _ rfl (A := some ⟨w2.heap.size, 0, none⟩) (ys := [q7]) rfl (rd_one (T := tKey) w2 q7 HKO.out _) (by intro y hy; obtain rfl := List.mem_singleton.1 hy; exact HKO.out) (by have := HDL.out; simp; omega) (by have := HX2.out.size; simp; omega) ?_; intro v5 w5 ho5 hg5 hat5; have HX5 := Lib.hid ((HO2.out.alloc (.cells (tKey.enc q7).toArray 28)).ext_app (HX2.out.alloc _) hg5); have HO5 := Lib.hid ho5; obtain ⟨C5, n5, c5, rfl⟩ := ho5.shape3; clear ho5 hg5 hat5))
          go_roundw
          case rel => exact ⟨[], done ++ [q7], _, _, rfl, by simp, ⟨_, _, rfl, by simp, by simp, Rd.nil _ _ _ _, by simp⟩, HO5.out, by rw [← HD.out, HPK.out, HNM.out, List.append_assoc]; rfl, by have := HDL.out; have := HM0.out; simp; omega, HX5.out⟩
          case measure => simp [lenV]; exact HM0.out
    · obtain rfl : ys = [] := List.eq_nil_of_length_eq_zero (by omega)
      have HE := Lib.hid (show done = R by have := HD.out; rwa [pk_nil rfl, List.append_nil] at this)
      go_wp2
      go_ret
      exact ⟨_, rfl, by rw [← HE.out]; exact HO.out, HX.out⟩
end Go.Proofs.Ytdjclllnmclocaa
/- Peaks and keys with codes; a further leaf: the program. No condition. -/
namespace Go.Proofs.Ytdjclllnmclocaa
open Go.RowKit
set_option linter.unusedVariables false
set_option linter.unusedSimpArgs false

set_option maxHeartbeats 1000000 in
set_option maxRecDepth 100000 in
theorem peaksOf_any (v : Value) (xs : List (List Int)) (hl : xs.length ≤ 255) (w : World) (S : Nat → Prop) (h : RdL tKey w S v xs) :
    Calls Try.prog 35 #[v] w fun q w' => ∃ v', q = .returned (.tuple #[v', .int .i64 0]) ∧ Own tKey 28 w' w.heap.size v' (pk xs) ∧ Ext w w' := by
  have hp := peaks_any v xs hl w S h
  obtain ⟨A, cap, rfl, _⟩ := id h
  have hd : decide ((256 : Int) < (xs.length : Int)) = false := decide_eq_false (by omega)
  clear h
  go_enter Try.func35, Try.ntmps35
  go_wp2_with fail
  refine hp.mono ?_
  rintro e w1 ⟨v1, rfl, ho, hx⟩
  have HO := Lib.hid ho
  have HX := Lib.hid hx
  obtain ⟨A1, c1, rfl⟩ := ho.shape
  clear ho hx hp
  go_wp2
  go_ret2
  exact ⟨_, rfl, HO.out, HX.out⟩
theorem results_kc {P : Program} {w : World} {fn : Func} {c d : Tmp} {t g e n : Nat} {cs : Array Value} (hr : fn.results = #[.cell c t, .tmp d]) (tmps : Array Value) (hp : tmps.getD c undef = .pointer (some ⟨g, 0, none⟩)) (ht : Agg P t n) (hn : cs.size = n) (hb : Blk w g e cs) {v : Value} (hv : tmps.getD d undef = v) :
    (results fn tmps).run P w = .ok (.tuple #[.agg cs, v]) w := results_blkB2 hr tmps hp ht hn hb hv
set_option maxHeartbeats 1000000 in
set_option maxRecDepth 100000 in
theorem implListKey_any (v : Value) (xs : List (List Int)) (hl : xs.length ≤ 256) (w : World) (S : Nat → Prop) (h : RdL tKey w S v xs) :
    Calls Try.prog 28 #[v] w fun q w' => q = .returned (.tuple #[.agg (numsA .u8 (lk xs)), .int .i64 0]) ∧ Ext w w' := by
  have hp := fun W hW => listKey_any xs.length hl v xs W S rfl (h.ext (by decide) hW)
  obtain ⟨A, cap, rfl, _, _, _, hok⟩ := id h
  have HKS := Lib.hid (lk_ok (xs := xs) hok).1
  have hd : decide ((256 : Int) < (xs.length : Int)) = false := decide_eq_false (by omega)
  have hzA : (Try.prog.info? 28).map (·.zero) = some (some (.agg (numsA .u8 (List.replicate 32 0)))) := by kernel_rfl
  have hzs : (numsA .u8 (List.replicate 32 0)).size = 32 := by simp [numsA, nums]
  generalize numsA .u8 (List.replicate 32 0) = Z at hzA hzs
  have HZS := Lib.hid hzs
  generalize lk xs = k at hp HKS ⊢
  have HP := Lib.hid hp
  clear h hok hp hzs
  go_enter Try.func28, Try.ntmps28
  go_wp2_with (refine wpl_alloc Z hzA rfl rfl ?_)
  refine (HP.out _ (ext_alloc _ _)).mono ?_
  rintro e w1 ⟨rfl, hx⟩
  have BR := Lib.hid ((Blk.new w 28 Z).ext hx)
  have HX := Lib.hid ((ext_alloc w (.cells Z 28)).trans hx)
  clear hx
  go_wp2_with (refine wpl_storeN BR.out aggKey HKS.out HZS.out rfl _ _ rfl rfl rfl rfl ?_)
  refine bodyPost_ret (results_kc rfl _ rfl aggKey (sizeN HKS.out) (BR.out.setRow _) rfl) rfl ?_
  exact ⟨rfl, HX.out.setRow (Nat.le_refl _) _⟩
set_option maxHeartbeats 1000000 in
set_option maxRecDepth 100000 in
theorem peaksCode_any (A : Option Addr) (n c k : Nat) (most : Int) (hn : n ≤ 256) (hk : (k : Int) ≤ most) (hk2 : k ≤ 255) (w : World) :
    Calls Try.prog 76 #[.slice A n c, .int .i64 k, .int .i64 most] w fun q w' => q = .returned (.int .i64 (if n = pc k then 0 else 4)) ∧ w = w' := by
  have hd : decide ((256 : Int) < (n : Int)) = false := decide_eq_false (by omega)
  have hw := fun W => within_any (k : Int) 0 most W
  rw [decide_eq_true (by omega : (0 : Int) ≤ (k : Int)), decide_eq_true hk] at hw
  simp only [Bool.and_self] at hw
  have hwu : IntKind.u64.wrap (k : Int) = (k : Int) := by rw [IntKind.wrap_u64]; omega
  have ho := fun W => ones_any k hk2 W
  obtain ⟨p, hp⟩ : ∃ p, pc k = p := ⟨_, rfl⟩
  rw [hp] at ho ⊢
  clear hp hk
  by_cases he : n = p
  · rw [if_pos he]
    have hq : ((n : Int) != (p : Int)) = false := by rw [he]; simp
    clear he
    go_enter Try.func76, Try.ntmps76
    go_wp2_with fail
    refine (hw _).mono ?_
    rintro e w' ⟨rfl, rfl⟩
    go_wp2_with fail
    refine (ho _).mono ?_
    rintro e w' ⟨rfl, rfl⟩
    clear hw ho
    go_wp2
    go_ret
    exact ⟨rfl, rfl⟩
  · rw [if_neg he]
    have hq : ((n : Int) != (p : Int)) = true := by rw [bne_iff_ne]; omega
    clear he
    go_enter Try.func76, Try.ntmps76
    go_wp2_with fail
    refine (hw _).mono ?_
    rintro e w' ⟨rfl, rfl⟩
    go_wp2_with fail
    refine (ho _).mono ?_
    rintro e w' ⟨rfl, rfl⟩
    clear hw ho
    go_wp2
    go_ret
    exact ⟨rfl, rfl⟩
theorem kp_ok : ∀ {ps : List (List Int)}, (∀ x ∈ ps, K32 x) → K32 (kp ps)
  | [], _ => lk_ok (by simp)
  | [a], h => h a (by simp)
  | a :: b :: r, _ => ndK_ok _ _
theorem kp_drop {ps : List (List Int)} {i : Nat} (h : i + 1 < ps.length) : kp (ps.drop i) = ndK ps[i] (kp (ps.drop (i + 1))) := by
  have h1 : ps.drop i = ps[i] :: ps.drop (i + 1) := List.drop_eq_getElem_cons (by omega)
  have h2 : ps.drop (i + 1) = ps[i + 1] :: ps.drop (i + 2) := List.drop_eq_getElem_cons h
  rw [h1, h2]
  rfl
theorem kp_last {ps : List (List Int)} {i : Nat} (h : i + 1 = ps.length) : kp (ps.drop i) = ps[i]'(by omega) := by
  have h1 : ps.drop i = ps[i]'(by omega) :: ps.drop (i + 1) := List.drop_eq_getElem_cons (by omega)
  rw [h1, List.drop_eq_nil_of_le (by omega)]
  rfl
/-- a load: one step of a region -/
theorem stp_loadB {P : Program} {ops : Array Oper} {o : Oper} {a : Act} {w : World} {K : Act → World → Prop} {Q : Exit → Act → World → Prop} {E : Prop} {t g e n : Nat} {cs : Array Value} (hb : Blk w g e cs) (ht : Agg P t n) (hn : cs.size = n) (hgd : o.guard = none) (x : Operand) (ho : o.op = .load t x) (hx : a.eval x = .pointer (some ⟨g, 0, none⟩))
    (h : K (a.put o.dst (.agg cs)) w) : if Region.wanted o (yielded ops a.tmps) = true then Oper.wp P o a w K Q else E := by
  have hw : Region.wanted o (yielded ops a.tmps) = true := by simp [Region.wanted, hgd]
  rw [if_pos hw]
  unfold Oper.wp execOp
  simp only [ho, hx, Instr.loadAt, Instr.sureAddr, Sem.run_bind, Sem.run_pure, Result.andThen_ok, run_loadB hb ht hn]
  exact h
set_option maxHeartbeats 4000000 in
set_option maxRecDepth 100000 in
theorem keyOfPeaks_any (v : Value) (ps : List (List Int)) (hl : ps.length ≤ 256) (w : World) (S : Nat → Prop) (h : RdL tKey w S v ps) :
    Calls Try.prog 77 #[v] w fun q w' => q = .returned (.agg (numsA .u8 (kp ps))) ∧ Ext w w' := by
  obtain ⟨A, cap, rfl, hcap, hlen, hrd, hok⟩ := id h
  have HOK := Lib.hid (show ∀ x ∈ ps, K32 x from hok)
  have HKS := Lib.hid (kp_ok HOK.out).1
  have hzA : (Try.prog.info? 28).map (·.zero) = some (some (.agg (numsA .u8 (List.replicate 32 0)))) := by kernel_rfl
  have hzs : (numsA .u8 (List.replicate 32 0)).size = 32 := by simp [numsA, nums]
  generalize numsA .u8 (List.replicate 32 0) = Z at hzA hzs
  have HZS := Lib.hid hzs
  have BR0 := Lib.hid (Blk.new w 28 Z)
  have hX := ext_alloc w (.cells Z 28)
  clear hzs
  by_cases h0 : ps.length = 0
  · obtain rfl : ps = [] := List.eq_nil_of_length_eq_zero h0
    have hn : RdL tKey (w.alloc (.cells Z 28)) (fun _ => True) (.slice none 0 0) [] := ⟨none, 0, rfl, Nat.le_refl _, by simp, Rd.nil _ _ _ _, by simp⟩
    have hlk := listKey_any 0 (by omega) (.slice none 0 0) [] _ _ rfl hn
    have he : kp [] = lk [] := rfl
    rw [he] at HKS ⊢
    clear h hrd hok hn he
    go_enter Try.func77, Try.ntmps77
    go_wp2_with (refine wpl_alloc Z hzA rfl rfl ?_)
    refine hlk.mono ?_
    rintro e w2 ⟨rfl, hx⟩
    have BR2 := Lib.hid (BR0.out.ext hx)
    have HX2 := Lib.hid (hX.trans hx)
    clear hx hlk
    go_wp2_with (refine wpl_storeN BR2.out aggKey HKS.out HZS.out rfl _ _ rfl rfl rfl rfl ?_)
    refine bodyPost_ret (results_blk rfl _ rfl aggKey HKS.out (BR2.out.setRow _)) rfl ?_
    exact ⟨rfl, HX2.out.setRow (Nat.le_refl _) _⟩
  · obtain ⟨n, hn⟩ : ∃ n, ps.length = n + 1 := ⟨ps.length - 1, by omega⟩
    have HN := Lib.hid hn
    have HC := Lib.hid (fun i (hi : i < ps.length) => hrd.elem hok i hi)
    obtain ⟨g, o, rfl, _, _⟩ := hrd.2 (by omega)
    have HCC := Lib.hid (show ∀ i (hi : i < ps.length) W, Ext w W → ∀ j u, (tKey.enc ps[i])[j]? = some u → W.cell? ⟨g, o + i * 32 + j, none⟩ = some u from fun i hi W hW j u hu => by
      obtain ⟨g', o', e, _, hc⟩ := HC.out i hi
      injection e with e
      injection e with e1 e2
      subst e1 e2
      exact hW.cell (hc j u hu))
    have HLA := Lib.hid (kp_last (ps := ps) (i := n) (by omega))
    rw [hn] at hcap hlen ⊢
    have hk7 := HOK.out ps[n] (List.getElem_mem _)
    have HK7 := Lib.hid hk7.1
    have HC7 := Lib.hid (HCC.out n (by omega) (w.alloc (.cells Z 28)) hX)
    obtain ⟨q7, hq7⟩ : ∃ q7, ps[n] = q7 := ⟨_, rfl⟩
    rw [hq7] at HK7 HC7 HLA hk7
    have HK77 := Lib.hid hk7
    have hst7 := St.nums (k := .u8) HK7.out
    have hw1 : IntKind.i64.wrap ((n : Int) + 1 - 1) = (n : Int) := by rw [IntWalk.i64_in _ (by omega)]; omega
    have hw2 : IntKind.i64.wrap ((n : Int) + 1 - 2) = (n : Int) - 1 := by rw [IntWalk.i64_in _ (by omega)]; omega
    have hs1 : (n : Int) + 1 - 1 = (n : Int) := by omega
    have hs2 : (n : Int) + 1 - 2 = (n : Int) - 1 := by omega
    have hnz : ((n : Int) + 1 == 0) = false := by rw [beq_eq_false_iff_ne]; omega
    have q0 : (0 : Int) ≤ (n : Int) := by omega
    have q1 : (n : Int) < (n : Int) + 1 := by omega
    have V0 := Lib.hid (Blk.new' (g := w.heap.size + 1) (w := w.alloc (.cells Z 28)) (by simp) 28 (numsA .u8 q7))
    have BR := Lib.hid (BR0.out.alloc (.cells (numsA .u8 q7) 28))
    have HX0 := Lib.hid (hX.alloc (.cells (numsA .u8 q7) 28))
    have HK0 := Lib.hid (show kp (ps.drop n) = q7 from HLA.out)
    clear h hrd hok hq7 hn hk7 h0
    go_enter Try.func77, Try.ntmps77
    go_wp2_with (first
      | (refine wpl_alloc Z hzA rfl rfl ?_)
      | (refine wpl_load ⟨g, o + n * 32, none⟩ (tKey.enc q7) (by rw [show (tKey.enc q7).length = 32 by rw [show tKey.enc q7 = nums .u8 q7 from rfl, nums_length]; exact HK7.out]; exact aggKey) rfl _ rfl rfl (fun j u hu => by rw [Addr.add_lit]; exact HC7.out j u hu) ?_)
      | (refine wpl_storeNewB aggKey hst7 HZS.out rfl _ _ rfl rfl rfl rfl ?_))
    try simp only [size_alloc]
    go_loopw [5] (fun i wr => ∃ (j : Nat) (q : List Int), j ≤ n ∧ i = .int .i64 ((j : Int) - 1) ∧ kp (ps.drop j) = q ∧ K32 q ∧ Blk wr (w.heap.size + 1) 28 (numsA .u8 q) ∧ Blk wr w.heap.size 28 Z ∧ Ext w wr) (fun i _ => ((intOf i) + 1).toNat)
    case atStart => exact ⟨n, q7, Nat.le_refl _, by first | rfl | go_num, HK0.out, HK77.out, V0.out, BR.out, HX0.out⟩
    case round =>
      obtain ⟨j, q, hj, rfl, hkq, hqk, hv, hb, hx⟩ := hrel
      clear V0 BR HX0
      have V := Lib.hid hv
      have BR := Lib.hid hb
      have HX := Lib.hid hx
      have HKQ := Lib.hid hkq
      have HQ := Lib.hid hqk
      have hqs := sizeN (k := .u8) hqk.1
      clear hv hb hx hkq hqk
      by_cases hj0 : 0 < j
      · obtain ⟨m, rfl⟩ : ∃ m, j = m + 1 := ⟨j - 1, by omega⟩
        have hmn : m + 1 < ps.length := by rw [HN.out]; omega
        have HKD := Lib.hid (kp_drop (ps := ps) (i := m) hmn)
        have HKM := Lib.hid (HOK.out ps[m] (List.getElem_mem _))
        have HCM := Lib.hid (HCC.out m (by omega))
        obtain ⟨x, hx7⟩ : ∃ x, ps[m] = x := ⟨_, rfl⟩
        rw [hx7] at HKD HKM HCM
        rw [HKQ.out] at HKD
        have e : ((m + 1 : Nat) : Int) - 1 = (m : Int) := by omega
        rw [e]
        have m0 : (0 : Int) ≤ (m : Int) := by omega
        have m1 : (m : Int) < (n : Int) + 1 := by omega
        have HND := Lib.hid (ndK_ok x q)
        clear e hx7 hmn
        go_wp2_with fail
        have V1 := Lib.hid (V.out.ext ((Ext.refl wr).drew))
        have BR1 := Lib.hid (BR.out.ext ((Ext.refl wr).drew))
        refine wp_region_held_drew (S := fun W => Ext w W) (by kernel_rfl) HX.out.drew (fun hHeld => ?_)
        generalize wr.drew = wq at hHeld V1 BR1 ⊢
        refine wpAnyH_take (i := 0) (oi := ?oiz1) (v := ?vz1) ?hiz1 (by kernel_rfl) (by kernel_rfl) (by kernel_rfl) ?hQz1 ?hyz1 (by assumption) ?restz1
        case hiz1 => simp only [List.getElem?_toArray, List.getElem?_cons_zero, List.getElem?_cons_succ]; rfl
        case hQz1 => exact fun _ _ _ h => h
        case hyz1 => exact Or.inl ⟨by rfl, by intro w hSw; (try dsimp only at hSw); go_simp; with_reducible rfl⟩
        try simp only [Act.put, List.setIfInBounds_toArray, List.set_cons_zero, List.set_cons_succ]
        refine wpAnyH_take (i := 1) (oi := ?oiz2) (v := ?vz2) ?hiz2 (by kernel_rfl) (by kernel_rfl) (by kernel_rfl) ?hQz2 ?hyz2 (by assumption) ?restz2
        case hiz2 => simp only [List.getElem?_toArray, List.getElem?_cons_zero, List.getElem?_cons_succ]; rfl
        case hQz2 => exact fun _ _ _ h => h
        case hyz2 => exact Or.inl ⟨by rfl, by intro w hSw; (try dsimp only at hSw); go_simp; with_reducible rfl⟩
        try simp only [Act.put, List.setIfInBounds_toArray, List.set_cons_zero, List.set_cons_succ]
        refine wpAnyH_take (i := 2) (oi := ?oiz3) (v := ?vz3) ?hiz3 (by kernel_rfl) (by kernel_rfl) (by kernel_rfl) ?hQz3 ?hyz3 (by assumption) ?restz3
        case hiz3 => simp only [List.getElem?_toArray, List.getElem?_cons_zero, List.getElem?_cons_succ]; rfl
        case hQz3 => exact fun _ _ _ h => h
        case hyz3 => exact Or.inl ⟨by rfl, by intro w hSw; (try dsimp only at hSw); go_simp; with_reducible rfl⟩
        try simp only [Act.put, List.setIfInBounds_toArray, List.set_cons_zero, List.set_cons_succ]
        refine wpAnyH_take (i := 3) (oi := ?oiz4) (v := (.agg (tKey.enc x).toArray)) ?hiz4 (by kernel_rfl) (by kernel_rfl) (by kernel_rfl) ?hQz4 ?hyz4 (by assumption) ?restz4
        case hiz4 => simp only [List.getElem?_toArray, List.getElem?_cons_zero, List.getElem?_cons_succ]; rfl
        case hQz4 => exact fun _ _ _ h => h
        case hyz4 => refine yields_loadSP g (o + m * 32) (tKey.enc x) (by rw [tKey.len _ HKM.out]; exact aggKey) HCM.out ?_ _ rfl rfl; rfl
        try simp only [Act.put, List.setIfInBounds_toArray, List.set_cons_zero, List.set_cons_succ]
        refine wpAnyH_ready (rs := [4]) (by kernel_rfl) (by simp) (AllReadyH.cons (o := ?oy54) ?hy54 (fun K hK => ?sy54) AllReadyH.nil)
        case hy54 => simp only [List.getElem?_toArray, List.getElem?_cons_zero, List.getElem?_cons_succ]; rfl
        refine stp_loadB V1.out aggKey hqs rfl _ rfl rfl ?_
        refine hK.out _ _ hHeld (fun _ => ?_)
        clear hK K
        try simp only [Act.put, List.setIfInBounds_toArray, List.set_cons_zero, List.set_cons_succ]
        refine wpAnyH_ready (rs := [5]) (by kernel_rfl) (by simp) (AllReadyH.cons (o := ?oy65) ?hy65 (fun K hK => ?sy65) AllReadyH.nil)
        case hy65 => simp only [List.getElem?_toArray, List.getElem?_cons_zero, List.getElem?_cons_succ]; rfl
        go_simp
        refine (nodeKey_any x q HKM.out HQ.out _).mono ?_
        rintro e w5 ⟨rfl, hx⟩
        have V5 := Lib.hid (V1.out.ext hx)
        have BR5 := Lib.hid (BR1.out.ext hx)
        clear V1 BR1
        have hH2 := hHeld.trans hx
        refine hK.out _ _ hH2 (fun _ => ?_)
        clear hHeld hK K
        have hHeld := hH2
        clear hH2
        try simp only [Act.put, List.setIfInBounds_toArray, List.set_cons_zero, List.set_cons_succ]
        refine wpAnyH_ready (rs := [6]) (by kernel_rfl) (by simp) (AllReadyH.cons (o := ?oy76) ?hy76 (fun K hK => ?sy76) AllReadyH.nil)
        case hy76 => simp only [List.getElem?_toArray, List.getElem?_cons_zero, List.getElem?_cons_succ]; rfl
        refine stp_storeP (off := 0) V5.out aggKey (St.nums HND.out.1) (by omega) rfl _ _ rfl rfl rfl rfl ?_
        rw [splice_all _ _ (by rw [Array.length_toList, hqs, (St.nums (k := .u8) HND.out.1).size])]
        have e9 : (numsA .u8 (ndK x q)).toList.toArray = numsA .u8 (ndK x q) := by simp
        rw [e9]
        have HX8 := Lib.hid (hHeld.setRow (g := w.heap.size + 1) (by omega) (numsA .u8 (ndK x q)))
        have V8 := Lib.hid (V5.out.setRow (numsA .u8 (ndK x q)))
        have BR8 := Lib.hid (BR5.out.row_far (g' := w.heap.size + 1) (by omega) (numsA .u8 (ndK x q)))
        refine hK.out _ _ HX8.out (fun _ => ?_)
        clear hHeld hK K e9
        try simp only [Act.put, List.setIfInBounds_toArray, List.set_cons_zero, List.set_cons_succ]
        refine wpAnyH_done (by kernel_rfl) ?_ _
        go_wp2
        go_roundw
        case rel => exact ⟨m, ndK x q, by omega, by go_num, HKD.out, HND.out, V8.out, BR8.out, HX8.out⟩
        case measure => simp [intOf]
      · obtain rfl : j = 0 := by omega
        have HE := Lib.hid (show kp ps = q by have := HKQ.out; rwa [List.drop_zero] at this)
        go_wp2_with (first
          | (refine wpl_loadB V.out aggKey hqs rfl _ rfl rfl ?_)
          | (refine wpl_storeN BR.out aggKey HQ.out.1 HZS.out rfl _ _ rfl rfl rfl rfl ?_))
        refine bodyPost_ret (results_blk rfl _ rfl aggKey HQ.out.1 (BR.out.setRow _)) rfl ?_
        exact ⟨by rw [HE.out], HX.out.setRow (Nat.le_refl _) _⟩
set_option maxHeartbeats 1000000 in
set_option maxRecDepth 100000 in
theorem implKeyOfPeaks_any (v : Value) (ps : List (List Int)) (k : Nat) (hk : k ≤ 255) (hps : ps.length = pc k) (hl : ps.length ≤ 256) (w : World) (S : Nat → Prop) (h : RdL tKey w S v ps) :
    Calls Try.prog 36 #[v, .int .i64 k] w fun q w' => q = .returned (.tuple #[.agg (numsA .u8 (kp ps)), .int .i64 0]) ∧ Ext w w' := by
  have hp := fun W hW => keyOfPeaks_any v ps hl W S (h.ext (by decide) hW)
  obtain ⟨A, cap, rfl, _, _, _, hok⟩ := id h
  have hc := fun W => peaksCode_any A ps.length cap k 256 hl (by omega) hk W
  simp only [if_pos hps] at hc
  have HKS := Lib.hid (kp_ok (ps := ps) hok).1
  have hzA : (Try.prog.info? 28).map (·.zero) = some (some (.agg (numsA .u8 (List.replicate 32 0)))) := by kernel_rfl
  have hzs : (numsA .u8 (List.replicate 32 0)).size = 32 := by simp [numsA, nums]
  generalize numsA .u8 (List.replicate 32 0) = Z at hzA hzs
  have HZS := Lib.hid hzs
  generalize kp ps = q at hp HKS ⊢
  have HP := Lib.hid hp
  clear h hok hp hzs hps
  go_enter Try.func36, Try.ntmps36
  go_wp2_with (refine wpl_alloc Z hzA rfl rfl ?_)
  refine (hc _).mono ?_
  rintro e w' ⟨rfl, rfl⟩
  go_wp2_with fail
  refine (HP.out _ (ext_alloc _ _)).mono ?_
  rintro e w1 ⟨rfl, hx⟩
  have BR := Lib.hid ((Blk.new w 28 Z).ext hx)
  have HX := Lib.hid ((ext_alloc w (.cells Z 28)).trans hx)
  clear hx hc
  go_wp2_with (refine wpl_storeN BR.out aggKey HKS.out HZS.out rfl _ _ rfl rfl rfl rfl ?_)
  refine bodyPost_ret (results_kc rfl _ rfl aggKey (sizeN HKS.out) (BR.out.setRow _) rfl) rfl ?_
  exact ⟨rfl, HX.out.setRow (Nat.le_refl _) _⟩
end Go.Proofs.Ytdjclllnmclocaa
/- A further leaf: the program. No condition. -/
namespace Go.Proofs.Ytdjclllnmclocaa
open Go.RowKit
set_option linter.unusedVariables false
set_option linter.unusedSimpArgs false

theorem adR_ok : ∀ (n : Nat) (rs : List (List Int)) (leaf : List Int), rs.length = pc n → (∀ x ∈ rs, K32 x) → K32 leaf → (∀ x ∈ adR n rs leaf, K32 x) ∧ (adR n rs leaf).length ≤ rs.length + 1 := by
  intro n
  induction n using Nat.strongRecOn with
  | ind n ih =>
    intro rs leaf hl hr hk
    by_cases h : n % 2 = 1
    · rw [pc_step] at hl
      cases rs with
      | nil => simp at hl; omega
      | cons k rs =>
        rw [adR_odd h]
        have := ih (n / 2) (by omega) rs (ndK k leaf) (by simp at hl; omega) (fun x hx => hr x (by simp [hx])) (ndK_ok _ _)
        exact ⟨this.1, by have := this.2; simp; omega⟩
    · rw [adR_even h]
      refine ⟨fun x hx => ?_, by simp⟩
      rcases List.mem_cons.1 hx with rfl | hx
      · exact hk
      · exact hr x hx
theorem stRowK (w : World) (g : Nat) (cs : Array Value) : w.grownBy (w.setRow g cs) (some g) := ⟨rfl, rfl, rfl, by simp, fun k _ hk => setRow_other w g k cs (fun e => hk (by rw [e]))⟩
set_option maxHeartbeats 1000000 in
set_option maxRecDepth 100000 in
theorem addLeaf_bad (v : Value) (ps : List (List Int)) (k : Nat) (hk : k ≤ 255) (hps : ps.length ≠ pc k) (hl : ps.length ≤ 256) (leaf : List Int) (w : World) (S : Nat → Prop) (h : RdL tKey w S v ps) :
    Calls Try.prog 38 #[v, .int .i64 k, .agg (numsA .u8 leaf)] w fun q w' => q = .returned (.tuple #[.slice none 0 0, .int .i64 4]) ∧ Ext w w' := by
  obtain ⟨A, cap, rfl, _, _, _, hok⟩ := id h
  have hc := fun W => peaksCode_any A ps.length cap k 255 hl (by omega) hk W
  simp only [if_neg hps] at hc
  clear h hok hps
  go_enter Try.func38, Try.ntmps38
  go_wp2_with fail
  refine (hc _).mono ?_
  rintro e w' ⟨rfl, rfl⟩
  clear hc
  go_wp2
  go_ret2
  exact ⟨rfl, ext_alloc _ _⟩
set_option maxHeartbeats 4000000 in
set_option maxRecDepth 100000 in
theorem addLeaf_any (v : Value) (ps : List (List Int)) (n : Nat) (hn : n ≤ 255) (hps : ps.length = pc n) (hl : ps.length ≤ 256) (leaf : List Int) (hlf : K32 leaf) (w : World) (S : Nat → Prop) (h : RdL tKey w S v ps) :
    Calls Try.prog 38 #[v, .int .i64 n, .agg (numsA .u8 leaf)] w fun q w' => ∃ v', q = .returned (.tuple #[v', .int .i64 0]) ∧ Own tKey 28 w' w.heap.size v' (adR n ps.reverse leaf).reverse ∧ Ext w w' := by
  have hcl := fun W hW => cloneK_any v ps W S (h.ext (by decide) hW) (by omega)
  obtain ⟨A, cap, rfl, _, _, _, hok⟩ := id h
  have HOK := Lib.hid (show ∀ x ∈ ps, K32 x from hok)
  have hc := fun W => peaksCode_any A ps.length cap n 255 hl (by omega) hn W
  simp only [if_pos hps] at hc
  have HLF := Lib.hid hlf
  have HPS := Lib.hid hps
  obtain ⟨R, hR⟩ : ∃ R, adR n ps.reverse leaf = R := ⟨_, rfl⟩
  have HRR := Lib.hid hR
  rw [hR]
  have HCL := Lib.hid hcl
  have B0 := Lib.hid (Blk.new w 28 (numsA .u8 leaf))
  clear h hok hps hR hlf hcl
  go_enter Try.func38, Try.ntmps38
  go_wp2_with fail
  refine (hc _).mono ?_
  rintro e w' ⟨rfl, rfl⟩
  clear hc
  go_wp2_with fail
  refine (HCL.out _ (ext_alloc _ _)).mono ?_
  rintro e w1 ⟨v1, rfl, ho, hx⟩
  obtain ⟨A1, c1, rfl⟩ := ho.shape
  have HO := Lib.hid ho
  have HX := Lib.hid ((ext_alloc w (.cells (numsA .u8 leaf) 28)).trans hx)
  have B1 := Lib.hid (B0.out.ext hx)
  clear ho hx B0
  go_wp2
  go_loopw [1, 9, 10] (fun a o _ wr => ∃ (m k : Nat) (lf : List Int) (A2 : Option Addr) (c2 : Nat), m ≤ 255 ∧ a = .int .i64 m ∧ o = .slice A2 k c2 ∧ k ≤ ps.length ∧ k = pc m ∧ Own tKey 28 wr (w.heap.size + 1) (.slice A2 k c2) (ps.take k) ∧ adR m (ps.take k).reverse lf = R ∧ K32 lf ∧ Blk wr w.heap.size 28 (numsA .u8 lf) ∧ Ext w wr) (fun a _ _ _ => (intOf a).toNat)
  case atStart => exact ⟨n, ps.length, leaf, A1, c1, hn, rfl, rfl, Nat.le_refl _, HPS.out, by rw [List.take_of_length_le (Nat.le_refl _)]; have := HO.out; rwa [size_alloc] at this, by rw [List.take_of_length_le (Nat.le_refl _)]; exact HRR.out, HLF.out, B1.out, HX.out⟩
  case round =>
    obtain ⟨m, k, lf, A2, c2, hm, rfl, rfl, hk, hkm, ho, hR, hlk, hb, hx⟩ := hrel
    clear HO HX B1
    have HO := Lib.hid ho
    have HX := Lib.hid hx
    have B := Lib.hid hb
    have HKM := Lib.hid hkm
    have HR1 := Lib.hid hR
    have HLK := Lib.hid hlk
    have hand := and_one m (by omega)
    clear ho hx hb hkm hR hlk
    by_cases hodd : m % 2 = 1
    · rw [hodd] at hand
      obtain ⟨j, hj⟩ : ∃ j, k = j + 1 := ⟨k - 1, by have := HKM.out; rw [pc_step] at this; omega⟩
      subst hj
      have hjp : j < ps.length := by omega
      have HTJ := Lib.hid (show (ps.take (j + 1)).reverse = ps[j] :: (ps.take j).reverse by rw [List.take_succ_eq_append_getElem hjp, List.reverse_append]; rfl)
      have HTK := Lib.hid (show (ps.take (j + 1)).take j = ps.take j by rw [List.take_take, Nat.min_eq_left (by omega)])
      have HK := Lib.hid (HOK.out ps[j] (List.getElem_mem _))
      obtain ⟨A', cap', e', hcp, _, hrd, hok⟩ := HO.out.rd
      have htl : (ps.take (j + 1)).length = j + 1 := by rw [List.length_take]; omega
      rw [htl] at e' hcp
      obtain ⟨rfl, _, rfl⟩ := Value.slice.inj e'
      obtain ⟨g, o, rfl, hsg, hc⟩ := hrd.elem hok j (by omega)
      rw [List.getElem_take] at hc
      have HPM := Lib.hid (show pc (m / 2) = j by have := HKM.out; rw [pc_step, hodd] at this; omega)
      obtain ⟨x, hx7⟩ : ∃ x, ps[j] = x := ⟨_, rfl⟩
      rw [hx7] at HTJ HK hc
      have HC := Lib.hid (show ∀ W, Ext wr W → ∀ j2 u, (tKey.enc x)[j2]? = some u → W.cell? ⟨g, o + j * 32 + j2, none⟩ = some u from fun W hW j2 u hu => hW.cell (hc j2 u hu))
      have hsz := sizeN (k := .u8) HLK.out.1
      have hgl : w.heap.size + 1 ≤ g := hsg.1
      have HND := Lib.hid (ndK_ok x lf)
      have q0 : (0 : Int) ≤ (j : Int) := by omega
      have q1 : (j : Int) < (j : Int) + 1 := by omega
      have q2 : (j : Int) ≤ (c2 : Int) := by omega
      have q3 : (j : Int) + 1 ≤ (c2 : Int) := by omega
      have q4 : j ≤ c2 := by omega
      have q5 : IntKind.i64.wrap ((j : Int) + 1 - 1) = (j : Int) := by rw [IntWalk.i64_in _ (by omega)]; omega
      have q6 : (j : Int) + 1 - 1 = (j : Int) := by omega
      have HOD := Lib.hid hodd
      have hm0 : 0 < m := by omega
      clear hx7 hc hrd hok e' htl hsg hodd
      go_wp2_with fail
      refine wp_region_f [9, 10] (S := fun W => Ext wr W) (by kernel_rfl) ((Ext.refl wr).drew) (fun hHeld => ?_)
      refine wpF_take (i := 0) (oi := ?oiz1) (v := ?vz1) ?hiz1 (by kernel_rfl) (by kernel_rfl) (by kernel_rfl) (by kernel_rfl) ?hQz1 ?hyz1 (by assumption) ?restz1
      case hiz1 => simp only [List.getElem?_toArray, List.getElem?_cons_zero, List.getElem?_cons_succ]; rfl
      case hQz1 => exact fun _ _ _ h => h
      case hyz1 => exact Or.inl ⟨by rfl, by intro w hSw; (try dsimp only at hSw); go_simp; with_reducible rfl⟩
      try simp only [Act.put, List.setIfInBounds_toArray, List.set_cons_zero, List.set_cons_succ]
      refine wpF_take (i := 1) (oi := ?oiz2) (v := ?vz2) ?hiz2 (by kernel_rfl) (by kernel_rfl) (by kernel_rfl) (by kernel_rfl) ?hQz2 ?hyz2 (by assumption) ?restz2
      case hiz2 => simp only [List.getElem?_toArray, List.getElem?_cons_zero, List.getElem?_cons_succ]; rfl
      case hQz2 => exact fun _ _ _ h => h
      case hyz2 => exact Or.inl ⟨by rfl, by intro w hSw; (try dsimp only at hSw); go_simp; with_reducible rfl⟩
      try simp only [Act.put, List.setIfInBounds_toArray, List.set_cons_zero, List.set_cons_succ]
      refine wpF_take (i := 2) (oi := ?oiz3) (v := ?vz3) ?hiz3 (by kernel_rfl) (by kernel_rfl) (by kernel_rfl) (by kernel_rfl) ?hQz3 ?hyz3 (by assumption) ?restz3
      case hiz3 => simp only [List.getElem?_toArray, List.getElem?_cons_zero, List.getElem?_cons_succ]; rfl
      case hQz3 => exact fun _ _ _ h => h
      case hyz3 => exact Or.inl ⟨by rfl, by intro w hSw; (try dsimp only at hSw); go_simp; with_reducible rfl⟩
      try simp only [Act.put, List.setIfInBounds_toArray, List.set_cons_zero, List.set_cons_succ]
      refine wpF_take (i := 3) (oi := ?oiz4) (v := (.agg (tKey.enc x).toArray)) ?hiz4 (by kernel_rfl) (by kernel_rfl) (by kernel_rfl) (by kernel_rfl) ?hQz4 ?hyz4 (by assumption) ?restz4
      case hiz4 => simp only [List.getElem?_toArray, List.getElem?_cons_zero, List.getElem?_cons_succ]; rfl
      case hQz4 => exact fun _ _ _ h => h
      case hyz4 => refine yields_loadSP g (o + j * 32) (tKey.enc x) (by rw [tKey.len _ HK.out]; exact aggKey) HC.out ?_ _ rfl rfl; rfl
      try simp only [Act.put, List.setIfInBounds_toArray, List.set_cons_zero, List.set_cons_succ]
      refine wpF_take (i := 4) (oi := ?oiz5) (v := (.agg (numsA .u8 lf))) ?hiz5 (by kernel_rfl) (by kernel_rfl) (by kernel_rfl) (by kernel_rfl) ?hQz5 ?hyz5 (by assumption) ?restz5
      case hiz5 => simp only [List.getElem?_toArray, List.getElem?_cons_zero, List.getElem?_cons_succ]; rfl
      case hQz5 => exact fun _ _ _ h => h
      case hyz5 => refine yields_loadBSP (fun W hW => B.out.ext hW) aggKey hsz ?_ _ rfl rfl; rfl
      try simp only [Act.put, List.setIfInBounds_toArray, List.set_cons_zero, List.set_cons_succ]
      refine wpF_late (i := 6) (oi := ?oiz6) (v := ?vz6) ?hiz6 (by kernel_rfl) (by kernel_rfl) (by kernel_rfl) ?hQz6 ?hyz6 ?restz6
      case hiz6 => simp only [List.getElem?_toArray, List.getElem?_cons_zero, List.getElem?_cons_succ]; rfl
      case hQz6 => exact fun _ _ _ h => h
      case hyz6 => exact Or.inl ⟨by rfl, by intro w hSw; (try dsimp only at hSw); go_simp; with_reducible rfl⟩
      try simp only [Act.put, List.setIfInBounds_toArray, List.set_cons_zero, List.set_cons_succ]
      refine wpF_late (i := 7) (oi := ?oiz7) (v := ?vz7) ?hiz7 (by kernel_rfl) (by kernel_rfl) (by kernel_rfl) ?hQz7 ?hyz7 ?restz7
      case hiz7 => simp only [List.getElem?_toArray, List.getElem?_cons_zero, List.getElem?_cons_succ]; rfl
      case hQz7 => exact fun _ _ _ h => h
      case hyz7 => exact Or.inl ⟨by rfl, by intro w hSw; (try dsimp only at hSw); go_simp; with_reducible rfl⟩
      try simp only [Act.put, List.setIfInBounds_toArray, List.set_cons_zero, List.set_cons_succ]
      refine wpF_late (i := 8) (oi := ?oiz8) (v := (.slice (some ⟨g, o, none⟩) j c2)) ?hiz8 (by kernel_rfl) (by kernel_rfl) (by kernel_rfl) ?hQz8 ?hyz8 ?restz8
      case hiz8 => simp only [List.getElem?_toArray, List.getElem?_cons_zero, List.getElem?_cons_succ]; rfl
      case hQz8 => exact fun _ _ _ h => h
      case hyz8 => exact Or.inl ⟨by rfl, by intro w hSw; (try dsimp only at hSw); go_simp; (try with_reducible rfl)⟩
      try simp only [Act.put, List.setIfInBounds_toArray, List.set_cons_zero, List.set_cons_succ]
      refine wpF_ready (rs := [5]) (by kernel_rfl) (by simp) (AllF.cons (o := ?oy95) ?hy95 (fun K hK => ?sy95) AllF.nil)
      case hy95 => simp only [List.getElem?_toArray, List.getElem?_cons_zero, List.getElem?_cons_succ]; rfl
      go_simp
      refine (nodeKey_any x lf HK.out HLK.out _).mono ?_
      rintro e w5 ⟨rfl, hx⟩
      have hH2 := hHeld.trans hx
      refine hK.out _ _ (fun _ _ => hH2) ?_
      have HH := Lib.hid hH2
      clear hHeld hK K hx hH2
      try simp only [Act.put, List.setIfInBounds_toArray, List.set_cons_zero, List.set_cons_succ]
      refine wpF_ready (rs := [9]) (by kernel_rfl) (by simp) (AllF.cons (o := ?oy109) ?hy109 (fun K hK => ?sy109) AllF.nil)
      case hy109 => simp only [List.getElem?_toArray, List.getElem?_cons_zero, List.getElem?_cons_succ]; rfl
      have B5 := B.out.ext HH.out
      refine stp_storeP (off := 0) B5 aggKey (St.nums HND.out.1) (by omega) rfl _ _ rfl rfl rfl rfl ?_
      rw [splice_all _ _ (by rw [Array.length_toList, hsz, (St.nums (k := .u8) HND.out.1).size])]
      have e9 : (numsA .u8 (ndK x lf)).toList.toArray = numsA .u8 (ndK x lf) := by simp
      rw [e9]
      have HX8 := Lib.hid ((HX.out.trans HH.out).setRow (g := w.heap.size) (Nat.le_refl _) (numsA .u8 (ndK x lf)))
      have B8 := Lib.hid (B5.setRow (numsA .u8 (ndK x lf)))
      have HO8 := Lib.hid ((HO.out.ext HH.out).kept (row := some w.heap.size) (stRowK _ _ (numsA .u8 (ndK x lf))) (.inr fun e => HO.out.far_of_lt (Nat.lt_succ_self _) e.symm))
      refine hK.out _ _ (fun h => absurd (by decide) h) ?_
      clear hK K e9
      try simp only [Act.put, List.setIfInBounds_toArray, List.set_cons_zero, List.set_cons_succ]
      refine wpF_late (i := 10) (oi := ?oiz11) (v := ?vz11) ?hiz11 (by kernel_rfl) (by kernel_rfl) (by kernel_rfl) ?hQz11 ?hyz11 ?restz11
      case hiz11 => simp only [List.getElem?_toArray, List.getElem?_cons_zero, List.getElem?_cons_succ]; rfl
      case hQz11 => exact fun _ _ _ h => h
      case hyz11 => exact Or.inl ⟨by rfl, by intro w hSw; (try dsimp only at hSw); go_simp; with_reducible rfl⟩
      try simp only [Act.put, List.setIfInBounds_toArray, List.set_cons_zero, List.set_cons_succ]
      refine wpF_done (by kernel_rfl) ?_ _
      go_wp2
      go_roundw
      case rel => exact ⟨m / 2, j, ndK x lf, _, _, by omega, by go_num, rfl, by omega, HPM.out.symm, by rw [← HTK.out]; exact HO8.out.takeP (by rw [List.length_take]; omega), by rw [← HR1.out, HTJ.out, adR_odd HOD.out], HND.out, B8.out, HX8.out⟩
      case measure => simp [intOf]; omega
    · have hm2 : m % 2 = 0 := by omega
      rw [hm2] at hand
      have HE := Lib.hid (show (R.reverse : List (List Int)) = ps.take k ++ [lf] by rw [← HR1.out, adR_even hodd, List.reverse_cons, List.reverse_reverse])
      have hsz := sizeN (k := .u8) HLK.out.1
      have htl : (ps.take k).length = k := by rw [List.length_take]; omega
      have HTL := Lib.hid htl
      clear hm2 hodd htl
      go_wp2_with (first
        | (refine wpl_loadB B.out aggKey hsz rfl _ rfl rfl ?_)
        | (refine wpl_one rowKeyA (by decide) lf HLK.out rfl _ rfl rfl ?_)
        | (at_builtin; refine wpl_append rowKeyA rfl _ _ rfl (v := .slice A2 k c2) rfl (HO.out.alloc (.cells (tKey.enc lf).toArray 28)) _ _ rfl (A := some ⟨wr.heap.size, 0, none⟩) (ys := [lf]) rfl (rd_one (T := tKey) wr lf HLK.out _) (by intro y hy; obtain rfl := List.mem_singleton.1 hy; exact HLK.out) (by rw [HTL.out]; simp; omega) (by have := HX.out.size; have := B.out.lt; simp; omega) ?_; intro v5 w5 ho5 hg5 hat5; have HX5 := Lib.hid ((HX.out.alloc (.cells (tKey.enc lf).toArray 28)).grown hg5 (fun q hq => by have := ((HO.out.alloc (.cells (tKey.enc lf).toArray 28)).base_le q hq).1; omega)); have HO5 := Lib.hid ho5; obtain ⟨C5, n5, c5, rfl⟩ := ho5.shape3; clear ho5 hg5 hat5))
      go_ret2
      exact ⟨_, rfl, by rw [HE.out]; exact HO5.out.le (Nat.le_succ _), HX5.out⟩
end Go.Proofs.Ytdjclllnmclocaa
/- Arrays of bytes held against each other by == and !=. No condition. -/
namespace Go.Proofs.Ytdjclllnmclocaa
open Go.RowKit
set_option linter.unusedVariables false
set_option linter.unusedSimpArgs false

def eqArr (d : Nat) (e : TypeId) (n : Nat) (xs ys : Array Value) : List Nat → Sem Bool
  | [] => pure true
  | i :: is => do
    let a ← part e xs (i * n)
    let b ← part e ys (i * n)
    let r ← Op.equalIn d e a b
    if (!r) = true then pure false else eqArr d e n xs ys is
section
variable {P : Program} (w : World)
theorem run_equalIn_array (d : Nat) (t e : TypeId) (len n : Nat) (xs ys : Array Value) (ht : P.underlying t = some (.array len e)) (hn : ∀ w, (sizeOf e).run P w = .ok n w) :
    (Op.equalIn (d + 1) t (.agg xs) (.agg ys)).run P w = (eqArr d e n xs ys (List.range' 0 len)).run P w := by
  simp only [Op.equalIn, Sem.run_bind, run_underlying ht, Result.andThen_ok, hn]
  rw [Std.Legacy.Range.forIn_eq_forIn_range']
  simp only [Std.Legacy.Range.size, Nat.sub_zero, Nat.add_sub_cancel, Nat.div_one]
  generalize List.range' 0 len = l
  clear ht
  induction l generalizing w with
  | nil => simp [eqArr]
  | cons f fs ih =>
    simp only [List.forIn_cons, eqArr, Sem.run_bind, Sem.run_ite]
    generalize (part e xs (f * n)).run P w = r1
    cases r1 with
    | ok a w1 =>
      simp only [Result.andThen_ok]
      generalize (part e ys (f * n)).run P w1 = r2
      cases r2 with
      | ok b w2 =>
        simp only [Result.andThen_ok]
        generalize (Op.equalIn d e a b).run P w2 = r3
        cases r3 with
        | ok r w3 =>
          cases r
          · simp only [Result.andThen_ok, Bool.not_false, if_true, Sem.run_pure]
          · simp only [Result.andThen_ok, Bool.not_true, Bool.false_eq_true, if_false, Sem.run_pure]
            exact ih w3
        | halt x w3 => simp [Result.andThen]
      | halt x w2 => simp [Result.andThen]
    | halt x w1 => simp [Result.andThen]
theorem run_eqArr (d : Nat) (e : TypeId) (k' : IntKind) (he : P.underlying e = some (.int k')) (k : IntKind) (a b : List Int) (hl : a.length = b.length) (m i : Nat) (hi : i + m = a.length) :
    (eqArr (d + 1) e 1 (numsA k a) (numsA k b) (List.range' i m)).run P w = .ok (decide (a.drop i = b.drop i)) w := by
  have hagg : (isAgg e).run P w = .ok false w := by
    unfold isAgg
    rw [Sem.run_bind, run_underlying he w]
    rfl
  induction m generalizing i with
  | zero =>
    rw [List.drop_eq_nil_of_le (by omega), List.drop_eq_nil_of_le (by omega)]
    simp [eqArr]
  | succ m ih =>
    have h1 : i < a.length := by omega
    have h2 : i < b.length := by omega
    have e1 := numsA_at k a i h1
    have e2 := numsA_at k b i h2
    rw [List.range'_succ]
    simp only [eqArr, Sem.run_bind, part, hagg, Result.andThen_ok, Bool.false_eq_true, if_false, Nat.mul_one, e1, e2, Sem.run_pure, run_equalIn_int w d e k k' _ _ he, Sem.run_ite]
    rw [List.drop_eq_getElem_cons h1, List.drop_eq_getElem_cons h2]
    by_cases hq : gI a i = gI b i
    · have h3 : (gI a i == gI b i) = true := by simpa using hq
      simp only [h3, Bool.not_true, Bool.false_eq_true, if_false]
      rw [ih (i + 1) (by omega)]
      rw [gI_lt h1, gI_lt h2] at hq
      simp only [List.cons.injEq, hq, true_and]
    · have h3 : (gI a i == gI b i) = false := by simpa using hq
      simp only [h3, Bool.not_false, if_true]
      rw [gI_lt h1, gI_lt h2] at hq
      simp only [List.cons.injEq, hq, false_and, decide_false]
end
theorem run_eqKey (a b : List Int) (ha : K32 a) (hb : K32 b) (W : World) : (binOp .eql 28 (.agg (numsA .u8 a)) (.agg (numsA .u8 b))).run Try.prog W = .ok (.bool (decide (a = b))) W := by
  rw [run_eql_struct, run_equalIn_array (P := Try.prog) W 9999 28 5 32 1 _ _ (by kernel_rfl) (fun w => by kernel_rfl), run_eqArr (P := Try.prog) W 9998 5 .u8 (by kernel_rfl) .u8 a b (by rw [ha.1, hb.1]) 32 0 (by rw [ha.1])]
  simp
theorem run_neqKey (a b : List Int) (ha : K32 a) (hb : K32 b) (W : World) : (binOp .neq 28 (.agg (numsA .u8 a)) (.agg (numsA .u8 b))).run Try.prog W = .ok (.bool (!decide (a = b))) W := by
  rw [run_neq_struct, run_equalIn_array (P := Try.prog) W 9999 28 5 32 1 _ _ (by kernel_rfl) (fun w => by kernel_rfl), run_eqArr (P := Try.prog) W 9998 5 .u8 (by kernel_rfl) .u8 a b (by rw [ha.1, hb.1]) 32 0 (by rw [ha.1])]
  simp

end Go.Proofs.Ytdjclllnmclocaa
/- The check of a leaf's proof: the program. No condition. -/
namespace Go.Proofs.Ytdjclllnmclocaa
open Go.RowKit
set_option linter.unusedVariables false
set_option linter.unusedSimpArgs false

/-- two whole variables are the results -/
theorem results_kk {P : Program} {w : World} {fn : Func} {c d : Tmp} {t g g' e e' n : Nat} {cs ds : Array Value} (hr : fn.results = #[.cell c t, .cell d t]) (tmps : Array Value) (hp : tmps.getD c undef = .pointer (some ⟨g, 0, none⟩)) (hq : tmps.getD d undef = .pointer (some ⟨g', 0, none⟩)) (ht : Agg P t n) (hn : cs.size = n) (hm : ds.size = n) (hb : Blk w g e cs) (hb' : Blk w g' e' ds) :
    (results fn tmps).run P w = .ok (.tuple #[.agg cs, .agg ds]) w := by
  have hl := run_loadB (P := P) hb ht hn
  have hl' := run_loadB (P := P) hb' ht hm
  have hp' : tmps[c]?.getD undef = .pointer (some ⟨g, 0, none⟩) := by simpa using hp
  have hq' : tmps[d]?.getD undef = .pointer (some ⟨g', 0, none⟩) := by simpa using hq
  simp [results, hr, hp', hq', asAddr, hl, hl']
set_option maxHeartbeats 4000000 in
set_option maxRecDepth 100000 in
theorem paired_any (a b : List Int) (r : Bool) (ha : K32 a) (hb : K32 b) (w : World) :
    Calls Try.prog 72 #[.agg (numsA .u8 a), .agg (numsA .u8 b), .bool r] w fun q w' => q = .returned (.tuple #[.agg (numsA .u8 (if r then b else a)), .agg (numsA .u8 (if r then a else b))]) ∧ Ext w w' := by
  have h1 := sizeN (k := .u8) ha.1
  have h2 := sizeN (k := .u8) hb.1
  have HA := Lib.hid ha
  have HB := Lib.hid hb
  have hzA : (Try.prog.info? 28).map (·.zero) = some (some (.agg (numsA .u8 (List.replicate 32 0)))) := by kernel_rfl
  have hzs : (numsA .u8 (List.replicate 32 0)).size = 32 := by simp [numsA, nums]
  generalize numsA .u8 (List.replicate 32 0) = Z at hzA hzs
  have HZS := Lib.hid hzs
  have BA := Lib.hid ((((Blk.new w 28 (numsA .u8 a)).alloc (.cells (numsA .u8 b) 28)).alloc (.cells Z 28)).alloc (.cells Z 28))
  have BB := Lib.hid (((Blk.new' (g := w.heap.size + 1) (w := w.alloc (.cells (numsA .u8 a) 28)) (by simp) 28 (numsA .u8 b)).alloc (.cells Z 28)).alloc (.cells Z 28))
  have BR := Lib.hid ((Blk.new' (g := w.heap.size + 2) (w := (w.alloc (.cells (numsA .u8 a) 28)).alloc (.cells (numsA .u8 b) 28)) (by simp) 28 Z).alloc (.cells Z 28))
  have BS := Lib.hid (Blk.new' (g := w.heap.size + 3) (w := ((w.alloc (.cells (numsA .u8 a) 28)).alloc (.cells (numsA .u8 b) 28)).alloc (.cells Z 28)) (by simp) 28 Z)
  have HX := Lib.hid ((((ext_alloc w (.cells (numsA .u8 a) 28)).alloc (.cells (numsA .u8 b) 28)).alloc (.cells Z 28)).alloc (.cells Z 28))
  clear hzs ha hb
  cases r with
  | true =>
    go_enter Try.func72, Try.ntmps72
    go_wp2_with (refine wpl_alloc Z hzA rfl rfl ?_)
    generalize (((w.alloc (.cells (numsA .u8 a) 28)).alloc (.cells (numsA .u8 b) 28)).alloc (.cells Z 28)).alloc (.cells Z 28) = w4 at BA BB BR BS HX ⊢
    clear hzA
    refine wp_region_held_drew (S := fun W => Blk W w.heap.size 28 (numsA .u8 a) ∧ Blk W (w.heap.size + 1) 28 (numsA .u8 b)) (by kernel_rfl) ⟨BA.out.drewN 1, BB.out.drewN 1⟩ (fun hHeld => ?_)
    refine wpAnyH_take (i := 0) (oi := ?oiz1) (v := (.agg (numsA .u8 b))) ?hiz1 (by kernel_rfl) (by kernel_rfl) (by kernel_rfl) ?hQz1 ?hyz1 (by assumption) ?restz1
    case hiz1 => simp only [List.getElem?_toArray, List.getElem?_cons_zero, List.getElem?_cons_succ]; rfl
    case hQz1 => exact fun _ _ _ h => h
    case hyz1 => refine yields_loadBSP (fun W hW => hW.2) aggKey h2 ?_ _ rfl rfl; rfl
    try simp only [Act.put, List.setIfInBounds_toArray, List.set_cons_zero, List.set_cons_succ]
    refine wpAnyH_take (i := 1) (oi := ?oiz2) (v := (.agg (numsA .u8 a))) ?hiz2 (by kernel_rfl) (by kernel_rfl) (by kernel_rfl) ?hQz2 ?hyz2 (by assumption) ?restz2
    case hiz2 => simp only [List.getElem?_toArray, List.getElem?_cons_zero, List.getElem?_cons_succ]; rfl
    case hQz2 => exact fun _ _ _ h => h
    case hyz2 => refine yields_loadBSP (fun W hW => hW.1) aggKey h1 ?_ _ rfl rfl; rfl
    try simp only [Act.put, List.setIfInBounds_toArray, List.set_cons_zero, List.set_cons_succ]
    have BR1 := Lib.hid (show Blk w4.drew _ _ _ from BR.out.drewN 1)
    have BS1 := Lib.hid (show Blk w4.drew _ _ _ from BS.out.drewN 1)
    have HX1 := Lib.hid HX.out.drew
    generalize w4.drew = w5 at hHeld BR1 BS1 HX1 ⊢
    clear BA BB BR BS HX
    refine wpAnyH_ready (rs := [2]) (by kernel_rfl) (by simp) (AllReadyH.cons (o := ?oy32) ?hy32 (fun K hK => ?sy32) AllReadyH.nil)
    case hy32 => simp only [List.getElem?_toArray, List.getElem?_cons_zero, List.getElem?_cons_succ]; rfl
    refine stp_storeP (off := 0) BR1.out aggKey (St.nums HB.out.1) (by have := HZS.out; omega) rfl _ _ rfl rfl rfl rfl ?_
    rw [splice_all _ _ (by rw [Array.length_toList, HZS.out, (St.nums (k := .u8) HB.out.1).size])]
    have e9 : (numsA .u8 b).toList.toArray = numsA .u8 b := by simp
    rw [e9]
    have hH2 := And.intro (hHeld.1.row_far (g' := w.heap.size + 2) (by omega) (numsA .u8 b)) (hHeld.2.row_far (g' := w.heap.size + 2) (by omega) (numsA .u8 b))
    have BR12 := Lib.hid (BR1.out.setRow (numsA .u8 b))
    have BS12 := Lib.hid (BS1.out.row_far (g' := w.heap.size + 2) (by omega) (numsA .u8 b))
    have HX2 := Lib.hid (HX1.out.setRow (g := w.heap.size + 2) (by omega) (numsA .u8 b))
    refine hK.out _ _ hH2 (fun _ => ?_)
    clear hHeld hK K e9
    have hHeld := hH2
    clear hH2
    try simp only [Act.put, List.setIfInBounds_toArray, List.set_cons_zero, List.set_cons_succ]
    refine wpAnyH_ready (rs := [3]) (by kernel_rfl) (by simp) (AllReadyH.cons (o := ?oy43) ?hy43 (fun K hK => ?sy43) AllReadyH.nil)
    case hy43 => simp only [List.getElem?_toArray, List.getElem?_cons_zero, List.getElem?_cons_succ]; rfl
    refine stp_storeP (off := 0) BS12.out aggKey (St.nums HA.out.1) (by have := HZS.out; omega) rfl _ _ rfl rfl rfl rfl ?_
    rw [splice_all _ _ (by rw [Array.length_toList, HZS.out, (St.nums (k := .u8) HA.out.1).size])]
    have e9 : (numsA .u8 a).toList.toArray = numsA .u8 a := by simp
    rw [e9]
    have hH2 := And.intro (hHeld.1.row_far (g' := w.heap.size + 3) (by omega) (numsA .u8 a)) (hHeld.2.row_far (g' := w.heap.size + 3) (by omega) (numsA .u8 a))
    have BS122 := Lib.hid (BS12.out.setRow (numsA .u8 a))
    have BR122 := Lib.hid (BR12.out.row_far (g' := w.heap.size + 3) (by omega) (numsA .u8 a))
    have HX3 := Lib.hid (HX2.out.setRow (g := w.heap.size + 3) (by omega) (numsA .u8 a))
    refine hK.out _ _ hH2 (fun _ => ?_)
    clear hHeld hK K e9
    have hHeld := hH2
    clear hH2
    try simp only [Act.put, List.setIfInBounds_toArray, List.set_cons_zero, List.set_cons_succ]
    refine wpAnyH_done (by kernel_rfl) ?_ _
    go_wp2_with fail
    refine bodyPost_ret (results_kk rfl _ rfl rfl aggKey (sizeN HB.out.1) (sizeN HA.out.1) BR122.out BS122.out) rfl ?_
    exact ⟨rfl, HX3.out⟩
  | false =>
    go_enter Try.func72, Try.ntmps72
    go_wp2_with (refine wpl_alloc Z hzA rfl rfl ?_)
    generalize (((w.alloc (.cells (numsA .u8 a) 28)).alloc (.cells (numsA .u8 b) 28)).alloc (.cells Z 28)).alloc (.cells Z 28) = w4 at BA BB BR BS HX ⊢
    clear hzA
    refine wp_region_held_drew (S := fun W => Blk W w.heap.size 28 (numsA .u8 a) ∧ Blk W (w.heap.size + 1) 28 (numsA .u8 b)) (by kernel_rfl) ⟨BA.out.drewN 1, BB.out.drewN 1⟩ (fun hHeld => ?_)
    refine wpAnyH_take (i := 0) (oi := ?oiz5) (v := (.agg (numsA .u8 a))) ?hiz5 (by kernel_rfl) (by kernel_rfl) (by kernel_rfl) ?hQz5 ?hyz5 (by assumption) ?restz5
    case hiz5 => simp only [List.getElem?_toArray, List.getElem?_cons_zero, List.getElem?_cons_succ]; rfl
    case hQz5 => exact fun _ _ _ h => h
    case hyz5 => refine yields_loadBSP (fun W hW => hW.1) aggKey h1 ?_ _ rfl rfl; rfl
    try simp only [Act.put, List.setIfInBounds_toArray, List.set_cons_zero, List.set_cons_succ]
    refine wpAnyH_take (i := 1) (oi := ?oiz6) (v := (.agg (numsA .u8 b))) ?hiz6 (by kernel_rfl) (by kernel_rfl) (by kernel_rfl) ?hQz6 ?hyz6 (by assumption) ?restz6
    case hiz6 => simp only [List.getElem?_toArray, List.getElem?_cons_zero, List.getElem?_cons_succ]; rfl
    case hQz6 => exact fun _ _ _ h => h
    case hyz6 => refine yields_loadBSP (fun W hW => hW.2) aggKey h2 ?_ _ rfl rfl; rfl
    try simp only [Act.put, List.setIfInBounds_toArray, List.set_cons_zero, List.set_cons_succ]
    have BR1 := Lib.hid (show Blk w4.drew _ _ _ from BR.out.drewN 1)
    have BS1 := Lib.hid (show Blk w4.drew _ _ _ from BS.out.drewN 1)
    have HX1 := Lib.hid HX.out.drew
    generalize w4.drew = w5 at hHeld BR1 BS1 HX1 ⊢
    clear BA BB BR BS HX
    refine wpAnyH_ready (rs := [2]) (by kernel_rfl) (by simp) (AllReadyH.cons (o := ?oy72) ?hy72 (fun K hK => ?sy72) AllReadyH.nil)
    case hy72 => simp only [List.getElem?_toArray, List.getElem?_cons_zero, List.getElem?_cons_succ]; rfl
    refine stp_storeP (off := 0) BR1.out aggKey (St.nums HA.out.1) (by have := HZS.out; omega) rfl _ _ rfl rfl rfl rfl ?_
    rw [splice_all _ _ (by rw [Array.length_toList, HZS.out, (St.nums (k := .u8) HA.out.1).size])]
    have e9 : (numsA .u8 a).toList.toArray = numsA .u8 a := by simp
    rw [e9]
    have hH2 := And.intro (hHeld.1.row_far (g' := w.heap.size + 2) (by omega) (numsA .u8 a)) (hHeld.2.row_far (g' := w.heap.size + 2) (by omega) (numsA .u8 a))
    have BR12 := Lib.hid (BR1.out.setRow (numsA .u8 a))
    have BS12 := Lib.hid (BS1.out.row_far (g' := w.heap.size + 2) (by omega) (numsA .u8 a))
    have HX2 := Lib.hid (HX1.out.setRow (g := w.heap.size + 2) (by omega) (numsA .u8 a))
    refine hK.out _ _ hH2 (fun _ => ?_)
    clear hHeld hK K e9
    have hHeld := hH2
    clear hH2
    try simp only [Act.put, List.setIfInBounds_toArray, List.set_cons_zero, List.set_cons_succ]
    refine wpAnyH_ready (rs := [3]) (by kernel_rfl) (by simp) (AllReadyH.cons (o := ?oy83) ?hy83 (fun K hK => ?sy83) AllReadyH.nil)
    case hy83 => simp only [List.getElem?_toArray, List.getElem?_cons_zero, List.getElem?_cons_succ]; rfl
    refine stp_storeP (off := 0) BS12.out aggKey (St.nums HB.out.1) (by have := HZS.out; omega) rfl _ _ rfl rfl rfl rfl ?_
    rw [splice_all _ _ (by rw [Array.length_toList, HZS.out, (St.nums (k := .u8) HB.out.1).size])]
    have e9 : (numsA .u8 b).toList.toArray = numsA .u8 b := by simp
    rw [e9]
    have hH2 := And.intro (hHeld.1.row_far (g' := w.heap.size + 3) (by omega) (numsA .u8 b)) (hHeld.2.row_far (g' := w.heap.size + 3) (by omega) (numsA .u8 b))
    have BS122 := Lib.hid (BS12.out.setRow (numsA .u8 b))
    have BR122 := Lib.hid (BR12.out.row_far (g' := w.heap.size + 3) (by omega) (numsA .u8 b))
    have HX3 := Lib.hid (HX2.out.setRow (g := w.heap.size + 3) (by omega) (numsA .u8 b))
    refine hK.out _ _ hH2 (fun _ => ?_)
    clear hHeld hK K e9
    have hHeld := hH2
    clear hH2
    try simp only [Act.put, List.setIfInBounds_toArray, List.set_cons_zero, List.set_cons_succ]
    refine wpAnyH_done (by kernel_rfl) ?_ _
    go_wp2_with fail
    refine bodyPost_ret (results_kk rfl _ rfl rfl aggKey (sizeN HA.out.1) (sizeN HB.out.1) BR122.out BS122.out) rfl ?_
    exact ⟨rfl, HX3.out⟩
set_option maxHeartbeats 8000000 in
set_option maxRecDepth 100000 in
theorem checkProof_any (n i : Nat) (hn : n ≤ 256) (hi : i < n) (root leaf : List Int) (hroot : K32 root) (hleaf : K32 leaf) (v : Value) (ps : List (List Int)) (hps : ps.length ≤ 256) (w : World) (S : Nat → Prop) (h : RdL tKey w S v ps) (hlen : ps.length = (sd n i).length) :
    Calls Try.prog 31 #[.agg (numsA .u8 root), .int .i64 n, .int .i64 i, .agg (numsA .u8 leaf), v] w fun q w' => q = .returned (.tuple #[.bool (decide (chk leaf ps (sd n i).reverse = root)), .int .i64 0]) ∧ Ext w w' := by
  have HP := Lib.hid (fun W => sides_any n i hn hi W)
  have hw := fun W => within_any (i : Int) 0 ((n : Int) - 1) W
  have hl := fun W => isLeaves_any (n : Int) W
  obtain ⟨R, hR⟩ : ∃ R, (decide ((0 : Int) ≤ (i : Int)) && decide ((i : Int) ≤ (n : Int) - 1)) = R := ⟨_, rfl⟩
  rw [hR] at hw
  obtain rfl : R = true := by rw [← hR]; simp; omega
  obtain ⟨R2, hR2⟩ : ∃ R2, (decide ((1 : Int) ≤ (n : Int)) && decide ((n : Int) ≤ 256)) = R2 := ⟨_, rfl⟩
  rw [hR2] at hl
  obtain rfl : R2 = true := by rw [← hR2]; simp; omega
  have hw1 : IntKind.i64.wrap ((n : Int) - 1) = (n : Int) - 1 := IntWalk.i64_in _ (by omega)
  obtain ⟨bs, hbs⟩ : ∃ bs, (sd n i).reverse = bs := ⟨_, rfl⟩
  have HLN := Lib.hid (show ps.length = bs.length by rw [← hbs, List.length_reverse]; exact hlen)
  rw [hbs] at HP ⊢
  have HRT := Lib.hid hroot
  have HLF := Lib.hid hleaf
  obtain ⟨A, cap, rfl, hcap, hln, hrd, hok⟩ := id h
  have HR := Lib.hid h
  have HOK := Lib.hid (show ∀ x ∈ ps, K32 x from hok)
  have HN := Lib.hid hn
  have HPS := Lib.hid hps
  have hd : ¬ (256 : Int) < (ps.length : Int) := by omega
  obtain ⟨m, hm⟩ : ∃ m, ps.length = m := ⟨_, rfl⟩
  have HM := Lib.hid hm
  have hm256 : m ≤ 256 := by omega
  rw [hm] at hd hcap ⊢
  rw [hm] at HR
  clear hR hR2 hn hi hbs hlen hroot hleaf h hrd hok hln hps hm
  have hsr := sizeN (k := .u8) HRT.out.1
  have BRT := Lib.hid ((Blk.new w 28 (numsA .u8 root)).alloc (.cells (numsA .u8 leaf) 28))
  have BLF := Lib.hid (Blk.new' (g := w.heap.size + 1) (w := w.alloc (.cells (numsA .u8 root) 28)) (by simp) 28 (numsA .u8 leaf))
  have HX0 := Lib.hid ((ext_alloc w (.cells (numsA .u8 root) 28)).alloc (.cells (numsA .u8 leaf) 28))
  have HS0 := Lib.hid (show ((w.alloc (.cells (numsA .u8 root) 28)).alloc (.cells (numsA .u8 leaf) 28)).heap.size = w.heap.size + 2 by simp)
  have hneq : ((m : Int) != (m : Int)) = false := by simp
  go_enter Try.func31, Try.ntmps31
  go_wp2_with fail
  generalize (w.alloc (.cells (numsA .u8 root) 28)).alloc (.cells (numsA .u8 leaf) 28) = w0 at BRT BLF HX0 HS0 ⊢
  refine (hl _).mono ?_
  rintro e w' ⟨rfl, rfl⟩
  clear hl
  go_wp2_with fail
  refine (hw _).mono ?_
  rintro e w' ⟨rfl, rfl⟩
  clear hw
  go_wp2_with fail
  refine (HP.out _).mono ?_
  rintro e w2 ⟨v2, rfl, ho, hx⟩
  have BRT2 := Lib.hid (BRT.out.ext hx)
  have BLF2 := Lib.hid (BLF.out.ext hx)
  have HX2 := Lib.hid (HX0.out.trans hx)
  rw [HS0.out] at ho
  have HO := Lib.hid ho
  obtain ⟨C, cc, rfl⟩ := ho.shape
  rw [← HLN.out, HM.out] at HO ⊢
  clear ho hx HP BRT BLF HX0 HS0
  go_wp2_with fail
  go_loopw [40] (fun i wr => ∃ k : Nat, k ≤ m ∧ i = .int .i64 k ∧ Blk wr w.heap.size 28 (numsA .u8 root) ∧ Blk wr (w.heap.size + 1) 28 (numsA .u8 (chk leaf (ps.take k) (bs.take k))) ∧ Own tBool 4 wr (w.heap.size + 2) (.slice C m cc) bs ∧ Ext w wr) (fun i _ => m - (intOf i).toNat)
  case atStart => exact ⟨0, by omega, rfl, BRT2.out, by rw [List.take_zero, List.take_zero]; exact BLF2.out, HO.out, HX2.out⟩
  case round =>
    obtain ⟨k, hk, rfl, hb1, hb2, ho, hx⟩ := hrel
    have B1 := Lib.hid hb1
    have B2 := Lib.hid hb2
    have HOW := Lib.hid ho
    have HX := Lib.hid hx
    have HCK := Lib.hid (chk_ok (ps.take k) (bs.take k) leaf HLF.out)
    clear hb1 hb2 ho hx
    by_cases hlt : k < m
    · have hkp : k < ps.length := by rw [HM.out]; exact hlt
      have hkb : k < bs.length := by rw [← HLN.out]; exact hkp
      have hst := chk_take leaf k HLN.out hkp
      obtain ⟨g', cap', e', _, _, hat⟩ := HOW.out.boolAt (by omega)
      rw [← HLN.out, HM.out] at e' hat
      obtain ⟨rfl, _, rfl⟩ := Value.slice.inj e'
      have hb := (hat k hlt).1
      rw [gB_lt hkb] at hb
      have hRW := HR.out.ext (by decide) HX.out
      obtain ⟨A', cap2, e2, _, _, hrd, hok⟩ := hRW
      rw [HM.out] at e2
      obtain ⟨rfl, _, rfl⟩ := Value.slice.inj e2
      obtain ⟨g, o, rfl, hs, hc⟩ := hrd.elem hok k hkp
      obtain ⟨x, hx⟩ : ∃ x, chk leaf (ps.take k) (bs.take k) = x := ⟨_, rfl⟩
      rw [hx] at hst B2 HCK
      have HPK := Lib.hid (HOK.out ps[k] (List.getElem_mem _))
      obtain ⟨p, hp⟩ : ∃ p, ps[k] = p := ⟨_, rfl⟩
      rw [hp] at hst hc HPK
      obtain ⟨b, hbb⟩ : ∃ b, bs[k] = b := ⟨_, rfl⟩
      rw [hbb] at hst hb
      have HB := Lib.hid hb
      have HC := Lib.hid (show ∀ W, Ext wr W → ∀ j2 u, (tKey.enc p)[j2]? = some u → W.cell? ⟨g, o + k * 32 + j2, none⟩ = some u from fun W hW j2 u hu => hW.cell (hc j2 u hu))
      have hPA := Lib.hid (fun W => paired_any x p b HCK.out HPK.out W)
      obtain ⟨pl, hpl⟩ : ∃ pl, (if b then p else x) = pl := ⟨_, rfl⟩
      obtain ⟨pr, hpr⟩ : ∃ pr, (if b then x else p) = pr := ⟨_, rfl⟩
      have hnd : (if b = true then ndK p x else ndK x p) = ndK pl pr := by subst hpl hpr; cases b <;> rfl
      have HKL := Lib.hid (show K32 pl by rw [← hpl]; cases b; exact HCK.out; exact HPK.out)
      have HKR := Lib.hid (show K32 pr by rw [← hpr]; cases b; exact HPK.out; exact HCK.out)
      rw [hpl, hpr] at hPA
      rw [hnd] at hst
      have HST := Lib.hid hst
      have HND := Lib.hid (ndK_ok pl pr)
      have hsz := sizeN (k := .u8) HCK.out.1
      have HLT := Lib.hid hlt
      have q0 : (0 : Int) ≤ (k : Int) := by omega
      have q1 : (k : Int) < (m : Int) := by omega
      have q2 : (k : Int) ≤ (cap : Int) := by omega
      clear hp hx hbb hpl hpr hnd hst hb hat e' e2 hrd hok hc hs hkp hkb
      have hcb := HB.out
      go_wp2_with fail
      clear hcb
      refine wp_region_f [10] (S := fun W => Ext wr W) (by kernel_rfl) ((Ext.refl wr).drew) (fun hHeld => ?_)
      refine wpF_take (i := 0) (oi := ?oiz9) (v := (.agg (numsA .u8 x))) ?hiz9 (by kernel_rfl) (by kernel_rfl) (by kernel_rfl) (by kernel_rfl) ?hQz9 ?hyz9 (by assumption) ?restz9
      case hiz9 => simp only [List.getElem?_toArray, List.getElem?_cons_zero, List.getElem?_cons_succ]; rfl
      case hQz9 => exact fun _ _ _ h => h
      case hyz9 => refine yields_loadBSP (fun W hW => B2.out.ext hW) aggKey hsz ?_ _ rfl rfl; rfl
      try simp only [Act.put, List.setIfInBounds_toArray, List.set_cons_zero, List.set_cons_succ]
      refine wpF_take (i := 1) (oi := ?oiz10) (v := ?vz10) ?hiz10 (by kernel_rfl) (by kernel_rfl) (by kernel_rfl) (by kernel_rfl) ?hQz10 ?hyz10 (by assumption) ?restz10
      case hiz10 => simp only [List.getElem?_toArray, List.getElem?_cons_zero, List.getElem?_cons_succ]; rfl
      case hQz10 => exact fun _ _ _ h => h
      case hyz10 => exact Or.inl ⟨by rfl, by intro w hSw; (try dsimp only at hSw); go_simp; with_reducible rfl⟩
      try simp only [Act.put, List.setIfInBounds_toArray, List.set_cons_zero, List.set_cons_succ]
      refine wpF_take (i := 2) (oi := ?oiz11) (v := ?vz11) ?hiz11 (by kernel_rfl) (by kernel_rfl) (by kernel_rfl) (by kernel_rfl) ?hQz11 ?hyz11 (by assumption) ?restz11
      case hiz11 => simp only [List.getElem?_toArray, List.getElem?_cons_zero, List.getElem?_cons_succ]; rfl
      case hQz11 => exact fun _ _ _ h => h
      case hyz11 => exact Or.inl ⟨by rfl, by intro w hSw; (try dsimp only at hSw); go_simp; with_reducible rfl⟩
      try simp only [Act.put, List.setIfInBounds_toArray, List.set_cons_zero, List.set_cons_succ]
      refine wpF_take (i := 3) (oi := ?oiz12) (v := ?vz12) ?hiz12 (by kernel_rfl) (by kernel_rfl) (by kernel_rfl) (by kernel_rfl) ?hQz12 ?hyz12 (by assumption) ?restz12
      case hiz12 => simp only [List.getElem?_toArray, List.getElem?_cons_zero, List.getElem?_cons_succ]; rfl
      case hQz12 => exact fun _ _ _ h => h
      case hyz12 => exact Or.inl ⟨by rfl, by intro w hSw; (try dsimp only at hSw); go_simp; with_reducible rfl⟩
      try simp only [Act.put, List.setIfInBounds_toArray, List.set_cons_zero, List.set_cons_succ]
      refine wpF_take (i := 4) (oi := ?oiz13) (v := (.agg (tKey.enc p).toArray)) ?hiz13 (by kernel_rfl) (by kernel_rfl) (by kernel_rfl) (by kernel_rfl) ?hQz13 ?hyz13 (by assumption) ?restz13
      case hiz13 => simp only [List.getElem?_toArray, List.getElem?_cons_zero, List.getElem?_cons_succ]; rfl
      case hQz13 => exact fun _ _ _ h => h
      case hyz13 => refine yields_loadSP g (o + k * 32) (tKey.enc p) (by rw [tKey.len _ HPK.out]; exact aggKey) HC.out ?_ _ rfl rfl; rfl
      try simp only [Act.put, List.setIfInBounds_toArray, List.set_cons_zero, List.set_cons_succ]
      refine wpF_take (i := 5) (oi := ?oiz14) (v := ?vz14) ?hiz14 (by kernel_rfl) (by kernel_rfl) (by kernel_rfl) (by kernel_rfl) ?hQz14 ?hyz14 (by assumption) ?restz14
      case hiz14 => simp only [List.getElem?_toArray, List.getElem?_cons_zero, List.getElem?_cons_succ]; rfl
      case hQz14 => exact fun _ _ _ h => h
      case hyz14 => exact Or.inl ⟨by rfl, by intro w hSw; (try dsimp only at hSw); go_simp; with_reducible rfl⟩
      try simp only [Act.put, List.setIfInBounds_toArray, List.set_cons_zero, List.set_cons_succ]
      refine wpF_ready (rs := [6]) (by kernel_rfl) (by simp) (AllF.cons (o := ?oy156) ?hy156 (fun K hK => ?sy156) AllF.nil)
      case hy156 => simp only [List.getElem?_toArray, List.getElem?_cons_zero, List.getElem?_cons_succ]; rfl
      go_simp
      refine (hPA.out _).mono ?_
      rintro e w5 ⟨rfl, hx⟩
      have hH2 := hHeld.trans hx
      refine hK.out _ _ (fun _ _ => hH2) ?_
      clear hHeld hK K hx
      have hHeld := hH2
      clear hH2
      try simp only [Act.put, List.setIfInBounds_toArray, List.set_cons_zero, List.set_cons_succ]
      refine wpF_take (i := 7) (oi := ?oiz16) (v := ?vz16) ?hiz16 (by kernel_rfl) (by kernel_rfl) (by kernel_rfl) (by kernel_rfl) ?hQz16 ?hyz16 (by assumption) ?restz16
      case hiz16 => simp only [List.getElem?_toArray, List.getElem?_cons_zero, List.getElem?_cons_succ]; rfl
      case hQz16 => exact fun _ _ _ h => h
      case hyz16 => exact Or.inl ⟨by rfl, by intro w hSw; (try dsimp only at hSw); go_simp; with_reducible rfl⟩
      try simp only [Act.put, List.setIfInBounds_toArray, List.set_cons_zero, List.set_cons_succ]
      refine wpF_take (i := 8) (oi := ?oiz17) (v := ?vz17) ?hiz17 (by kernel_rfl) (by kernel_rfl) (by kernel_rfl) (by kernel_rfl) ?hQz17 ?hyz17 (by assumption) ?restz17
      case hiz17 => simp only [List.getElem?_toArray, List.getElem?_cons_zero, List.getElem?_cons_succ]; rfl
      case hQz17 => exact fun _ _ _ h => h
      case hyz17 => exact Or.inl ⟨by rfl, by intro w hSw; (try dsimp only at hSw); go_simp; with_reducible rfl⟩
      try simp only [Act.put, List.setIfInBounds_toArray, List.set_cons_zero, List.set_cons_succ]
      refine wpF_ready (rs := [9]) (by kernel_rfl) (by simp) (AllF.cons (o := ?oy189) ?hy189 (fun K hK => ?sy189) AllF.nil)
      case hy189 => simp only [List.getElem?_toArray, List.getElem?_cons_zero, List.getElem?_cons_succ]; rfl
      go_simp
      refine (nodeKey_any pl pr HKL.out HKR.out _).mono ?_
      rintro e w6 ⟨rfl, hx⟩
      have hH2 := hHeld.trans hx
      refine hK.out _ _ (fun _ _ => hH2) ?_
      have HH := Lib.hid hH2
      clear hHeld hK K hx hH2
      try simp only [Act.put, List.setIfInBounds_toArray, List.set_cons_zero, List.set_cons_succ]
      refine wpF_ready (rs := [10]) (by kernel_rfl) (by simp) (AllF.cons (o := ?oy1910) ?hy1910 (fun K hK => ?sy1910) AllF.nil)
      case hy1910 => simp only [List.getElem?_toArray, List.getElem?_cons_zero, List.getElem?_cons_succ]; rfl
      have B5 := B2.out.ext HH.out
      refine stp_storeP (off := 0) B5 aggKey (St.nums HND.out.1) (by omega) rfl _ _ rfl rfl rfl rfl ?_
      rw [splice_all _ _ (by rw [Array.length_toList, hsz, (St.nums (k := .u8) HND.out.1).size])]
      have e9 : (numsA .u8 (ndK pl pr)).toList.toArray = numsA .u8 (ndK pl pr) := by simp
      rw [e9]
      have HX8 := Lib.hid ((HX.out.trans HH.out).setRow (g := w.heap.size + 1) (by omega) (numsA .u8 (ndK pl pr)))
      have B28 := Lib.hid (B5.setRow (numsA .u8 (ndK pl pr)))
      have B18 := Lib.hid ((B1.out.ext HH.out).row_far (g' := w.heap.size + 1) (by omega) (numsA .u8 (ndK pl pr)))
      have HO8 := Lib.hid ((HOW.out.ext HH.out).kept (row := some (w.heap.size + 1)) (stRowK _ _ (numsA .u8 (ndK pl pr))) (.inr fun e => HOW.out.far_of_lt (Nat.lt_succ_self _) e.symm))
      refine hK.out _ _ (fun h => absurd (by decide) h) ?_
      clear hK K e9
      try simp only [Act.put, List.setIfInBounds_toArray, List.set_cons_zero, List.set_cons_succ]
      refine wpF_done (by kernel_rfl) ?_ _
      go_wp2
      go_roundw
      case rel => exact ⟨k + 1, by have := HLT.out; omega, by go_num, B18.out, by rw [HST.out]; exact B28.out, HO8.out, HX8.out⟩
      case measure => simp [intOf]; omega
    · obtain rfl : k = m := by omega
      have HE := Lib.hid (show chk leaf (ps.take k) (bs.take k) = chk leaf ps bs by rw [List.take_of_length_le (by rw [HM.out]; omega), List.take_of_length_le (by rw [← HLN.out, HM.out]; omega)])
      rw [HE.out] at B2 HCK
      obtain ⟨x, hx⟩ : ∃ x, chk leaf ps bs = x := ⟨_, rfl⟩
      rw [hx] at B2 HCK
      have HXX := Lib.hid hx
      have hsx := sizeN (k := .u8) HCK.out.1
      have heq := run_eqKey x root HCK.out HRT.out
      clear HE hx
      go_wp2_with (first
        | (refine wpl_loadB B1.out aggKey hsr rfl _ rfl rfl ?_)
        | (refine wpl_loadB B2.out aggKey hsx rfl _ rfl rfl ?_))
      go_ret2
      exact ⟨by rw [HXX.out]; rfl, HX.out⟩
end Go.Proofs.Ytdjclllnmclocaa
/- Two variables of a struct's type, made and filled at once. No condition. -/
namespace Go.Proofs.Ytdjclllnmclocaa
open Go.RowKit Go.BigFrame
set_option linter.unusedVariables false
set_option linter.unusedSimpArgs false

theorem setRow_alloc2 (w : World) (cs cs' : Array Value) (t : TypeId) (o : Obj) : ((w.alloc (.cells cs t)).alloc o).setRow w.heap.size cs' = (w.alloc (.cells cs' t)).alloc o := by
  unfold World.setRow World.alloc
  congr 1
  apply Array.ext
  · simp
  · intro i h1 h2
    simp only [Array.getElem_modify, Array.getElem_push, Array.size_push]
    by_cases h : i < w.heap.size
    · have hne : w.heap.size ≠ i := by omega
      simp [h, hne, Nat.lt_succ_of_lt h]
    · by_cases h3 : w.heap.size = i
      · subst h3
        simp
      · simp [h3, h]
        split
        · omega
        · rfl
theorem wpl_two {P : Program} {ops : Array Oper} {rest : List Oper} {o1 o2 o3 o4 : Oper} {a : Act} {w : World} {Q : Exit → Act → World → Prop} {t n : Nat} {Z cs1 cs2 : Array Value} (ht : Agg P t n) (hs1 : St n cs1) (hs2 : St n cs2) (hz : (P.info? t).map (·.zero) = some (some (.agg Z))) (hZ : Z.size = n)
    (g1 : o1.guard = none) (p1 : o1.op = .alloc t) (g2 : o2.guard = none) (p2 : o2.op = .alloc t) (g3 : o3.guard = none) (x3 y3 : Operand) (p3 : o3.op = .store t x3 y3) (d3 : o3.dst = none) (g4 : o4.guard = none) (x4 y4 : Operand) (p4 : o4.op = .store t x4 y4) (d4 : o4.dst = none)
    (e3 : ((a.put o1.dst (.pointer (some ⟨w.heap.size, 0, none⟩))).put o2.dst (.pointer (some ⟨w.heap.size + 1, 0, none⟩))).eval x3 = .pointer (some ⟨w.heap.size, 0, none⟩))
    (f3 : ((a.put o1.dst (.pointer (some ⟨w.heap.size, 0, none⟩))).put o2.dst (.pointer (some ⟨w.heap.size + 1, 0, none⟩))).eval y3 = .agg cs1)
    (e4 : ((a.put o1.dst (.pointer (some ⟨w.heap.size, 0, none⟩))).put o2.dst (.pointer (some ⟨w.heap.size + 1, 0, none⟩))).eval x4 = .pointer (some ⟨w.heap.size + 1, 0, none⟩))
    (f4 : ((a.put o1.dst (.pointer (some ⟨w.heap.size, 0, none⟩))).put o2.dst (.pointer (some ⟨w.heap.size + 1, 0, none⟩))).eval y4 = .agg cs2)
    (h : wpList P ops Q rest ((a.put o1.dst (.pointer (some ⟨w.heap.size, 0, none⟩))).put o2.dst (.pointer (some ⟨w.heap.size + 1, 0, none⟩))) ((w.alloc (.cells cs1 t)).alloc (.cells cs2 t))) :
    wpList P ops Q (o1 :: o2 :: o3 :: o4 :: rest) a w := by
  have hsz : (w.alloc (.cells Z t)).heap.size = w.heap.size + 1 := by simp
  have hsz1 : (w.alloc (.cells cs1 t)).heap.size = w.heap.size + 1 := by simp
  refine wpl_alloc Z hz g1 p1 ?_
  refine wpl_alloc Z hz g2 p2 ?_
  rw [hsz]
  refine wpl_storeB ((Blk.new w t Z).alloc _) ht hs1 hZ g3 x3 y3 p3 e3 f3 d3 ?_
  rw [setRow_alloc2]
  refine wpl_storeB (g := w.heap.size + 1) (e := t) (cur := Z) (by have := Blk.new (w.alloc (.cells cs1 t)) t Z; rwa [hsz1] at this) ht hs2 hZ g4 x4 y4 p4 e4 f4 d4 ?_
  have := setRow_alloc (w.alloc (.cells cs1 t)) Z cs2 t
  rw [hsz1] at this
  rw [this]
  exact h
/-- the same load where a guard lets it by -/
theorem wpl_loadBW {P : Program} {ops : Array Oper} {rest : List Oper} {o : Oper} {a : Act} {w : World} {Q : Exit → Act → World → Prop} {t g e n : Nat} {cs : Array Value} (hb : Blk w g e cs) (ht : Agg P t n) (hn : cs.size = n) (hw : Region.wanted o (yielded ops a.tmps) = true) (x : Operand) (ho : o.op = .load t x) (hx : a.eval x = .pointer (some ⟨g, 0, none⟩))
    (h : wpList P ops Q rest (a.put o.dst (.agg cs)) w) : wpList P ops Q (o :: rest) a w := by
  refine wpList_want hw fun K hK => ?_
  unfold Oper.wp execOp
  simp only [ho, hx, Instr.loadAt, Instr.sureAddr, Sem.run_bind, Sem.run_pure, Result.andThen_ok, run_loadB hb ht hn]
  exact hK _ _ h
end Go.Proofs.Ytdjclllnmclocaa
