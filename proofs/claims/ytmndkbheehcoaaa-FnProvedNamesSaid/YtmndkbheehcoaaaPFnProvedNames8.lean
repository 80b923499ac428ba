/- What the walk of the law FnProvedNames needs, part 8 of 9. No condition. -/
import Derived.Test.YtmndkbheehcoaaaPFnProvedNames7
/- Two unlike nodes with one key that a path shows: the reference. No condition. -/
namespace Go.Proofs.Ytmndkbheehcoaaa
open Go.RowKit
set_option linter.unusedVariables false
set_option linter.unusedSimpArgs false

theorem ckF_no (s : ByteArray) (P : List Nd) : ∀ (due : List Int) (c2 : ByteArray), ckF s due P = (false, c2, true) → c2 = ⟨#[]⟩ := by
  induction P with
  | nil =>
    intro due c2 h
    rw [ckF_nil] at h
    injection h with h1 h2
    injection h2 with h2 h3
    exact h2.symm
  | cons x r ih =>
    intro due c2 h
    rw [ckF_cons] at h
    by_cases h1 : hashL 5 (nodeL x) = due
    · by_cases h2 : x.n = s
      · rw [ckS_hit _ _ h1 h2] at h
        injection h with h3 h4
        injection h4 with h4 h5
        rw [h3] at h5
        cases h5
      · rw [ckS_on _ _ h1 h2] at h
        exact ih _ _ h
    · rw [ckS_bad _ _ h1] at h
      injection h with h3 h4
      injection h4 with h4 h5
      cases h5
theorem own_blk {w : World} {e base : Nat} {A : Option Addr} {n q : Nat} {xs : List Nd} (h : Own tNd e w base (.slice A n q) xs) (i : Nat) (hi : i < xs.length) :
    ∃ g cur, A = some ⟨g, 0, none⟩ ∧ base ≤ g ∧ Blk w g e cur ∧ ∀ j u, xs[i].enc[j]? = some u → cur[i * 66 + j]? = some u := by
  obtain ⟨A', c', e0, _, _, hrd, hok⟩ := h.rd
  injection e0 with e1 e2 e3
  subst e1
  obtain ⟨g', o', e4, _, hc⟩ := hrd.elem hok i hi
  rcases h.1.2 with ⟨e5, h0⟩ | ⟨g, cap, cur, e5, hb, hg, _⟩
  · omega
  · injection e5 with e6 e7 e8
    rw [e4] at e6
    injection e6 with e6
    injection e6 with e9 e10 e11
    subst e9 e10
    refine ⟨g', cur, e4, hb, hg, fun j u hu => ?_⟩
    have h1 := hc j u hu
    rw [Nat.zero_add] at h1
    rw [← (show Blk w g' e cur from hg).cell]
    exact h1
theorem wpl_storeNewG {P : Program} {ops : Array Oper} {rest : List Oper} {o : Oper} {a : Act} {w : World} {Q : Exit → Act → World → Prop} {t e n g : Nat} {cs cur : Array Value} (hg : g = w.heap.size) (ht : Agg P t n) (hs : St n cs) (hl : cur.size = n) (hgd : o.guard = none) (x y : Operand) (ho : o.op = .store t x y) (hx : a.eval x = .pointer (some ⟨g, 0, none⟩))
    (hy : a.eval y = .agg cs) (hd : o.dst = none) (h : wpList P ops Q rest a (w.alloc (.cells cs e))) : wpList P ops Q (o :: rest) a (w.alloc (.cells cur e)) := by
  subst hg
  exact wpl_storeNewB ht hs hl hgd x y ho hx hy hd h
theorem stp_storeB {P : Program} {ops : Array Oper} {o : Oper} {a : Act} {w : World} {K : Act → World → Prop} {Q : Exit → Act → World → Prop} {E : Prop} {t g e n : Nat} {cs cur : Array Value} (hb : Blk w g e cur) (ht : Agg P t n) (hs : St n cs) (hl : cur.size = n) (hgd : o.guard = none) (x y : Operand) (ho : o.op = .store t x y)
    (hx : a.eval x = .pointer (some ⟨g, 0, none⟩)) (hy : a.eval y = .agg cs) (hd : o.dst = none) (h : K a (w.setRow g cs)) :
    if Region.wanted o (yielded ops a.tmps) = true then Oper.wp P o a w K Q else E := by
  refine stp_storeP hb ht hs (by omega) hgd x y ho hx hy hd ?_
  rw [splice_all _ _ (by rw [Array.length_toList, hs.size]; omega)]
  simpa using h
set_option maxHeartbeats 8000000 in
set_option maxRecDepth 100000 in
theorem specClash_any (v u : Value) (L : List En) (s : ByteArray) (hs : s.size ≤ 140737488351232) (P : List Nd) (w : World) (S S' : Nat → Prop) (h : RdL tEnt w S v L) (h' : RdL tNd w S' u P) :
    Calls Try.prog 14 #[v, .string s, u] w fun e w' => e = .returned (.tuple #[.agg (clR L s P).1.enc.toArray, .agg (clR L s P).2.1.enc.toArray, .int .i64 (clR L s P).2.2]) ∧ Ext w w' := by
  have H := Lib.hid h
  have H' := Lib.hid h'
  have hokL := h.choose_spec.choose_spec.2.2.2.2
  have hokP := Lib.hid h'.choose_spec.choose_spec.2.2.2.2
  have hc := fun W hW => l04Ok_any v L W S hW
  have hn := l04Name_any s hs
  have ha := fun W hW => l04Given_any u P W S' hW
  have HZ := Lib.hid (Nd.st zeroN_ok)
  have hne : w.heap.size ≠ w.heap.size + 1 := by omega
  have hne' : w.heap.size + 1 ≠ w.heap.size := by omega
  obtain ⟨A, cap, rfl, hcap, hlen, _⟩ := h
  obtain ⟨A', cap', rfl, hcap', hlen', _⟩ := h'
  cases hb : okE L with
  | false =>
    have e0 : clR L s P = (zeroN, zeroN, 1) := clR_bad (by rw [hb]; rfl)
    simp only [e0]
    simp only [hb] at hc
    clear hb e0 hokL ha
    go_enter Try.func14, Try.ntmps14
    go_wp2_with (first
      | (refine wpl_buildN rfl rfl built_zero ?_)
      | (refine wpl_storeNewG (by simp) aggNodeI HZ.out rfl rfl _ _ rfl rfl rfl rfl ?_))
    refine (hc _ (H.out.ext (by decide) (((ext_alloc _ _).alloc _).alloc _))).mono ?_
    rintro e w2 ⟨rfl, hx⟩
    have B6 := Lib.hid ((((Blk.new w 31 _).alloc _).alloc _).ext hx)
    have B7 := Lib.hid (((Blk.new' (g := w.heap.size + 1) (by simp) 31 _).alloc _).ext hx)
    have B9 := Lib.hid ((Blk.new' (g := w.heap.size + 2) (by simp) 31 _).ext hx)
    have XW := Lib.hid ((((ext_alloc w _).alloc _).alloc _).trans hx)
    clear hx
    go_wp2_with fail
    refine wp_region_held_drew (S := fun W => Ext w W ∧ Blk W (w.heap.size + 2) 31 zeroN.enc.toArray) (by kernel_rfl) ⟨XW.out.drew, B9.out.drewN 1⟩ (fun hHeld => ?_)
    have D6 := Lib.hid (show Blk w2.drew w.heap.size 31 _ from B6.out.drewN 1)
    have D7 := Lib.hid (show Blk w2.drew (w.heap.size + 1) 31 _ from B7.out.drewN 1)
    generalize w2.drew = w9 at hHeld D6 D7 ⊢
    refine wpAnyH_take (i := 0) (oi := ?oiz1) (v := (.agg zeroN.enc.toArray)) ?hiz1 (by kernel_rfl) (by kernel_rfl) (by kernel_rfl) ?hQz1 ?hyz1 (by assumption) ?restz1
    case hiz1 => simp only [List.getElem?_toArray, List.getElem?_cons_zero, List.getElem?_cons_succ]; rfl
    case hQz1 => exact fun _ _ _ h => h
    case hyz1 => refine yields_loadS (w.heap.size + 2) 0 zeroN.enc (by rw [Nd.enc_length zeroN_ok]; exact aggNodeI) (fun W hW j u hu => by rw [Nat.zero_add]; exact hW.2.at_ j (by rw [List.getElem?_toArray]; exact hu)) ?_ _ rfl rfl; rfl
    try simp only [Act.put, List.setIfInBounds_toArray, List.set_cons_zero, List.set_cons_succ]
    refine wpAnyH_take (i := 1) (oi := ?oiz2) (v := (.agg zeroN.enc.toArray)) ?hiz2 (by kernel_rfl) (by kernel_rfl) (by kernel_rfl) ?hQz2 ?hyz2 (by assumption) ?restz2
    case hiz2 => simp only [List.getElem?_toArray, List.getElem?_cons_zero, List.getElem?_cons_succ]; rfl
    case hQz2 => exact fun _ _ _ h => h
    case hyz2 => refine yields_loadS (w.heap.size + 2) 0 zeroN.enc (by rw [Nd.enc_length zeroN_ok]; exact aggNodeI) (fun W hW j u hu => by rw [Nat.zero_add]; exact hW.2.at_ j (by rw [List.getElem?_toArray]; exact hu)) ?_ _ rfl rfl; rfl
    try simp only [Act.put, List.setIfInBounds_toArray, List.set_cons_zero, List.set_cons_succ]
    refine wpAnyH_ready (rs := [2]) (by kernel_rfl) (by simp) (AllReadyH.cons (o := ?oy3) ?hy3 (fun K hK => ?sy3) AllReadyH.nil)
    case hy3 => simp only [List.getElem?_toArray, List.getElem?_cons_zero, List.getElem?_cons_succ]; rfl
    refine stp_storeB D6.out aggNodeI HZ.out rfl rfl _ _ rfl rfl rfl rfl ?_
    have hH2 := And.intro (hHeld.1.setRow (Nat.le_refl _) zeroN.enc.toArray) (hHeld.2.row_far (show w.heap.size + 2 ≠ w.heap.size by omega) zeroN.enc.toArray)
    refine hK.out _ _ hH2 (fun _ => ?_)
    have E6 := Lib.hid (D6.out.setRow zeroN.enc.toArray)
    have E7 := Lib.hid (D7.out.row_far hne' zeroN.enc.toArray)
    clear hK K hHeld D6 D7
    try simp only [Act.put, List.setIfInBounds_toArray, List.set_cons_zero, List.set_cons_succ]
    refine wpAnyH_ready (rs := [3]) (by kernel_rfl) (by simp) (AllReadyH.cons (o := ?oy4) ?hy4 (fun K hK => ?sy4) AllReadyH.nil)
    case hy4 => simp only [List.getElem?_toArray, List.getElem?_cons_zero, List.getElem?_cons_succ]; rfl
    refine stp_storeB E7.out aggNodeI HZ.out rfl rfl _ _ rfl rfl rfl rfl ?_
    have hH3 := And.intro (hH2.1.setRow (Nat.le_succ _) zeroN.enc.toArray) (hH2.2.row_far (show w.heap.size + 2 ≠ w.heap.size + 1 by omega) zeroN.enc.toArray)
    refine hK.out _ _ hH3 (fun _ => ?_)
    have F6 := Lib.hid (E6.out.row_far hne zeroN.enc.toArray)
    have F7 := Lib.hid (E7.out.setRow zeroN.enc.toArray)
    have FX := Lib.hid hH3.1
    clear hK K hH2 hH3 E6 E7
    try simp only [Act.put, List.setIfInBounds_toArray, List.set_cons_zero, List.set_cons_succ]
    refine wpAnyH_take (i := 4) (oi := ?oiz5) (v := ?vz5) ?hiz5 (by kernel_rfl) (by kernel_rfl) (by kernel_rfl) ?hQz5 ?hyz5 (by assumption) ?restz5
    case hiz5 => simp only [List.getElem?_toArray, List.getElem?_cons_zero, List.getElem?_cons_succ]; rfl
    case hQz5 => exact fun _ _ _ h => h
    case hyz5 => exact Or.inl ⟨by rfl, by intro w hSw; (try dsimp only at hSw); go_simp; with_reducible rfl⟩
    try simp only [Act.put, List.setIfInBounds_toArray, List.set_cons_zero, List.set_cons_succ]
    refine wpAnyH_done (by kernel_rfl) ?_ _
    go_wp2
    refine bodyPost_ret (results_bbt rfl _ rfl rfl aggNodeI HZ.out.size HZ.out.size F6.out F7.out rfl) rfl ?_
    exact ⟨rfl, FX.out⟩
  | true =>
    simp only [hb] at hc
    cases hb2 : nameB s with
    | false =>
      have e0 : clR L s P = (zeroN, zeroN, 1) := clR_bad (by rw [hb, hb2]; rfl)
      simp only [e0]
      simp only [hb2] at hn
      clear hb hb2 e0 hokL ha
      go_enter Try.func14, Try.ntmps14
      go_wp2_with (first
        | (refine wpl_buildN rfl rfl built_zero ?_)
        | (refine wpl_storeNewG (by simp) aggNodeI HZ.out rfl rfl _ _ rfl rfl rfl rfl ?_))
      refine (hc _ (H.out.ext (by decide) (((ext_alloc _ _).alloc _).alloc _))).mono ?_
      rintro e w2 ⟨rfl, hx⟩
      have B6 := Lib.hid ((((Blk.new w 31 _).alloc _).alloc _).ext hx)
      have B7 := Lib.hid (((Blk.new' (g := w.heap.size + 1) (by simp) 31 _).alloc _).ext hx)
      have B9 := Lib.hid ((Blk.new' (g := w.heap.size + 2) (by simp) 31 _).ext hx)
      have XW := Lib.hid ((((ext_alloc w _).alloc _).alloc _).trans hx)
      clear hx
      go_wp2_with fail
      refine (hn _).mono ?_
      rintro e w' ⟨rfl, rfl⟩
      go_wp2_with fail
      refine wp_region_held_drew (S := fun W => Ext w W ∧ Blk W (w.heap.size + 2) 31 zeroN.enc.toArray) (by kernel_rfl) ⟨XW.out.drew, B9.out.drewN 1⟩ (fun hHeld => ?_)
      have D6 := Lib.hid (show Blk w2.drew w.heap.size 31 _ from B6.out.drewN 1)
      have D7 := Lib.hid (show Blk w2.drew (w.heap.size + 1) 31 _ from B7.out.drewN 1)
      generalize w2.drew = w9 at hHeld D6 D7 ⊢
      refine wpAnyH_take (i := 0) (oi := ?oiz6) (v := (.agg zeroN.enc.toArray)) ?hiz6 (by kernel_rfl) (by kernel_rfl) (by kernel_rfl) ?hQz6 ?hyz6 (by assumption) ?restz6
      case hiz6 => simp only [List.getElem?_toArray, List.getElem?_cons_zero, List.getElem?_cons_succ]; rfl
      case hQz6 => exact fun _ _ _ h => h
      case hyz6 => refine yields_loadS (w.heap.size + 2) 0 zeroN.enc (by rw [Nd.enc_length zeroN_ok]; exact aggNodeI) (fun W hW j u hu => by rw [Nat.zero_add]; exact hW.2.at_ j (by rw [List.getElem?_toArray]; exact hu)) ?_ _ rfl rfl; rfl
      try simp only [Act.put, List.setIfInBounds_toArray, List.set_cons_zero, List.set_cons_succ]
      refine wpAnyH_take (i := 1) (oi := ?oiz7) (v := (.agg zeroN.enc.toArray)) ?hiz7 (by kernel_rfl) (by kernel_rfl) (by kernel_rfl) ?hQz7 ?hyz7 (by assumption) ?restz7
      case hiz7 => simp only [List.getElem?_toArray, List.getElem?_cons_zero, List.getElem?_cons_succ]; rfl
      case hQz7 => exact fun _ _ _ h => h
      case hyz7 => refine yields_loadS (w.heap.size + 2) 0 zeroN.enc (by rw [Nd.enc_length zeroN_ok]; exact aggNodeI) (fun W hW j u hu => by rw [Nat.zero_add]; exact hW.2.at_ j (by rw [List.getElem?_toArray]; exact hu)) ?_ _ rfl rfl; rfl
      try simp only [Act.put, List.setIfInBounds_toArray, List.set_cons_zero, List.set_cons_succ]
      refine wpAnyH_ready (rs := [2]) (by kernel_rfl) (by simp) (AllReadyH.cons (o := ?oy8) ?hy8 (fun K hK => ?sy8) AllReadyH.nil)
      case hy8 => simp only [List.getElem?_toArray, List.getElem?_cons_zero, List.getElem?_cons_succ]; rfl
      refine stp_storeB D6.out aggNodeI HZ.out rfl rfl _ _ rfl rfl rfl rfl ?_
      have hH2 := And.intro (hHeld.1.setRow (Nat.le_refl _) zeroN.enc.toArray) (hHeld.2.row_far (show w.heap.size + 2 ≠ w.heap.size by omega) zeroN.enc.toArray)
      refine hK.out _ _ hH2 (fun _ => ?_)
      have E6 := Lib.hid (D6.out.setRow zeroN.enc.toArray)
      have E7 := Lib.hid (D7.out.row_far hne' zeroN.enc.toArray)
      clear hK K hHeld D6 D7
      try simp only [Act.put, List.setIfInBounds_toArray, List.set_cons_zero, List.set_cons_succ]
      refine wpAnyH_ready (rs := [3]) (by kernel_rfl) (by simp) (AllReadyH.cons (o := ?oy9) ?hy9 (fun K hK => ?sy9) AllReadyH.nil)
      case hy9 => simp only [List.getElem?_toArray, List.getElem?_cons_zero, List.getElem?_cons_succ]; rfl
      refine stp_storeB E7.out aggNodeI HZ.out rfl rfl _ _ rfl rfl rfl rfl ?_
      have hH3 := And.intro (hH2.1.setRow (Nat.le_succ _) zeroN.enc.toArray) (hH2.2.row_far (show w.heap.size + 2 ≠ w.heap.size + 1 by omega) zeroN.enc.toArray)
      refine hK.out _ _ hH3 (fun _ => ?_)
      have F6 := Lib.hid (E6.out.row_far hne zeroN.enc.toArray)
      have F7 := Lib.hid (E7.out.setRow zeroN.enc.toArray)
      have FX := Lib.hid hH3.1
      clear hK K hH2 hH3 E6 E7
      try simp only [Act.put, List.setIfInBounds_toArray, List.set_cons_zero, List.set_cons_succ]
      refine wpAnyH_take (i := 4) (oi := ?oiz10) (v := ?vz10) ?hiz10 (by kernel_rfl) (by kernel_rfl) (by kernel_rfl) ?hQz10 ?hyz10 (by assumption) ?restz10
      case hiz10 => simp only [List.getElem?_toArray, List.getElem?_cons_zero, List.getElem?_cons_succ]; rfl
      case hQz10 => exact fun _ _ _ h => h
      case hyz10 => exact Or.inl ⟨by rfl, by intro w hSw; (try dsimp only at hSw); go_simp; with_reducible rfl⟩
      try simp only [Act.put, List.setIfInBounds_toArray, List.set_cons_zero, List.set_cons_succ]
      refine wpAnyH_done (by kernel_rfl) ?_ _
      go_wp2
      refine bodyPost_ret (results_bbt rfl _ rfl rfl aggNodeI HZ.out.size HZ.out.size F6.out F7.out rfl) rfl ?_
      exact ⟨rfl, FX.out⟩
    | true =>
      simp only [hb2] at hn
      cases hb3 : okNs P with
      | false =>
        have e0 : clR L s P = (zeroN, zeroN, 1) := clR_bad (by rw [hb, hb2, hb3]; rfl)
        simp only [e0]
        simp only [givenR, hb3, Bool.false_eq_true, if_false] at ha
        clear hb hb2 hb3 e0 hokL
        go_enter Try.func14, Try.ntmps14
        go_wp2_with (first
          | (refine wpl_buildN rfl rfl built_zero ?_)
          | (refine wpl_storeNewG (by simp) aggNodeI HZ.out rfl rfl _ _ rfl rfl rfl rfl ?_))
        refine (hc _ (H.out.ext (by decide) (((ext_alloc _ _).alloc _).alloc _))).mono ?_
        rintro e w2 ⟨rfl, hx⟩
        have B6 := Lib.hid ((((Blk.new w 31 _).alloc _).alloc _).ext hx)
        have B7 := Lib.hid (((Blk.new' (g := w.heap.size + 1) (by simp) 31 _).alloc _).ext hx)
        have B9 := Lib.hid ((Blk.new' (g := w.heap.size + 2) (by simp) 31 _).ext hx)
        have XW := Lib.hid ((((ext_alloc w _).alloc _).alloc _).trans hx)
        clear hx
        go_wp2_with fail
        refine (hn _).mono ?_
        rintro e w' ⟨rfl, rfl⟩
        go_wp2_with fail
        refine (ha _ (H'.out.ext (by decide) XW.out)).mono ?_
        rintro e w2 ⟨rfl, hx⟩
        replace B6 := Lib.hid (B6.out.ext hx)
        replace B7 := Lib.hid (B7.out.ext hx)
        replace B9 := Lib.hid (B9.out.ext hx)
        replace XW := Lib.hid (XW.out.trans hx)
        clear hx
        go_wp2_with fail
        refine wp_region_held_drew (S := fun W => Ext w W ∧ Blk W (w.heap.size + 2) 31 zeroN.enc.toArray) (by kernel_rfl) ⟨XW.out.drew, B9.out.drewN 1⟩ (fun hHeld => ?_)
        have D6 := Lib.hid (show Blk w2.drew w.heap.size 31 _ from B6.out.drewN 1)
        have D7 := Lib.hid (show Blk w2.drew (w.heap.size + 1) 31 _ from B7.out.drewN 1)
        generalize w2.drew = w9 at hHeld D6 D7 ⊢
        refine wpAnyH_take (i := 0) (oi := ?oiz11) (v := (.agg zeroN.enc.toArray)) ?hiz11 (by kernel_rfl) (by kernel_rfl) (by kernel_rfl) ?hQz11 ?hyz11 (by assumption) ?restz11
        case hiz11 => simp only [List.getElem?_toArray, List.getElem?_cons_zero, List.getElem?_cons_succ]; rfl
        case hQz11 => exact fun _ _ _ h => h
        case hyz11 => refine yields_loadS (w.heap.size + 2) 0 zeroN.enc (by rw [Nd.enc_length zeroN_ok]; exact aggNodeI) (fun W hW j u hu => by rw [Nat.zero_add]; exact hW.2.at_ j (by rw [List.getElem?_toArray]; exact hu)) ?_ _ rfl rfl; rfl
        try simp only [Act.put, List.setIfInBounds_toArray, List.set_cons_zero, List.set_cons_succ]
        refine wpAnyH_take (i := 1) (oi := ?oiz12) (v := (.agg zeroN.enc.toArray)) ?hiz12 (by kernel_rfl) (by kernel_rfl) (by kernel_rfl) ?hQz12 ?hyz12 (by assumption) ?restz12
        case hiz12 => simp only [List.getElem?_toArray, List.getElem?_cons_zero, List.getElem?_cons_succ]; rfl
        case hQz12 => exact fun _ _ _ h => h
        case hyz12 => refine yields_loadS (w.heap.size + 2) 0 zeroN.enc (by rw [Nd.enc_length zeroN_ok]; exact aggNodeI) (fun W hW j u hu => by rw [Nat.zero_add]; exact hW.2.at_ j (by rw [List.getElem?_toArray]; exact hu)) ?_ _ rfl rfl; rfl
        try simp only [Act.put, List.setIfInBounds_toArray, List.set_cons_zero, List.set_cons_succ]
        refine wpAnyH_take (i := 2) (oi := ?oiz13) (v := ?vz13) ?hiz13 (by kernel_rfl) (by kernel_rfl) (by kernel_rfl) ?hQz13 ?hyz13 (by assumption) ?restz13
        case hiz13 => simp only [List.getElem?_toArray, List.getElem?_cons_zero, List.getElem?_cons_succ]; rfl
        case hQz13 => exact fun _ _ _ h => h
        case hyz13 => exact Or.inl ⟨by rfl, by intro w hSw; (try dsimp only at hSw); go_simp; with_reducible rfl⟩
        try simp only [Act.put, List.setIfInBounds_toArray, List.set_cons_zero, List.set_cons_succ]
        refine wpAnyH_ready (rs := [3]) (by kernel_rfl) (by simp) (AllReadyH.cons (o := ?oy14) ?hy14 (fun K hK => ?sy14) AllReadyH.nil)
        case hy14 => simp only [List.getElem?_toArray, List.getElem?_cons_zero, List.getElem?_cons_succ]; rfl
        refine stp_storeB D6.out aggNodeI HZ.out rfl rfl _ _ rfl rfl rfl rfl ?_
        have hH2 := And.intro (hHeld.1.setRow (Nat.le_refl _) zeroN.enc.toArray) (hHeld.2.row_far (show w.heap.size + 2 ≠ w.heap.size by omega) zeroN.enc.toArray)
        refine hK.out _ _ hH2 (fun _ => ?_)
        have E6 := Lib.hid (D6.out.setRow zeroN.enc.toArray)
        have E7 := Lib.hid (D7.out.row_far hne' zeroN.enc.toArray)
        clear hK K hHeld D6 D7
        try simp only [Act.put, List.setIfInBounds_toArray, List.set_cons_zero, List.set_cons_succ]
        refine wpAnyH_ready (rs := [4]) (by kernel_rfl) (by simp) (AllReadyH.cons (o := ?oy15) ?hy15 (fun K hK => ?sy15) AllReadyH.nil)
        case hy15 => simp only [List.getElem?_toArray, List.getElem?_cons_zero, List.getElem?_cons_succ]; rfl
        refine stp_storeB E7.out aggNodeI HZ.out rfl rfl _ _ rfl rfl rfl rfl ?_
        have hH3 := And.intro (hH2.1.setRow (Nat.le_succ _) zeroN.enc.toArray) (hH2.2.row_far (show w.heap.size + 2 ≠ w.heap.size + 1 by omega) zeroN.enc.toArray)
        refine hK.out _ _ hH3 (fun _ => ?_)
        have F6 := Lib.hid (E6.out.row_far hne zeroN.enc.toArray)
        have F7 := Lib.hid (E7.out.setRow zeroN.enc.toArray)
        have FX := Lib.hid hH3.1
        clear hK K hH2 hH3 E6 E7
        try simp only [Act.put, List.setIfInBounds_toArray, List.set_cons_zero, List.set_cons_succ]
        refine wpAnyH_take (i := 5) (oi := ?oiz16) (v := ?vz16) ?hiz16 (by kernel_rfl) (by kernel_rfl) (by kernel_rfl) ?hQz16 ?hyz16 (by assumption) ?restz16
        case hiz16 => simp only [List.getElem?_toArray, List.getElem?_cons_zero, List.getElem?_cons_succ]; rfl
        case hQz16 => exact fun _ _ _ h => h
        case hyz16 => exact Or.inl ⟨by rfl, by intro w hSw; (try dsimp only at hSw); go_simp; with_reducible rfl⟩
        try simp only [Act.put, List.setIfInBounds_toArray, List.set_cons_zero, List.set_cons_succ]
        refine wpAnyH_done (by kernel_rfl) ?_ _
        go_wp2
        refine bodyPost_ret (results_bbt rfl _ rfl rfl aggNodeI HZ.out.size HZ.out.size F6.out F7.out rfl) rfl ?_
        exact ⟨rfl, FX.out⟩
      | true =>
        have hall : (okE L && nameB s && okNs P) = true := by rw [hb, hb2, hb3]; rfl
        have HKK := Lib.hid (trF L.length L).key_ok.1
        have hnd := fun W hW => l04Nodes_any L.length (.slice A L.length cap) L (Nat.le_refl _) (okE_incs hb).2 (good_of hb hokL) W S hW
        have hk := fun W hW => l04Check_any (trF L.length L).key (Tr.key_ok _) s (.slice A' P.length cap') P hb3 W S' hW
        by_cases h64 : 64 < P.length
        · have hg3 : givenR P = 3 := by rw [givenR, hb3, if_pos rfl, if_pos h64]
          rw [hg3] at ha
          have h0 : (chkR (trF L.length L).key s P).2.2 ≠ 0 := by rw [chkR, hb2, hb3]; simp [h64]
          have e0 : clR L s P = (zeroN, zeroN, 4) := clR_off hall h0
          simp only [e0]
          obtain ⟨T, hT⟩ : ∃ T, trF L.length L = T := ⟨_, rfl⟩
          simp only [hT] at hnd hk HKK
          obtain ⟨c1, c2, c3, hck⟩ : ∃ c1 c2 c3, ckF s T.key P = (c1, c2, c3) := ⟨_, _, _, rfl⟩
          simp only [hck] at hk
          clear e0 h0 hck hT hg3 h64 hall hb hb2 hb3 hokL
          go_enter Try.func14, Try.ntmps14
          go_wp2_with (first
            | (refine wpl_buildN rfl rfl built_zero ?_)
            | (refine wpl_storeNewG (by simp) aggNodeI HZ.out rfl rfl _ _ rfl rfl rfl rfl ?_))
          refine (hc _ (H.out.ext (by decide) (((ext_alloc _ _).alloc _).alloc _))).mono ?_
          rintro e w2 ⟨rfl, hx⟩
          have B6 := Lib.hid ((((Blk.new w 31 _).alloc _).alloc _).ext hx)
          have B7 := Lib.hid (((Blk.new' (g := w.heap.size + 1) (by simp) 31 _).alloc _).ext hx)
          have B9 := Lib.hid ((Blk.new' (g := w.heap.size + 2) (by simp) 31 _).ext hx)
          have XW := Lib.hid ((((ext_alloc w _).alloc _).alloc _).trans hx)
          clear hx
          go_wp2_with fail
          refine (hn _).mono ?_
          rintro e w' ⟨rfl, rfl⟩
          go_wp2_with fail
          refine (ha _ (H'.out.ext (by decide) XW.out)).mono ?_
          rintro e w2 ⟨rfl, hx⟩
          replace B6 := Lib.hid (B6.out.ext hx)
          replace B7 := Lib.hid (B7.out.ext hx)
          replace B9 := Lib.hid (B9.out.ext hx)
          replace XW := Lib.hid (XW.out.trans hx)
          clear hx
          go_wp2_with fail
          refine (hnd _ (H.out.ext (by decide) XW.out)).mono ?_
          rintro e w2 ⟨v5, rfl, ho, hx⟩
          replace B6 := Lib.hid (B6.out.ext hx)
          replace B7 := Lib.hid (B7.out.ext hx)
          replace B9 := Lib.hid (B9.out.ext hx)
          replace XW := Lib.hid (XW.out.trans hx)
          obtain ⟨A5, n5, q5, rfl⟩ := ho.shape3
          clear ho hx
          go_wp2_with (first
            | (refine wpl_storeNew aggKey HKK.out rfl rfl _ _ rfl rfl rfl rfl ?_)
            | (refine wpl_loadN (Blk.new w2 27 _) aggKey HKK.out rfl _ rfl rfl ?_))
          refine (hk _ (H'.out.ext (by decide) (XW.out.alloc _))).mono ?_
          rintro e w2 ⟨rfl, hx⟩
          replace B6 := Lib.hid ((B6.out.alloc _).ext hx)
          replace B7 := Lib.hid ((B7.out.alloc _).ext hx)
          replace B9 := Lib.hid ((B9.out.alloc _).ext hx)
          replace XW := Lib.hid ((XW.out.alloc _).trans hx)
          clear hx
          go_wp2_with fail
          refine wp_region_held_drew (S := fun W => Ext w W ∧ Blk W (w.heap.size + 2) 31 zeroN.enc.toArray) (by kernel_rfl) ⟨XW.out.drew, B9.out.drewN 1⟩ (fun hHeld => ?_)
          have D6 := Lib.hid (show Blk w2.drew w.heap.size 31 _ from B6.out.drewN 1)
          have D7 := Lib.hid (show Blk w2.drew (w.heap.size + 1) 31 _ from B7.out.drewN 1)
          generalize w2.drew = w9 at hHeld D6 D7 ⊢
          refine wpAnyH_take (i := 0) (oi := ?oiz17) (v := (.agg zeroN.enc.toArray)) ?hiz17 (by kernel_rfl) (by kernel_rfl) (by kernel_rfl) ?hQz17 ?hyz17 (by assumption) ?restz17
          case hiz17 => simp only [List.getElem?_toArray, List.getElem?_cons_zero, List.getElem?_cons_succ]; rfl
          case hQz17 => exact fun _ _ _ h => h
          case hyz17 => refine yields_loadS (w.heap.size + 2) 0 zeroN.enc (by rw [Nd.enc_length zeroN_ok]; exact aggNodeI) (fun W hW j u hu => by rw [Nat.zero_add]; exact hW.2.at_ j (by rw [List.getElem?_toArray]; exact hu)) ?_ _ rfl rfl; rfl
          try simp only [Act.put, List.setIfInBounds_toArray, List.set_cons_zero, List.set_cons_succ]
          refine wpAnyH_take (i := 1) (oi := ?oiz18) (v := (.agg zeroN.enc.toArray)) ?hiz18 (by kernel_rfl) (by kernel_rfl) (by kernel_rfl) ?hQz18 ?hyz18 (by assumption) ?restz18
          case hiz18 => simp only [List.getElem?_toArray, List.getElem?_cons_zero, List.getElem?_cons_succ]; rfl
          case hQz18 => exact fun _ _ _ h => h
          case hyz18 => refine yields_loadS (w.heap.size + 2) 0 zeroN.enc (by rw [Nd.enc_length zeroN_ok]; exact aggNodeI) (fun W hW j u hu => by rw [Nat.zero_add]; exact hW.2.at_ j (by rw [List.getElem?_toArray]; exact hu)) ?_ _ rfl rfl; rfl
          try simp only [Act.put, List.setIfInBounds_toArray, List.set_cons_zero, List.set_cons_succ]
          refine wpAnyH_ready (rs := [2]) (by kernel_rfl) (by simp) (AllReadyH.cons (o := ?oy19) ?hy19 (fun K hK => ?sy19) AllReadyH.nil)
          case hy19 => simp only [List.getElem?_toArray, List.getElem?_cons_zero, List.getElem?_cons_succ]; rfl
          refine stp_storeB D6.out aggNodeI HZ.out rfl rfl _ _ rfl rfl rfl rfl ?_
          have hH2 := And.intro (hHeld.1.setRow (Nat.le_refl _) zeroN.enc.toArray) (hHeld.2.row_far (show w.heap.size + 2 ≠ w.heap.size by omega) zeroN.enc.toArray)
          refine hK.out _ _ hH2 (fun _ => ?_)
          have E6 := Lib.hid (D6.out.setRow zeroN.enc.toArray)
          have E7 := Lib.hid (D7.out.row_far hne' zeroN.enc.toArray)
          clear hK K hHeld D6 D7
          try simp only [Act.put, List.setIfInBounds_toArray, List.set_cons_zero, List.set_cons_succ]
          refine wpAnyH_ready (rs := [3]) (by kernel_rfl) (by simp) (AllReadyH.cons (o := ?oy20) ?hy20 (fun K hK => ?sy20) AllReadyH.nil)
          case hy20 => simp only [List.getElem?_toArray, List.getElem?_cons_zero, List.getElem?_cons_succ]; rfl
          refine stp_storeB E7.out aggNodeI HZ.out rfl rfl _ _ rfl rfl rfl rfl ?_
          have hH3 := And.intro (hH2.1.setRow (Nat.le_succ _) zeroN.enc.toArray) (hH2.2.row_far (show w.heap.size + 2 ≠ w.heap.size + 1 by omega) zeroN.enc.toArray)
          refine hK.out _ _ hH3 (fun _ => ?_)
          have F6 := Lib.hid (E6.out.row_far hne zeroN.enc.toArray)
          have F7 := Lib.hid (E7.out.setRow zeroN.enc.toArray)
          have FX := Lib.hid hH3.1
          clear hK K hH2 hH3 E6 E7
          try simp only [Act.put, List.setIfInBounds_toArray, List.set_cons_zero, List.set_cons_succ]
          refine wpAnyH_take (i := 4) (oi := ?oiz21) (v := ?vz21) ?hiz21 (by kernel_rfl) (by kernel_rfl) (by kernel_rfl) ?hQz21 ?hyz21 (by assumption) ?restz21
          case hiz21 => simp only [List.getElem?_toArray, List.getElem?_cons_zero, List.getElem?_cons_succ]; rfl
          case hQz21 => exact fun _ _ _ h => h
          case hyz21 => exact Or.inl ⟨by rfl, by intro w hSw; (try dsimp only at hSw); go_simp; with_reducible rfl⟩
          try simp only [Act.put, List.setIfInBounds_toArray, List.set_cons_zero, List.set_cons_succ]
          refine wpAnyH_done (by kernel_rfl) ?_ _
          go_wp2
          refine bodyPost_ret (results_bbt rfl _ rfl rfl aggNodeI HZ.out.size HZ.out.size F6.out F7.out rfl) rfl ?_
          exact ⟨rfl, FX.out⟩
        · have hg3 : givenR P = 0 := by rw [givenR, hb3, if_pos rfl, if_neg h64]
          rw [hg3] at ha
          obtain ⟨c1, c2, c3, hck⟩ : ∃ c1 c2 c3, ckF s (trF L.length L).key P = (c1, c2, c3) := ⟨_, _, _, rfl⟩
          simp only [hck] at hk
          cases c3 with
          | false =>
            have h0 : (chkR (trF L.length L).key s P).2.2 ≠ 0 := by rw [chkR, hb2, hb3]; simp [h64, hck]
            have e0 : clR L s P = (zeroN, zeroN, 4) := clR_off hall h0
            simp only [e0]
            obtain ⟨T, hT⟩ : ∃ T, trF L.length L = T := ⟨_, rfl⟩
            simp only [hT] at hnd hk HKK
            clear e0 h0 hck hT hg3 h64 hall hb hb2 hb3 hokL
            go_enter Try.func14, Try.ntmps14
            go_wp2_with (first
              | (refine wpl_buildN rfl rfl built_zero ?_)
              | (refine wpl_storeNewG (by simp) aggNodeI HZ.out rfl rfl _ _ rfl rfl rfl rfl ?_))
            refine (hc _ (H.out.ext (by decide) (((ext_alloc _ _).alloc _).alloc _))).mono ?_
            rintro e w2 ⟨rfl, hx⟩
            have B6 := Lib.hid ((((Blk.new w 31 _).alloc _).alloc _).ext hx)
            have B7 := Lib.hid (((Blk.new' (g := w.heap.size + 1) (by simp) 31 _).alloc _).ext hx)
            have B9 := Lib.hid ((Blk.new' (g := w.heap.size + 2) (by simp) 31 _).ext hx)
            have XW := Lib.hid ((((ext_alloc w _).alloc _).alloc _).trans hx)
            clear hx
            go_wp2_with fail
            refine (hn _).mono ?_
            rintro e w' ⟨rfl, rfl⟩
            go_wp2_with fail
            refine (ha _ (H'.out.ext (by decide) XW.out)).mono ?_
            rintro e w2 ⟨rfl, hx⟩
            replace B6 := Lib.hid (B6.out.ext hx)
            replace B7 := Lib.hid (B7.out.ext hx)
            replace B9 := Lib.hid (B9.out.ext hx)
            replace XW := Lib.hid (XW.out.trans hx)
            clear hx
            go_wp2_with fail
            refine (hnd _ (H.out.ext (by decide) XW.out)).mono ?_
            rintro e w2 ⟨v5, rfl, ho, hx⟩
            replace B6 := Lib.hid (B6.out.ext hx)
            replace B7 := Lib.hid (B7.out.ext hx)
            replace B9 := Lib.hid (B9.out.ext hx)
            replace XW := Lib.hid (XW.out.trans hx)
            obtain ⟨A5, n5, q5, rfl⟩ := ho.shape3
            clear ho hx
            go_wp2_with (first
              | (refine wpl_storeNew aggKey HKK.out rfl rfl _ _ rfl rfl rfl rfl ?_)
              | (refine wpl_loadN (Blk.new w2 27 _) aggKey HKK.out rfl _ rfl rfl ?_))
            refine (hk _ (H'.out.ext (by decide) (XW.out.alloc _))).mono ?_
            rintro e w2 ⟨rfl, hx⟩
            replace B6 := Lib.hid ((B6.out.alloc _).ext hx)
            replace B7 := Lib.hid ((B7.out.alloc _).ext hx)
            replace B9 := Lib.hid ((B9.out.alloc _).ext hx)
            replace XW := Lib.hid ((XW.out.alloc _).trans hx)
            clear hx
            go_wp2_with fail
            refine wp_region_held_drew (S := fun W => Ext w W ∧ Blk W (w.heap.size + 2) 31 zeroN.enc.toArray) (by kernel_rfl) ⟨XW.out.drew, B9.out.drewN 1⟩ (fun hHeld => ?_)
            have D6 := Lib.hid (show Blk w2.drew w.heap.size 31 _ from B6.out.drewN 1)
            have D7 := Lib.hid (show Blk w2.drew (w.heap.size + 1) 31 _ from B7.out.drewN 1)
            generalize w2.drew = w9 at hHeld D6 D7 ⊢
            refine wpAnyH_take (i := 0) (oi := ?oiz22) (v := (.agg zeroN.enc.toArray)) ?hiz22 (by kernel_rfl) (by kernel_rfl) (by kernel_rfl) ?hQz22 ?hyz22 (by assumption) ?restz22
            case hiz22 => simp only [List.getElem?_toArray, List.getElem?_cons_zero, List.getElem?_cons_succ]; rfl
            case hQz22 => exact fun _ _ _ h => h
            case hyz22 => refine yields_loadS (w.heap.size + 2) 0 zeroN.enc (by rw [Nd.enc_length zeroN_ok]; exact aggNodeI) (fun W hW j u hu => by rw [Nat.zero_add]; exact hW.2.at_ j (by rw [List.getElem?_toArray]; exact hu)) ?_ _ rfl rfl; rfl
            try simp only [Act.put, List.setIfInBounds_toArray, List.set_cons_zero, List.set_cons_succ]
            refine wpAnyH_take (i := 1) (oi := ?oiz23) (v := (.agg zeroN.enc.toArray)) ?hiz23 (by kernel_rfl) (by kernel_rfl) (by kernel_rfl) ?hQz23 ?hyz23 (by assumption) ?restz23
            case hiz23 => simp only [List.getElem?_toArray, List.getElem?_cons_zero, List.getElem?_cons_succ]; rfl
            case hQz23 => exact fun _ _ _ h => h
            case hyz23 => refine yields_loadS (w.heap.size + 2) 0 zeroN.enc (by rw [Nd.enc_length zeroN_ok]; exact aggNodeI) (fun W hW j u hu => by rw [Nat.zero_add]; exact hW.2.at_ j (by rw [List.getElem?_toArray]; exact hu)) ?_ _ rfl rfl; rfl
            try simp only [Act.put, List.setIfInBounds_toArray, List.set_cons_zero, List.set_cons_succ]
            refine wpAnyH_ready (rs := [2]) (by kernel_rfl) (by simp) (AllReadyH.cons (o := ?oy24) ?hy24 (fun K hK => ?sy24) AllReadyH.nil)
            case hy24 => simp only [List.getElem?_toArray, List.getElem?_cons_zero, List.getElem?_cons_succ]; rfl
            refine stp_storeB D6.out aggNodeI HZ.out rfl rfl _ _ rfl rfl rfl rfl ?_
            have hH2 := And.intro (hHeld.1.setRow (Nat.le_refl _) zeroN.enc.toArray) (hHeld.2.row_far (show w.heap.size + 2 ≠ w.heap.size by omega) zeroN.enc.toArray)
            refine hK.out _ _ hH2 (fun _ => ?_)
            have E6 := Lib.hid (D6.out.setRow zeroN.enc.toArray)
            have E7 := Lib.hid (D7.out.row_far hne' zeroN.enc.toArray)
            clear hK K hHeld D6 D7
            try simp only [Act.put, List.setIfInBounds_toArray, List.set_cons_zero, List.set_cons_succ]
            refine wpAnyH_ready (rs := [3]) (by kernel_rfl) (by simp) (AllReadyH.cons (o := ?oy25) ?hy25 (fun K hK => ?sy25) AllReadyH.nil)
            case hy25 => simp only [List.getElem?_toArray, List.getElem?_cons_zero, List.getElem?_cons_succ]; rfl
            refine stp_storeB E7.out aggNodeI HZ.out rfl rfl _ _ rfl rfl rfl rfl ?_
            have hH3 := And.intro (hH2.1.setRow (Nat.le_succ _) zeroN.enc.toArray) (hH2.2.row_far (show w.heap.size + 2 ≠ w.heap.size + 1 by omega) zeroN.enc.toArray)
            refine hK.out _ _ hH3 (fun _ => ?_)
            have F6 := Lib.hid (E6.out.row_far hne zeroN.enc.toArray)
            have F7 := Lib.hid (E7.out.setRow zeroN.enc.toArray)
            have FX := Lib.hid hH3.1
            clear hK K hH2 hH3 E6 E7
            try simp only [Act.put, List.setIfInBounds_toArray, List.set_cons_zero, List.set_cons_succ]
            refine wpAnyH_take (i := 4) (oi := ?oiz26) (v := ?vz26) ?hiz26 (by kernel_rfl) (by kernel_rfl) (by kernel_rfl) ?hQz26 ?hyz26 (by assumption) ?restz26
            case hiz26 => simp only [List.getElem?_toArray, List.getElem?_cons_zero, List.getElem?_cons_succ]; rfl
            case hQz26 => exact fun _ _ _ h => h
            case hyz26 => exact Or.inl ⟨by rfl, by intro w hSw; (try dsimp only at hSw); go_simp; with_reducible rfl⟩
            try simp only [Act.put, List.setIfInBounds_toArray, List.set_cons_zero, List.set_cons_succ]
            refine wpAnyH_done (by kernel_rfl) ?_ _
            go_wp2
            refine bodyPost_ret (results_bbt rfl _ rfl rfl aggNodeI HZ.out.size HZ.out.size F6.out F7.out rfl) rfl ?_
            exact ⟨rfl, FX.out⟩
          | true =>
            have hchk : chkR (trF L.length L).key s P = (c1, c2, 0) := by rw [chkR, hb2, hb3]; simp [h64, hck]
            have h0 : (chkR (trF L.length L).key s P).2.2 = 0 := by rw [hchk]
            have HF := Lib.hid (findI_eq L s)
            have hf := fun W hW => l04Find_any (.slice A L.length cap) L (okE_incs hb).1 s W S hW
            have hno2 := fun h => ckF_no s P (trF L.length L).key c2 (hck.trans h)
            cases hhe : hasE L s with
            | false =>
              have e : findI L s = -1 := by rw [HF.out, hhe]; rfl
              simp only [e] at hf
              cases c1 with
              | false =>
                have hc2 := hno2 rfl
                have e0 : clR L s P = (zeroN, zeroN, 6) := clR_none hall h0 (by rw [hchk, hhe]) (by rw [hchk, valE, hhe]; exact hc2)
                simp only [e0]
                obtain ⟨T, hT⟩ : ∃ T, trF L.length L = T := ⟨_, rfl⟩
                simp only [hT] at hnd hk HKK
                clear e0 h0 hck hT hg3 h64 hall hb hb2 hb3 hokL hchk HF hno2 hc2 hhe e
                go_enter Try.func14, Try.ntmps14
                go_wp2_with (first
                  | (refine wpl_buildN rfl rfl built_zero ?_)
                  | (refine wpl_storeNewG (by simp) aggNodeI HZ.out rfl rfl _ _ rfl rfl rfl rfl ?_))
                refine (hc _ (H.out.ext (by decide) (((ext_alloc _ _).alloc _).alloc _))).mono ?_
                rintro e w2 ⟨rfl, hx⟩
                have B6 := Lib.hid ((((Blk.new w 31 _).alloc _).alloc _).ext hx)
                have B7 := Lib.hid (((Blk.new' (g := w.heap.size + 1) (by simp) 31 _).alloc _).ext hx)
                have B9 := Lib.hid ((Blk.new' (g := w.heap.size + 2) (by simp) 31 _).ext hx)
                have XW := Lib.hid ((((ext_alloc w _).alloc _).alloc _).trans hx)
                clear hx
                go_wp2_with fail
                refine (hn _).mono ?_
                rintro e w' ⟨rfl, rfl⟩
                go_wp2_with fail
                refine (ha _ (H'.out.ext (by decide) XW.out)).mono ?_
                rintro e w2 ⟨rfl, hx⟩
                replace B6 := Lib.hid (B6.out.ext hx)
                replace B7 := Lib.hid (B7.out.ext hx)
                replace B9 := Lib.hid (B9.out.ext hx)
                replace XW := Lib.hid (XW.out.trans hx)
                clear hx
                go_wp2_with fail
                refine (hnd _ (H.out.ext (by decide) XW.out)).mono ?_
                rintro e w2 ⟨v5, rfl, ho, hx⟩
                replace B6 := Lib.hid (B6.out.ext hx)
                replace B7 := Lib.hid (B7.out.ext hx)
                replace B9 := Lib.hid (B9.out.ext hx)
                replace XW := Lib.hid (XW.out.trans hx)
                obtain ⟨A5, n5, q5, rfl⟩ := ho.shape3
                clear ho hx
                go_wp2_with (first
                  | (refine wpl_storeNew aggKey HKK.out rfl rfl _ _ rfl rfl rfl rfl ?_)
                  | (refine wpl_loadN (Blk.new w2 27 _) aggKey HKK.out rfl _ rfl rfl ?_))
                refine (hk _ (H'.out.ext (by decide) (XW.out.alloc _))).mono ?_
                rintro e w2 ⟨rfl, hx⟩
                replace B6 := Lib.hid ((B6.out.alloc _).ext hx)
                replace B7 := Lib.hid ((B7.out.alloc _).ext hx)
                replace B9 := Lib.hid ((B9.out.alloc _).ext hx)
                replace XW := Lib.hid ((XW.out.alloc _).trans hx)
                clear hx
                go_wp2_with fail
                refine (hf _ (H.out.ext (by decide) XW.out)).mono ?_
                rintro e w' ⟨rfl, rfl⟩
                go_wp2_with fail
                refine wp_region_held_drew (S := fun W => Ext w W ∧ Blk W (w.heap.size + 2) 31 zeroN.enc.toArray) (by kernel_rfl) ⟨XW.out.drew, B9.out.drewN 1⟩ (fun hHeld => ?_)
                have D6 := Lib.hid (show Blk w2.drew w.heap.size 31 _ from B6.out.drewN 1)
                have D7 := Lib.hid (show Blk w2.drew (w.heap.size + 1) 31 _ from B7.out.drewN 1)
                generalize w2.drew = w9 at hHeld D6 D7 ⊢
                refine wpAnyH_take (i := 0) (oi := ?oiz27) (v := (.agg zeroN.enc.toArray)) ?hiz27 (by kernel_rfl) (by kernel_rfl) (by kernel_rfl) ?hQz27 ?hyz27 (by assumption) ?restz27
                case hiz27 => simp only [List.getElem?_toArray, List.getElem?_cons_zero, List.getElem?_cons_succ]; rfl
                case hQz27 => exact fun _ _ _ h => h
                case hyz27 => refine yields_loadS (w.heap.size + 2) 0 zeroN.enc (by rw [Nd.enc_length zeroN_ok]; exact aggNodeI) (fun W hW j u hu => by rw [Nat.zero_add]; exact hW.2.at_ j (by rw [List.getElem?_toArray]; exact hu)) ?_ _ rfl rfl; rfl
                try simp only [Act.put, List.setIfInBounds_toArray, List.set_cons_zero, List.set_cons_succ]
                refine wpAnyH_take (i := 1) (oi := ?oiz28) (v := (.agg zeroN.enc.toArray)) ?hiz28 (by kernel_rfl) (by kernel_rfl) (by kernel_rfl) ?hQz28 ?hyz28 (by assumption) ?restz28
                case hiz28 => simp only [List.getElem?_toArray, List.getElem?_cons_zero, List.getElem?_cons_succ]; rfl
                case hQz28 => exact fun _ _ _ h => h
                case hyz28 => refine yields_loadS (w.heap.size + 2) 0 zeroN.enc (by rw [Nd.enc_length zeroN_ok]; exact aggNodeI) (fun W hW j u hu => by rw [Nat.zero_add]; exact hW.2.at_ j (by rw [List.getElem?_toArray]; exact hu)) ?_ _ rfl rfl; rfl
                try simp only [Act.put, List.setIfInBounds_toArray, List.set_cons_zero, List.set_cons_succ]
                refine wpAnyH_ready (rs := [2]) (by kernel_rfl) (by simp) (AllReadyH.cons (o := ?oy29) ?hy29 (fun K hK => ?sy29) AllReadyH.nil)
                case hy29 => simp only [List.getElem?_toArray, List.getElem?_cons_zero, List.getElem?_cons_succ]; rfl
                refine stp_storeB D6.out aggNodeI HZ.out rfl rfl _ _ rfl rfl rfl rfl ?_
                have hH2 := And.intro (hHeld.1.setRow (Nat.le_refl _) zeroN.enc.toArray) (hHeld.2.row_far (show w.heap.size + 2 ≠ w.heap.size by omega) zeroN.enc.toArray)
                refine hK.out _ _ hH2 (fun _ => ?_)
                have E6 := Lib.hid (D6.out.setRow zeroN.enc.toArray)
                have E7 := Lib.hid (D7.out.row_far hne' zeroN.enc.toArray)
                clear hK K hHeld D6 D7
                try simp only [Act.put, List.setIfInBounds_toArray, List.set_cons_zero, List.set_cons_succ]
                refine wpAnyH_ready (rs := [3]) (by kernel_rfl) (by simp) (AllReadyH.cons (o := ?oy30) ?hy30 (fun K hK => ?sy30) AllReadyH.nil)
                case hy30 => simp only [List.getElem?_toArray, List.getElem?_cons_zero, List.getElem?_cons_succ]; rfl
                refine stp_storeB E7.out aggNodeI HZ.out rfl rfl _ _ rfl rfl rfl rfl ?_
                have hH3 := And.intro (hH2.1.setRow (Nat.le_succ _) zeroN.enc.toArray) (hH2.2.row_far (show w.heap.size + 2 ≠ w.heap.size + 1 by omega) zeroN.enc.toArray)
                refine hK.out _ _ hH3 (fun _ => ?_)
                have F6 := Lib.hid (E6.out.row_far hne zeroN.enc.toArray)
                have F7 := Lib.hid (E7.out.setRow zeroN.enc.toArray)
                have FX := Lib.hid hH3.1
                clear hK K hH2 hH3 E6 E7
                try simp only [Act.put, List.setIfInBounds_toArray, List.set_cons_zero, List.set_cons_succ]
                refine wpAnyH_take (i := 4) (oi := ?oiz31) (v := ?vz31) ?hiz31 (by kernel_rfl) (by kernel_rfl) (by kernel_rfl) ?hQz31 ?hyz31 (by assumption) ?restz31
                case hiz31 => simp only [List.getElem?_toArray, List.getElem?_cons_zero, List.getElem?_cons_succ]; rfl
                case hQz31 => exact fun _ _ _ h => h
                case hyz31 => exact Or.inl ⟨by rfl, by intro w hSw; (try dsimp only at hSw); go_simp; with_reducible rfl⟩
                try simp only [Act.put, List.setIfInBounds_toArray, List.set_cons_zero, List.set_cons_succ]
                refine wpAnyH_done (by kernel_rfl) ?_ _
                go_wp2
                refine bodyPost_ret (results_bbt rfl _ rfl rfl aggNodeI HZ.out.size HZ.out.size F6.out F7.out rfl) rfl ?_
                exact ⟨rfl, FX.out⟩
              | true =>
                have hno : ¬ ((chkR (trF L.length L).key s P).1 = hasE L s ∧ (chkR (trF L.length L).key s P).2.1 = valE L s) := fun h => by have := h.1; rw [hchk, hhe] at this; cases this
                have HNE := chk_ne hb hb2 hb3 h0 hno
                have HCL := clR_hit hall h0 hno
                have FO := Lib.hid (way_full (good_of hb hokL) s)
                have FP := Lib.hid (okNs_full hb3)
                have HTO := Lib.hid (trF_ok L.length L (good_of hb hokL))
                have hp := fun W hW => l04Path_any (.slice A L.length cap) L s (okE_incs hb).2 (good_of hb hokL) W S hW
                obtain ⟨X, Y, c, hR⟩ : ∃ X Y c, clR L s P = (X, Y, c) := ⟨_, _, _, rfl⟩
                rw [hR]
                have HR := Lib.hid hR
                obtain ⟨O, hO⟩ : ∃ O, (trF L.length L).way s = O := ⟨_, rfl⟩
                have hOs : (trF L.length L).sel (fun o => ltB s o) (fun o => ltB o s) = O := hO
                have HOO := Lib.hid (show ∀ x ∈ O, tNd.ok x from fun x hx => Tr.sel_ok (fun o => ltB s o) (fun o => ltB o s) (trF L.length L) HTO.out x (by rw [← hO] at hx; exact hx))
                rw [hO] at HCL HNE FO
                simp only [hOs] at hp
                have NE := Lib.hid HNE
                replace HCL := Lib.hid HCL
                obtain ⟨T, hT⟩ : ∃ T, trF L.length L = T := ⟨_, rfl⟩
                simp only [hT] at hnd hk HKK
                clear h0 hck hT hg3 h64 hall hb hb2 hb3 hokL hchk HF hno2 hhe HNE hR hno hO hOs HTO
                clear e
                go_enter Try.func14, Try.ntmps14
                go_wp2_with (first
                  | (refine wpl_buildN rfl rfl built_zero ?_)
                  | (refine wpl_storeNewG (by simp) aggNodeI HZ.out rfl rfl _ _ rfl rfl rfl rfl ?_))
                refine (hc _ (H.out.ext (by decide) (((ext_alloc _ _).alloc _).alloc _))).mono ?_
                rintro e w2 ⟨rfl, hx⟩
                have B6 := Lib.hid ((((Blk.new w 31 _).alloc _).alloc _).ext hx)
                have B7 := Lib.hid (((Blk.new' (g := w.heap.size + 1) (by simp) 31 _).alloc _).ext hx)
                have B9 := Lib.hid ((Blk.new' (g := w.heap.size + 2) (by simp) 31 _).ext hx)
                have XW := Lib.hid ((((ext_alloc w _).alloc _).alloc _).trans hx)
                clear hx
                go_wp2_with fail
                refine (hn _).mono ?_
                rintro e w' ⟨rfl, rfl⟩
                go_wp2_with fail
                refine (ha _ (H'.out.ext (by decide) XW.out)).mono ?_
                rintro e w2 ⟨rfl, hx⟩
                replace B6 := Lib.hid (B6.out.ext hx)
                replace B7 := Lib.hid (B7.out.ext hx)
                replace B9 := Lib.hid (B9.out.ext hx)
                replace XW := Lib.hid (XW.out.trans hx)
                clear hx
                go_wp2_with fail
                refine (hnd _ (H.out.ext (by decide) XW.out)).mono ?_
                rintro e w2 ⟨v5, rfl, ho, hx⟩
                replace B6 := Lib.hid (B6.out.ext hx)
                replace B7 := Lib.hid (B7.out.ext hx)
                replace B9 := Lib.hid (B9.out.ext hx)
                replace XW := Lib.hid (XW.out.trans hx)
                obtain ⟨A5, n5, q5, rfl⟩ := ho.shape3
                clear ho hx
                go_wp2_with (first
                  | (refine wpl_storeNew aggKey HKK.out rfl rfl _ _ rfl rfl rfl rfl ?_)
                  | (refine wpl_loadN (Blk.new w2 27 _) aggKey HKK.out rfl _ rfl rfl ?_))
                refine (hk _ (H'.out.ext (by decide) (XW.out.alloc _))).mono ?_
                rintro e w2 ⟨rfl, hx⟩
                replace B6 := Lib.hid ((B6.out.alloc _).ext hx)
                replace B7 := Lib.hid ((B7.out.alloc _).ext hx)
                replace B9 := Lib.hid ((B9.out.alloc _).ext hx)
                replace XW := Lib.hid ((XW.out.alloc _).trans hx)
                clear hx
                go_wp2_with fail
                refine (hf _ (H.out.ext (by decide) XW.out)).mono ?_
                rintro e w' ⟨rfl, rfl⟩
                have hbig := B9.out.lt
                go_wp2_with fail
                refine (hp _ (H.out.ext (by decide) XW.out)).mono ?_
                rintro e w2 ⟨v6, rfl, ho, hx⟩
                replace B6 := Lib.hid (B6.out.ext hx)
                replace B7 := Lib.hid (B7.out.ext hx)
                replace B9 := Lib.hid (B9.out.ext hx)
                replace XW := Lib.hid (XW.out.trans hx)
                have HO := Lib.hid ho
                obtain ⟨A6, q6, rfl⟩ := ho.shape
                clear ho hx
                go_wp2_with fail
                go_loopw [18] (fun i wr => ∃ j : Nat, j ≤ O.length ∧ j ≤ P.length ∧ i = .int .i64 j ∧ (∀ p, p < j → O.getD p zeroN = P.getD p zeroN) ∧ Ext w2 wr) (fun i _ => P.length - (intOf i).toNat)
                case atStart => exact ⟨0, by omega, by omega, rfl, fun p hp => by omega, Ext.refl _⟩
                case round =>
                  obtain ⟨j, hk1, hk2, rfl, hm, hx⟩ := hrel
                  have HX := Lib.hid hx
                  have HM := Lib.hid hm
                  clear hx hm
                  have hj : (0 : Int) ≤ (j : Int) := by omega
                  by_cases l1 : j < O.length
                  · have hj1 : (j : Int) < (O.length : Int) := by omega
                    by_cases l2 : j < P.length
                    · have hj2 : (j : Int) < (P.length : Int) := by omega
                      obtain ⟨g1, cur, rfl, hg1, hbo, hcx⟩ := own_blk (HO.out.ext HX.out) j l1
                      have hxo : tNd.ok O[j] := HOO.out _ (List.getElem_mem l1)
                      have hxe := getD_lt l1
                      generalize O[j] = x at hcx hxo hxe
                      have HXE := Lib.hid hxe
                      have HXO := Lib.hid (show x.ok from hxo)
                      have HSX := Lib.hid (Nd.st hxo)
                      have HBO := Lib.hid hbo
                      have HCX := Lib.hid hcx
                      clear hbo hcx hxo hxe
                      obtain ⟨Ap, capp, ep, _, _, hrdp, hokp⟩ := id H'.out
                      injection ep with a1 a2 a3
                      subst a1 a3
                      obtain ⟨g2, o2, rfl, _, hcp⟩ := hrdp.elem hokp j l2
                      have hyo : tNd.ok P[j] := hokP.out _ (List.getElem_mem l2)
                      have hcy : ∀ W, Ext w W → ∀ i u, P[j].enc[i]? = some u → W.cell? ⟨g2, o2 + j * 66 + i, none⟩ = some u := fun W hW i u hu => hW.cell (hcp i u hu)
                      have hye := getD_lt l2
                      clear hcp hrdp hokp a2
                      generalize P[j] = y at hcy hyo hye
                      have HYE := Lib.hid hye
                      have HYO := Lib.hid (show y.ok from hyo)
                      have HSY := Lib.hid (Nd.st hyo)
                      have HCY := Lib.hid hcy
                      clear hyo hye hcy
                      by_cases hxy : x = y
                      · have hq : ∀ W, (binOp .neq 31 (.agg x.enc.toArray) (.agg y.enc.toArray)).run Try.prog W = .ok (.bool false) W := fun W => by rw [run_neqNd x y HXO.out HYO.out W, decide_eq_true hxy] <;> rfl
                        have HXY := Lib.hid hxy
                        clear hxy
                        go_wp2_with fail
                        refine wp_region_held_drew (S := fun W => Ext wr W) (by kernel_rfl) (Ext.refl _).drew (fun hHeld => ?_)
                        have HX2 := Lib.hid (show Ext w2 wr.drew from HX.out.drew)
                        have HBO2 := Lib.hid (show Blk wr.drew g1 31 cur from HBO.out.drewN 1)
                        generalize wr.drew = wz at hHeld HX2 HBO2 ⊢
                        refine wpAnyH_take (i := 0) (oi := ?oiz32) (v := ?vz32) ?hiz32 (by kernel_rfl) (by kernel_rfl) (by kernel_rfl) ?hQz32 ?hyz32 (by assumption) ?restz32
                        case hiz32 => simp only [List.getElem?_toArray, List.getElem?_cons_zero, List.getElem?_cons_succ]; rfl
                        case hQz32 => exact fun _ _ _ h => h
                        case hyz32 => exact Or.inl ⟨by rfl, by intro w hSw; (try dsimp only at hSw); go_simp; with_reducible rfl⟩
                        try simp only [Act.put, List.setIfInBounds_toArray, List.set_cons_zero, List.set_cons_succ]
                        refine wpAnyH_take (i := 1) (oi := ?oiz33) (v := ?vz33) ?hiz33 (by kernel_rfl) (by kernel_rfl) (by kernel_rfl) ?hQz33 ?hyz33 (by assumption) ?restz33
                        case hiz33 => simp only [List.getElem?_toArray, List.getElem?_cons_zero, List.getElem?_cons_succ]; rfl
                        case hQz33 => exact fun _ _ _ h => h
                        case hyz33 => exact Or.inl ⟨by rfl, by intro w hSw; (try dsimp only at hSw); go_simp; with_reducible rfl⟩
                        try simp only [Act.put, List.setIfInBounds_toArray, List.set_cons_zero, List.set_cons_succ]
                        refine wpAnyH_take (i := 2) (oi := ?oiz34) (v := ?vz34) ?hiz34 (by kernel_rfl) (by kernel_rfl) (by kernel_rfl) ?hQz34 ?hyz34 (by assumption) ?restz34
                        case hiz34 => simp only [List.getElem?_toArray, List.getElem?_cons_zero, List.getElem?_cons_succ]; rfl
                        case hQz34 => exact fun _ _ _ h => h
                        case hyz34 => exact Or.inl ⟨by rfl, by intro w hSw; (try dsimp only at hSw); go_simp; with_reducible rfl⟩
                        try simp only [Act.put, List.setIfInBounds_toArray, List.set_cons_zero, List.set_cons_succ]
                        refine wpAnyH_take (i := 3) (oi := ?oiz35) (v := (.agg x.enc.toArray)) ?hiz35 (by kernel_rfl) (by kernel_rfl) (by kernel_rfl) ?hQz35 ?hyz35 (by assumption) ?restz35
                        case hiz35 => simp only [List.getElem?_toArray, List.getElem?_cons_zero, List.getElem?_cons_succ]; rfl
                        case hQz35 => exact fun _ _ _ h => h
                        case hyz35 => refine yields_loadS g1 (j * 66) x.enc (by rw [Nd.enc_length HXO.out]; exact aggNodeI) (fun W hW i u hu => (HBO.out.ext hW).at_ _ (HCX.out i u hu)) ?_ _ rfl rfl; rfl
                        try simp only [Act.put, List.setIfInBounds_toArray, List.set_cons_zero, List.set_cons_succ]
                        refine wpAnyH_take (i := 4) (oi := ?oiz36) (v := ?vz36) ?hiz36 (by kernel_rfl) (by kernel_rfl) (by kernel_rfl) ?hQz36 ?hyz36 (by assumption) ?restz36
                        case hiz36 => simp only [List.getElem?_toArray, List.getElem?_cons_zero, List.getElem?_cons_succ]; rfl
                        case hQz36 => exact fun _ _ _ h => h
                        case hyz36 => exact Or.inl ⟨by rfl, by intro w hSw; (try dsimp only at hSw); go_simp; with_reducible rfl⟩
                        try simp only [Act.put, List.setIfInBounds_toArray, List.set_cons_zero, List.set_cons_succ]
                        refine wpAnyH_take (i := 5) (oi := ?oiz37) (v := ?vz37) ?hiz37 (by kernel_rfl) (by kernel_rfl) (by kernel_rfl) ?hQz37 ?hyz37 (by assumption) ?restz37
                        case hiz37 => simp only [List.getElem?_toArray, List.getElem?_cons_zero, List.getElem?_cons_succ]; rfl
                        case hQz37 => exact fun _ _ _ h => h
                        case hyz37 => exact Or.inl ⟨by rfl, by intro w hSw; (try dsimp only at hSw); go_simp; with_reducible rfl⟩
                        try simp only [Act.put, List.setIfInBounds_toArray, List.set_cons_zero, List.set_cons_succ]
                        refine wpAnyH_take (i := 6) (oi := ?oiz38) (v := ?vz38) ?hiz38 (by kernel_rfl) (by kernel_rfl) (by kernel_rfl) ?hQz38 ?hyz38 (by assumption) ?restz38
                        case hiz38 => simp only [List.getElem?_toArray, List.getElem?_cons_zero, List.getElem?_cons_succ]; rfl
                        case hQz38 => exact fun _ _ _ h => h
                        case hyz38 => exact Or.inl ⟨by rfl, by intro w hSw; (try dsimp only at hSw); go_simp; with_reducible rfl⟩
                        try simp only [Act.put, List.setIfInBounds_toArray, List.set_cons_zero, List.set_cons_succ]
                        refine wpAnyH_take (i := 7) (oi := ?oiz39) (v := (.agg y.enc.toArray)) ?hiz39 (by kernel_rfl) (by kernel_rfl) (by kernel_rfl) ?hQz39 ?hyz39 (by assumption) ?restz39
                        case hiz39 => simp only [List.getElem?_toArray, List.getElem?_cons_zero, List.getElem?_cons_succ]; rfl
                        case hQz39 => exact fun _ _ _ h => h
                        case hyz39 => refine yields_loadS g2 (o2 + j * 66) y.enc (by rw [Nd.enc_length HYO.out]; exact aggNodeI) (fun W hW i u hu => HCY.out W ((XW.out.trans HX.out).trans hW) i u hu) ?_ _ rfl rfl; rfl
                        try simp only [Act.put, List.setIfInBounds_toArray, List.set_cons_zero, List.set_cons_succ]
                        refine wpAnyH_take (i := 8) (oi := ?oiz40) (v := ?vz40) ?hiz40 (by kernel_rfl) (by kernel_rfl) (by kernel_rfl) ?hQz40 ?hyz40 (by assumption) ?restz40
                        case hiz40 => simp only [List.getElem?_toArray, List.getElem?_cons_zero, List.getElem?_cons_succ]; rfl
                        case hQz40 => exact fun _ _ _ h => h
                        case hyz40 => exact Or.inl ⟨by rfl, by intro w hSw; (try dsimp only at hSw); go_simp; with_reducible rfl⟩
                        try simp only [Act.put, List.setIfInBounds_toArray, List.set_cons_zero, List.set_cons_succ]
                        refine wpAnyH_done (by kernel_rfl) ?_ _
                        clear hHeld
                        go_wp2
                        go_roundw
                        case rel => exact ⟨j + 1, by omega, by omega, by go_num, (fun p hp => by
                          by_cases e : p = j
                          · subst e; rw [HXE.out, HYE.out]; exact HXY.out
                          · exact HM.out p (by omega)), HX2.out⟩
                        case measure => simp [intOf]; omega
                      · have hq : ∀ W, (binOp .neq 31 (.agg x.enc.toArray) (.agg y.enc.toArray)).run Try.prog W = .ok (.bool true) W := fun W => by rw [run_neqNd x y HXO.out HYO.out W, decide_eq_false hxy] <;> rfl
                        have HE := Lib.hid (show X = O.getD j zeroN ∧ Y = P.getD j zeroN ∧ c = 0 by
                          have h1 := HR.out.symm.trans HCL.out
                          rw [partN_eq O P j hk1 hk2 HM.out (.inr (.inr (by rw [HXE.out, HYE.out]; exact hxy)))] at h1
                          injection h1 with h1 h2
                          injection h2 with h2 h3
                          exact ⟨h1, h2, h3⟩)
                        clear hxy
                        go_wp2_with fail
                        refine wp_region_held_drew (S := fun W => Ext wr W) (by kernel_rfl) (Ext.refl _).drew (fun hHeld => ?_)
                        have HX2 := Lib.hid (show Ext w2 wr.drew from HX.out.drew)
                        have HBO2 := Lib.hid (show Blk wr.drew g1 31 cur from HBO.out.drewN 1)
                        generalize wr.drew = wz at hHeld HX2 HBO2 ⊢
                        refine wpAnyH_take (i := 0) (oi := ?oiz41) (v := ?vz41) ?hiz41 (by kernel_rfl) (by kernel_rfl) (by kernel_rfl) ?hQz41 ?hyz41 (by assumption) ?restz41
                        case hiz41 => simp only [List.getElem?_toArray, List.getElem?_cons_zero, List.getElem?_cons_succ]; rfl
                        case hQz41 => exact fun _ _ _ h => h
                        case hyz41 => exact Or.inl ⟨by rfl, by intro w hSw; (try dsimp only at hSw); go_simp; with_reducible rfl⟩
                        try simp only [Act.put, List.setIfInBounds_toArray, List.set_cons_zero, List.set_cons_succ]
                        refine wpAnyH_take (i := 1) (oi := ?oiz42) (v := ?vz42) ?hiz42 (by kernel_rfl) (by kernel_rfl) (by kernel_rfl) ?hQz42 ?hyz42 (by assumption) ?restz42
                        case hiz42 => simp only [List.getElem?_toArray, List.getElem?_cons_zero, List.getElem?_cons_succ]; rfl
                        case hQz42 => exact fun _ _ _ h => h
                        case hyz42 => exact Or.inl ⟨by rfl, by intro w hSw; (try dsimp only at hSw); go_simp; with_reducible rfl⟩
                        try simp only [Act.put, List.setIfInBounds_toArray, List.set_cons_zero, List.set_cons_succ]
                        refine wpAnyH_take (i := 2) (oi := ?oiz43) (v := ?vz43) ?hiz43 (by kernel_rfl) (by kernel_rfl) (by kernel_rfl) ?hQz43 ?hyz43 (by assumption) ?restz43
                        case hiz43 => simp only [List.getElem?_toArray, List.getElem?_cons_zero, List.getElem?_cons_succ]; rfl
                        case hQz43 => exact fun _ _ _ h => h
                        case hyz43 => exact Or.inl ⟨by rfl, by intro w hSw; (try dsimp only at hSw); go_simp; with_reducible rfl⟩
                        try simp only [Act.put, List.setIfInBounds_toArray, List.set_cons_zero, List.set_cons_succ]
                        refine wpAnyH_take (i := 3) (oi := ?oiz44) (v := (.agg x.enc.toArray)) ?hiz44 (by kernel_rfl) (by kernel_rfl) (by kernel_rfl) ?hQz44 ?hyz44 (by assumption) ?restz44
                        case hiz44 => simp only [List.getElem?_toArray, List.getElem?_cons_zero, List.getElem?_cons_succ]; rfl
                        case hQz44 => exact fun _ _ _ h => h
                        case hyz44 => refine yields_loadS g1 (j * 66) x.enc (by rw [Nd.enc_length HXO.out]; exact aggNodeI) (fun W hW i u hu => (HBO.out.ext hW).at_ _ (HCX.out i u hu)) ?_ _ rfl rfl; rfl
                        try simp only [Act.put, List.setIfInBounds_toArray, List.set_cons_zero, List.set_cons_succ]
                        refine wpAnyH_take (i := 4) (oi := ?oiz45) (v := ?vz45) ?hiz45 (by kernel_rfl) (by kernel_rfl) (by kernel_rfl) ?hQz45 ?hyz45 (by assumption) ?restz45
                        case hiz45 => simp only [List.getElem?_toArray, List.getElem?_cons_zero, List.getElem?_cons_succ]; rfl
                        case hQz45 => exact fun _ _ _ h => h
                        case hyz45 => exact Or.inl ⟨by rfl, by intro w hSw; (try dsimp only at hSw); go_simp; with_reducible rfl⟩
                        try simp only [Act.put, List.setIfInBounds_toArray, List.set_cons_zero, List.set_cons_succ]
                        refine wpAnyH_take (i := 5) (oi := ?oiz46) (v := ?vz46) ?hiz46 (by kernel_rfl) (by kernel_rfl) (by kernel_rfl) ?hQz46 ?hyz46 (by assumption) ?restz46
                        case hiz46 => simp only [List.getElem?_toArray, List.getElem?_cons_zero, List.getElem?_cons_succ]; rfl
                        case hQz46 => exact fun _ _ _ h => h
                        case hyz46 => exact Or.inl ⟨by rfl, by intro w hSw; (try dsimp only at hSw); go_simp; with_reducible rfl⟩
                        try simp only [Act.put, List.setIfInBounds_toArray, List.set_cons_zero, List.set_cons_succ]
                        refine wpAnyH_take (i := 6) (oi := ?oiz47) (v := ?vz47) ?hiz47 (by kernel_rfl) (by kernel_rfl) (by kernel_rfl) ?hQz47 ?hyz47 (by assumption) ?restz47
                        case hiz47 => simp only [List.getElem?_toArray, List.getElem?_cons_zero, List.getElem?_cons_succ]; rfl
                        case hQz47 => exact fun _ _ _ h => h
                        case hyz47 => exact Or.inl ⟨by rfl, by intro w hSw; (try dsimp only at hSw); go_simp; with_reducible rfl⟩
                        try simp only [Act.put, List.setIfInBounds_toArray, List.set_cons_zero, List.set_cons_succ]
                        refine wpAnyH_take (i := 7) (oi := ?oiz48) (v := (.agg y.enc.toArray)) ?hiz48 (by kernel_rfl) (by kernel_rfl) (by kernel_rfl) ?hQz48 ?hyz48 (by assumption) ?restz48
                        case hiz48 => simp only [List.getElem?_toArray, List.getElem?_cons_zero, List.getElem?_cons_succ]; rfl
                        case hQz48 => exact fun _ _ _ h => h
                        case hyz48 => refine yields_loadS g2 (o2 + j * 66) y.enc (by rw [Nd.enc_length HYO.out]; exact aggNodeI) (fun W hW i u hu => HCY.out W ((XW.out.trans HX.out).trans hW) i u hu) ?_ _ rfl rfl; rfl
                        try simp only [Act.put, List.setIfInBounds_toArray, List.set_cons_zero, List.set_cons_succ]
                        refine wpAnyH_take (i := 8) (oi := ?oiz49) (v := ?vz49) ?hiz49 (by kernel_rfl) (by kernel_rfl) (by kernel_rfl) ?hQz49 ?hyz49 (by assumption) ?restz49
                        case hiz49 => simp only [List.getElem?_toArray, List.getElem?_cons_zero, List.getElem?_cons_succ]; rfl
                        case hQz49 => exact fun _ _ _ h => h
                        case hyz49 => exact Or.inl ⟨by rfl, by intro w hSw; (try dsimp only at hSw); go_simp; with_reducible rfl⟩
                        try simp only [Act.put, List.setIfInBounds_toArray, List.set_cons_zero, List.set_cons_succ]
                        refine wpAnyH_done (by kernel_rfl) ?_ _
                        clear hHeld
                        go_wp2_with fail
                        refine wp_region_held_drew (S := fun W => Ext w W ∧ Blk W (w.heap.size + 2) 31 zeroN.enc.toArray ∧ Blk W g1 31 cur) (by kernel_rfl) ⟨(XW.out.trans HX2.out).drew, (B9.out.ext HX2.out).drewN 1, HBO2.out.drewN 1⟩ (fun hHeld => ?_)
                        have D6 := Lib.hid (show Blk wz.drew w.heap.size 31 _ from (B6.out.ext HX2.out).drewN 1)
                        have D7 := Lib.hid (show Blk wz.drew (w.heap.size + 1) 31 _ from (B7.out.ext HX2.out).drewN 1)
                        generalize wz.drew = w9 at hHeld D6 D7 ⊢
                        refine wpAnyH_take (i := 0) (oi := ?oiz50) (v := ?vz50) ?hiz50 (by kernel_rfl) (by kernel_rfl) (by kernel_rfl) ?hQz50 ?hyz50 (by assumption) ?restz50
                        case hiz50 => simp only [List.getElem?_toArray, List.getElem?_cons_zero, List.getElem?_cons_succ]; rfl
                        case hQz50 => exact fun _ _ _ h => h
                        case hyz50 => exact Or.inl ⟨by rfl, by intro w hSw; (try dsimp only at hSw); go_simp; with_reducible rfl⟩
                        try simp only [Act.put, List.setIfInBounds_toArray, List.set_cons_zero, List.set_cons_succ]
                        refine wpAnyH_take (i := 1) (oi := ?oiz51) (v := ?vz51) ?hiz51 (by kernel_rfl) (by kernel_rfl) (by kernel_rfl) ?hQz51 ?hyz51 (by assumption) ?restz51
                        case hiz51 => simp only [List.getElem?_toArray, List.getElem?_cons_zero, List.getElem?_cons_succ]; rfl
                        case hQz51 => exact fun _ _ _ h => h
                        case hyz51 => exact Or.inl ⟨by rfl, by intro w hSw; (try dsimp only at hSw); go_simp; with_reducible rfl⟩
                        try simp only [Act.put, List.setIfInBounds_toArray, List.set_cons_zero, List.set_cons_succ]
                        refine wpAnyH_take (i := 2) (oi := ?oiz52) (v := ?vz52) ?hiz52 (by kernel_rfl) (by kernel_rfl) (by kernel_rfl) ?hQz52 ?hyz52 (by assumption) ?restz52
                        case hiz52 => simp only [List.getElem?_toArray, List.getElem?_cons_zero, List.getElem?_cons_succ]; rfl
                        case hQz52 => exact fun _ _ _ h => h
                        case hyz52 => exact Or.inl ⟨by rfl, by intro w hSw; (try dsimp only at hSw); go_simp; with_reducible rfl⟩
                        try simp only [Act.put, List.setIfInBounds_toArray, List.set_cons_zero, List.set_cons_succ]
                        refine wpAnyH_take (i := 3) (oi := ?oiz53) (v := (.agg x.enc.toArray)) ?hiz53 (by kernel_rfl) (by kernel_rfl) (by kernel_rfl) ?hQz53 ?hyz53 (by assumption) ?restz53
                        case hiz53 => simp only [List.getElem?_toArray, List.getElem?_cons_zero, List.getElem?_cons_succ]; rfl
                        case hQz53 => exact fun _ _ _ h => h
                        case hyz53 => refine yields_loadS g1 (j * 66) x.enc (by rw [Nd.enc_length HXO.out]; exact aggNodeI) (fun W hW i u hu => hW.2.2.at_ _ (HCX.out i u hu)) ?_ _ rfl rfl; rfl
                        try simp only [Act.put, List.setIfInBounds_toArray, List.set_cons_zero, List.set_cons_succ]
                        refine wpAnyH_take (i := 4) (oi := ?oiz54) (v := ?vz54) ?hiz54 (by kernel_rfl) (by kernel_rfl) (by kernel_rfl) ?hQz54 ?hyz54 (by assumption) ?restz54
                        case hiz54 => simp only [List.getElem?_toArray, List.getElem?_cons_zero, List.getElem?_cons_succ]; rfl
                        case hQz54 => exact fun _ _ _ h => h
                        case hyz54 => exact Or.inl ⟨by rfl, by intro w hSw; (try dsimp only at hSw); go_simp; with_reducible rfl⟩
                        try simp only [Act.put, List.setIfInBounds_toArray, List.set_cons_zero, List.set_cons_succ]
                        refine wpAnyH_take (i := 5) (oi := ?oiz55) (v := ?vz55) ?hiz55 (by kernel_rfl) (by kernel_rfl) (by kernel_rfl) ?hQz55 ?hyz55 (by assumption) ?restz55
                        case hiz55 => simp only [List.getElem?_toArray, List.getElem?_cons_zero, List.getElem?_cons_succ]; rfl
                        case hQz55 => exact fun _ _ _ h => h
                        case hyz55 => exact Or.inl ⟨by rfl, by intro w hSw; (try dsimp only at hSw); go_simp; with_reducible rfl⟩
                        try simp only [Act.put, List.setIfInBounds_toArray, List.set_cons_zero, List.set_cons_succ]
                        refine wpAnyH_take (i := 6) (oi := ?oiz56) (v := ?vz56) ?hiz56 (by kernel_rfl) (by kernel_rfl) (by kernel_rfl) ?hQz56 ?hyz56 (by assumption) ?restz56
                        case hiz56 => simp only [List.getElem?_toArray, List.getElem?_cons_zero, List.getElem?_cons_succ]; rfl
                        case hQz56 => exact fun _ _ _ h => h
                        case hyz56 => exact Or.inl ⟨by rfl, by intro w hSw; (try dsimp only at hSw); go_simp; with_reducible rfl⟩
                        try simp only [Act.put, List.setIfInBounds_toArray, List.set_cons_zero, List.set_cons_succ]
                        refine wpAnyH_take (i := 7) (oi := ?oiz57) (v := (.agg y.enc.toArray)) ?hiz57 (by kernel_rfl) (by kernel_rfl) (by kernel_rfl) ?hQz57 ?hyz57 (by assumption) ?restz57
                        case hiz57 => simp only [List.getElem?_toArray, List.getElem?_cons_zero, List.getElem?_cons_succ]; rfl
                        case hQz57 => exact fun _ _ _ h => h
                        case hyz57 => refine yields_loadS g2 (o2 + j * 66) y.enc (by rw [Nd.enc_length HYO.out]; exact aggNodeI) (fun W hW i u hu => HCY.out W hW.1 i u hu) ?_ _ rfl rfl; rfl
                        try simp only [Act.put, List.setIfInBounds_toArray, List.set_cons_zero, List.set_cons_succ]
                        refine wpAnyH_ready (rs := [8]) (by kernel_rfl) (by simp) (AllReadyH.cons (o := ?oy58) ?hy58 (fun K hK => ?sy58) AllReadyH.nil)
                        case hy58 => simp only [List.getElem?_toArray, List.getElem?_cons_zero, List.getElem?_cons_succ]; rfl
                        refine stp_storeB D6.out aggNodeI HSX.out rfl rfl _ _ rfl rfl rfl rfl ?_
                        have hH2 := And.intro (hHeld.1.setRow (Nat.le_refl _) x.enc.toArray) (And.intro (hHeld.2.1.row_far (show w.heap.size + 2 ≠ w.heap.size by omega) x.enc.toArray) (hHeld.2.2.row_far (show g1 ≠ w.heap.size by omega) x.enc.toArray))
                        refine hK.out _ _ hH2 (fun _ => ?_)
                        have E6 := Lib.hid (D6.out.setRow x.enc.toArray)
                        have E7 := Lib.hid (D7.out.row_far hne' x.enc.toArray)
                        clear hK K hHeld D6 D7
                        try simp only [Act.put, List.setIfInBounds_toArray, List.set_cons_zero, List.set_cons_succ]
                        refine wpAnyH_ready (rs := [9]) (by kernel_rfl) (by simp) (AllReadyH.cons (o := ?oy59) ?hy59 (fun K hK => ?sy59) AllReadyH.nil)
                        case hy59 => simp only [List.getElem?_toArray, List.getElem?_cons_zero, List.getElem?_cons_succ]; rfl
                        refine stp_storeB E7.out aggNodeI HSY.out rfl rfl _ _ rfl rfl rfl rfl ?_
                        have hH3 := And.intro (hH2.1.setRow (Nat.le_succ _) y.enc.toArray) (And.intro (hH2.2.1.row_far (show w.heap.size + 2 ≠ w.heap.size + 1 by omega) y.enc.toArray) (hH2.2.2.row_far (show g1 ≠ w.heap.size + 1 by omega) y.enc.toArray))
                        refine hK.out _ _ hH3 (fun _ => ?_)
                        have F6 := Lib.hid (E6.out.row_far hne y.enc.toArray)
                        have F7 := Lib.hid (E7.out.setRow y.enc.toArray)
                        have FX := Lib.hid hH3.1
                        clear hK K hH2 hH3 E6 E7
                        try simp only [Act.put, List.setIfInBounds_toArray, List.set_cons_zero, List.set_cons_succ]
                        refine wpAnyH_take (i := 10) (oi := ?oiz60) (v := ?vz60) ?hiz60 (by kernel_rfl) (by kernel_rfl) (by kernel_rfl) ?hQz60 ?hyz60 (by assumption) ?restz60
                        case hiz60 => simp only [List.getElem?_toArray, List.getElem?_cons_zero, List.getElem?_cons_succ]; rfl
                        case hQz60 => exact fun _ _ _ h => h
                        case hyz60 => exact Or.inl ⟨by rfl, by intro w hSw; (try dsimp only at hSw); go_simp; with_reducible rfl⟩
                        try simp only [Act.put, List.setIfInBounds_toArray, List.set_cons_zero, List.set_cons_succ]
                        refine wpAnyH_done (by kernel_rfl) ?_ _
                        go_wp2
                        refine bodyPost_ret (results_bbt rfl _ rfl rfl aggNodeI HSX.out.size HSY.out.size F6.out F7.out rfl) rfl ?_
                        exact ⟨by rw [HE.out.1, HE.out.2.1, HE.out.2.2, HXE.out, HYE.out]; rfl, FX.out⟩
                    · have l3 : P.length < O.length := by omega
                      have HE := Lib.hid (show X = O.getD j zeroN ∧ Y = P.getD j zeroN ∧ c = 0 by
                        have h1 := HR.out.symm.trans HCL.out
                        rw [partN_eq O P j hk1 hk2 HM.out (.inr (.inl (by omega)))] at h1
                        injection h1 with h1 h2
                        injection h2 with h2 h3
                        exact ⟨h1, h2, h3⟩)
                      obtain ⟨g1, cur, rfl, hg1, hbo, hcx⟩ := own_blk (HO.out.ext HX.out) j l1
                      have hxo : tNd.ok O[j] := HOO.out _ (List.getElem_mem l1)
                      have hxe := getD_lt l1
                      generalize O[j] = x at hcx hxo hxe
                      have HXE := Lib.hid hxe
                      have HXO := Lib.hid (show x.ok from hxo)
                      have HSX := Lib.hid (Nd.st hxo)
                      have HBO := Lib.hid hbo
                      have HCX := Lib.hid hcx
                      clear hbo hcx hxo hxe
                      have HYE := Lib.hid (getD_ge l2)
                      obtain rfl : j = P.length := by omega
                      have l4 : ¬ (O.length : Int) < (P.length : Int) := by omega
                      go_wp2_with fail
                      refine wp_region_held_drew (S := fun W => Ext w W ∧ Blk W (w.heap.size + 2) 31 zeroN.enc.toArray ∧ Blk W g1 31 cur) (by kernel_rfl) ⟨(XW.out.trans HX.out).drew, (B9.out.ext HX.out).drewN 1, HBO.out.drewN 1⟩ (fun hHeld => ?_)
                      have D6 := Lib.hid (show Blk wr.drew w.heap.size 31 _ from (B6.out.ext HX.out).drewN 1)
                      have D7 := Lib.hid (show Blk wr.drew (w.heap.size + 1) 31 _ from (B7.out.ext HX.out).drewN 1)
                      generalize wr.drew = w9 at hHeld D6 D7 ⊢
                      refine wpAnyH_take (i := 0) (oi := ?oiz61) (v := ?vz61) ?hiz61 (by kernel_rfl) (by kernel_rfl) (by kernel_rfl) ?hQz61 ?hyz61 (by assumption) ?restz61
                      case hiz61 => simp only [List.getElem?_toArray, List.getElem?_cons_zero, List.getElem?_cons_succ]; rfl
                      case hQz61 => exact fun _ _ _ h => h
                      case hyz61 => exact Or.inl ⟨by rfl, by intro w hSw; (try dsimp only at hSw); go_simp; with_reducible rfl⟩
                      try simp only [Act.put, List.setIfInBounds_toArray, List.set_cons_zero, List.set_cons_succ]
                      refine wpAnyH_take (i := 1) (oi := ?oiz62) (v := ?vz62) ?hiz62 (by kernel_rfl) (by kernel_rfl) (by kernel_rfl) ?hQz62 ?hyz62 (by assumption) ?restz62
                      case hiz62 => simp only [List.getElem?_toArray, List.getElem?_cons_zero, List.getElem?_cons_succ]; rfl
                      case hQz62 => exact fun _ _ _ h => h
                      case hyz62 => exact Or.inl ⟨by rfl, by intro w hSw; (try dsimp only at hSw); go_simp; with_reducible rfl⟩
                      try simp only [Act.put, List.setIfInBounds_toArray, List.set_cons_zero, List.set_cons_succ]
                      refine wpAnyH_take (i := 2) (oi := ?oiz63) (v := ?vz63) ?hiz63 (by kernel_rfl) (by kernel_rfl) (by kernel_rfl) ?hQz63 ?hyz63 (by assumption) ?restz63
                      case hiz63 => simp only [List.getElem?_toArray, List.getElem?_cons_zero, List.getElem?_cons_succ]; rfl
                      case hQz63 => exact fun _ _ _ h => h
                      case hyz63 => exact Or.inl ⟨by rfl, by intro w hSw; (try dsimp only at hSw); go_simp; with_reducible rfl⟩
                      try simp only [Act.put, List.setIfInBounds_toArray, List.set_cons_zero, List.set_cons_succ]
                      refine wpAnyH_take (i := 3) (oi := ?oiz64) (v := ?vz64) ?hiz64 (by kernel_rfl) (by kernel_rfl) (by kernel_rfl) ?hQz64 ?hyz64 (by assumption) ?restz64
                      case hiz64 => simp only [List.getElem?_toArray, List.getElem?_cons_zero, List.getElem?_cons_succ]; rfl
                      case hQz64 => exact fun _ _ _ h => h
                      case hyz64 => exact Or.inl ⟨by rfl, by intro w hSw; (try dsimp only at hSw); go_simp; with_reducible rfl⟩
                      try simp only [Act.put, List.setIfInBounds_toArray, List.set_cons_zero, List.set_cons_succ]
                      refine wpAnyH_take (i := 4) (oi := ?oiz65) (v := (.agg x.enc.toArray)) ?hiz65 (by kernel_rfl) (by kernel_rfl) (by kernel_rfl) ?hQz65 ?hyz65 (by assumption) ?restz65
                      case hiz65 => simp only [List.getElem?_toArray, List.getElem?_cons_zero, List.getElem?_cons_succ]; rfl
                      case hQz65 => exact fun _ _ _ h => h
                      case hyz65 => refine yields_loadS g1 (P.length * 66) x.enc (by rw [Nd.enc_length HXO.out]; exact aggNodeI) (fun W hW i u hu => hW.2.2.at_ _ (HCX.out i u hu)) ?_ _ rfl rfl; rfl
                      try simp only [Act.put, List.setIfInBounds_toArray, List.set_cons_zero, List.set_cons_succ]
                      refine wpAnyH_take (i := 5) (oi := ?oiz66) (v := (.agg zeroN.enc.toArray)) ?hiz66 (by kernel_rfl) (by kernel_rfl) (by kernel_rfl) ?hQz66 ?hyz66 (by assumption) ?restz66
                      case hiz66 => simp only [List.getElem?_toArray, List.getElem?_cons_zero, List.getElem?_cons_succ]; rfl
                      case hQz66 => exact fun _ _ _ h => h
                      case hyz66 => refine yields_loadS (w.heap.size + 2) 0 zeroN.enc (by rw [Nd.enc_length zeroN_ok]; exact aggNodeI) (fun W hW j u hu => by rw [Nat.zero_add]; exact hW.2.1.at_ j (by rw [List.getElem?_toArray]; exact hu)) ?_ _ rfl rfl; rfl
                      try simp only [Act.put, List.setIfInBounds_toArray, List.set_cons_zero, List.set_cons_succ]
                      refine wpAnyH_ready (rs := [6]) (by kernel_rfl) (by simp) (AllReadyH.cons (o := ?oy67) ?hy67 (fun K hK => ?sy67) AllReadyH.nil)
                      case hy67 => simp only [List.getElem?_toArray, List.getElem?_cons_zero, List.getElem?_cons_succ]; rfl
                      refine stp_storeB D6.out aggNodeI HSX.out rfl rfl _ _ rfl rfl rfl rfl ?_
                      have hH2 := And.intro (hHeld.1.setRow (Nat.le_refl _) x.enc.toArray) (And.intro (hHeld.2.1.row_far (show w.heap.size + 2 ≠ w.heap.size by omega) x.enc.toArray) (hHeld.2.2.row_far (show g1 ≠ w.heap.size by omega) x.enc.toArray))
                      refine hK.out _ _ hH2 (fun _ => ?_)
                      have E6 := Lib.hid (D6.out.setRow x.enc.toArray)
                      have E7 := Lib.hid (D7.out.row_far hne' x.enc.toArray)
                      clear hK K hHeld D6 D7
                      try simp only [Act.put, List.setIfInBounds_toArray, List.set_cons_zero, List.set_cons_succ]
                      refine wpAnyH_ready (rs := [7]) (by kernel_rfl) (by simp) (AllReadyH.cons (o := ?oy68) ?hy68 (fun K hK => ?sy68) AllReadyH.nil)
                      case hy68 => simp only [List.getElem?_toArray, List.getElem?_cons_zero, List.getElem?_cons_succ]; rfl
                      refine stp_storeB E7.out aggNodeI HZ.out rfl rfl _ _ rfl rfl rfl rfl ?_
                      have hH3 := And.intro (hH2.1.setRow (Nat.le_succ _) zeroN.enc.toArray) (And.intro (hH2.2.1.row_far (show w.heap.size + 2 ≠ w.heap.size + 1 by omega) zeroN.enc.toArray) (hH2.2.2.row_far (show g1 ≠ w.heap.size + 1 by omega) zeroN.enc.toArray))
                      refine hK.out _ _ hH3 (fun _ => ?_)
                      have F6 := Lib.hid (E6.out.row_far hne zeroN.enc.toArray)
                      have F7 := Lib.hid (E7.out.setRow zeroN.enc.toArray)
                      have FX := Lib.hid hH3.1
                      clear hK K hH2 hH3 E6 E7
                      try simp only [Act.put, List.setIfInBounds_toArray, List.set_cons_zero, List.set_cons_succ]
                      refine wpAnyH_take (i := 8) (oi := ?oiz69) (v := ?vz69) ?hiz69 (by kernel_rfl) (by kernel_rfl) (by kernel_rfl) ?hQz69 ?hyz69 (by assumption) ?restz69
                      case hiz69 => simp only [List.getElem?_toArray, List.getElem?_cons_zero, List.getElem?_cons_succ]; rfl
                      case hQz69 => exact fun _ _ _ h => h
                      case hyz69 => exact Or.inl ⟨by rfl, by intro w hSw; (try dsimp only at hSw); go_simp; with_reducible rfl⟩
                      try simp only [Act.put, List.setIfInBounds_toArray, List.set_cons_zero, List.set_cons_succ]
                      refine wpAnyH_done (by kernel_rfl) ?_ _
                      go_wp2
                      refine bodyPost_ret (results_bbt rfl _ rfl rfl aggNodeI HSX.out.size HZ.out.size F6.out F7.out rfl) rfl ?_
                      exact ⟨by rw [HE.out.1, HE.out.2.1, HE.out.2.2, HXE.out, HYE.out]; rfl, FX.out⟩
                  · have l2 : j < P.length := by
                      rcases Nat.lt_or_ge j P.length with h | h
                      · exact h
                      · exact absurd (alike (by omega) (fun p hp => HM.out p (by omega))) NE.out
                    have HE := Lib.hid (show X = O.getD j zeroN ∧ Y = P.getD j zeroN ∧ c = 0 by
                      have h1 := HR.out.symm.trans HCL.out
                      rw [partN_eq O P j hk1 hk2 HM.out (.inl (by omega))] at h1
                      injection h1 with h1 h2
                      injection h2 with h2 h3
                      exact ⟨h1, h2, h3⟩)
                    obtain ⟨Ap, capp, ep, _, _, hrdp, hokp⟩ := id H'.out
                    injection ep with a1 a2 a3
                    subst a1 a3
                    obtain ⟨g2, o2, rfl, _, hcp⟩ := hrdp.elem hokp j l2
                    have hyo : tNd.ok P[j] := hokP.out _ (List.getElem_mem l2)
                    have hcy : ∀ W, Ext w W → ∀ i u, P[j].enc[i]? = some u → W.cell? ⟨g2, o2 + j * 66 + i, none⟩ = some u := fun W hW i u hu => hW.cell (hcp i u hu)
                    have hye := getD_lt l2
                    clear hcp hrdp hokp a2
                    generalize P[j] = y at hcy hyo hye
                    have HYE := Lib.hid hye
                    have HYO := Lib.hid (show y.ok from hyo)
                    have HSY := Lib.hid (Nd.st hyo)
                    have HCY := Lib.hid hcy
                    clear hyo hye hcy
                    have HXE := Lib.hid (getD_ge l1)
                    obtain rfl : j = O.length := by omega
                    have l4 : (O.length : Int) < (P.length : Int) := by omega
                    go_wp2_with fail
                    refine wp_region_held_drew (S := fun W => Ext w W ∧ Blk W (w.heap.size + 2) 31 zeroN.enc.toArray) (by kernel_rfl) ⟨(XW.out.trans HX.out).drew, (B9.out.ext HX.out).drewN 1⟩ (fun hHeld => ?_)
                    have D6 := Lib.hid (show Blk wr.drew w.heap.size 31 _ from (B6.out.ext HX.out).drewN 1)
                    have D7 := Lib.hid (show Blk wr.drew (w.heap.size + 1) 31 _ from (B7.out.ext HX.out).drewN 1)
                    generalize wr.drew = w9 at hHeld D6 D7 ⊢
                    refine wpAnyH_take (i := 0) (oi := ?oiz70) (v := (.agg zeroN.enc.toArray)) ?hiz70 (by kernel_rfl) (by kernel_rfl) (by kernel_rfl) ?hQz70 ?hyz70 (by assumption) ?restz70
                    case hiz70 => simp only [List.getElem?_toArray, List.getElem?_cons_zero, List.getElem?_cons_succ]; rfl
                    case hQz70 => exact fun _ _ _ h => h
                    case hyz70 => refine yields_loadS (w.heap.size + 2) 0 zeroN.enc (by rw [Nd.enc_length zeroN_ok]; exact aggNodeI) (fun W hW j u hu => by rw [Nat.zero_add]; exact hW.2.at_ j (by rw [List.getElem?_toArray]; exact hu)) ?_ _ rfl rfl; rfl
                    try simp only [Act.put, List.setIfInBounds_toArray, List.set_cons_zero, List.set_cons_succ]
                    refine wpAnyH_take (i := 1) (oi := ?oiz71) (v := ?vz71) ?hiz71 (by kernel_rfl) (by kernel_rfl) (by kernel_rfl) ?hQz71 ?hyz71 (by assumption) ?restz71
                    case hiz71 => simp only [List.getElem?_toArray, List.getElem?_cons_zero, List.getElem?_cons_succ]; rfl
                    case hQz71 => exact fun _ _ _ h => h
                    case hyz71 => exact Or.inl ⟨by rfl, by intro w hSw; (try dsimp only at hSw); go_simp; with_reducible rfl⟩
                    try simp only [Act.put, List.setIfInBounds_toArray, List.set_cons_zero, List.set_cons_succ]
                    refine wpAnyH_take (i := 2) (oi := ?oiz72) (v := ?vz72) ?hiz72 (by kernel_rfl) (by kernel_rfl) (by kernel_rfl) ?hQz72 ?hyz72 (by assumption) ?restz72
                    case hiz72 => simp only [List.getElem?_toArray, List.getElem?_cons_zero, List.getElem?_cons_succ]; rfl
                    case hQz72 => exact fun _ _ _ h => h
                    case hyz72 => exact Or.inl ⟨by rfl, by intro w hSw; (try dsimp only at hSw); go_simp; with_reducible rfl⟩
                    try simp only [Act.put, List.setIfInBounds_toArray, List.set_cons_zero, List.set_cons_succ]
                    refine wpAnyH_take (i := 3) (oi := ?oiz73) (v := ?vz73) ?hiz73 (by kernel_rfl) (by kernel_rfl) (by kernel_rfl) ?hQz73 ?hyz73 (by assumption) ?restz73
                    case hiz73 => simp only [List.getElem?_toArray, List.getElem?_cons_zero, List.getElem?_cons_succ]; rfl
                    case hQz73 => exact fun _ _ _ h => h
                    case hyz73 => exact Or.inl ⟨by rfl, by intro w hSw; (try dsimp only at hSw); go_simp; with_reducible rfl⟩
                    try simp only [Act.put, List.setIfInBounds_toArray, List.set_cons_zero, List.set_cons_succ]
                    refine wpAnyH_take (i := 4) (oi := ?oiz74) (v := ?vz74) ?hiz74 (by kernel_rfl) (by kernel_rfl) (by kernel_rfl) ?hQz74 ?hyz74 (by assumption) ?restz74
                    case hiz74 => simp only [List.getElem?_toArray, List.getElem?_cons_zero, List.getElem?_cons_succ]; rfl
                    case hQz74 => exact fun _ _ _ h => h
                    case hyz74 => exact Or.inl ⟨by rfl, by intro w hSw; (try dsimp only at hSw); go_simp; with_reducible rfl⟩
                    try simp only [Act.put, List.setIfInBounds_toArray, List.set_cons_zero, List.set_cons_succ]
                    refine wpAnyH_take (i := 5) (oi := ?oiz75) (v := (.agg y.enc.toArray)) ?hiz75 (by kernel_rfl) (by kernel_rfl) (by kernel_rfl) ?hQz75 ?hyz75 (by assumption) ?restz75
                    case hiz75 => simp only [List.getElem?_toArray, List.getElem?_cons_zero, List.getElem?_cons_succ]; rfl
                    case hQz75 => exact fun _ _ _ h => h
                    case hyz75 => refine yields_loadS g2 (o2 + O.length * 66) y.enc (by rw [Nd.enc_length HYO.out]; exact aggNodeI) (fun W hW i u hu => HCY.out W hW.1 i u hu) ?_ _ rfl rfl; rfl
                    try simp only [Act.put, List.setIfInBounds_toArray, List.set_cons_zero, List.set_cons_succ]
                    refine wpAnyH_ready (rs := [6]) (by kernel_rfl) (by simp) (AllReadyH.cons (o := ?oy76) ?hy76 (fun K hK => ?sy76) AllReadyH.nil)
                    case hy76 => simp only [List.getElem?_toArray, List.getElem?_cons_zero, List.getElem?_cons_succ]; rfl
                    refine stp_storeB D6.out aggNodeI HZ.out rfl rfl _ _ rfl rfl rfl rfl ?_
                    have hH2 := And.intro (hHeld.1.setRow (Nat.le_refl _) zeroN.enc.toArray) (hHeld.2.row_far (show w.heap.size + 2 ≠ w.heap.size by omega) zeroN.enc.toArray)
                    refine hK.out _ _ hH2 (fun _ => ?_)
                    have E6 := Lib.hid (D6.out.setRow zeroN.enc.toArray)
                    have E7 := Lib.hid (D7.out.row_far hne' zeroN.enc.toArray)
                    clear hK K hHeld D6 D7
                    try simp only [Act.put, List.setIfInBounds_toArray, List.set_cons_zero, List.set_cons_succ]
                    refine wpAnyH_ready (rs := [7]) (by kernel_rfl) (by simp) (AllReadyH.cons (o := ?oy77) ?hy77 (fun K hK => ?sy77) AllReadyH.nil)
                    case hy77 => simp only [List.getElem?_toArray, List.getElem?_cons_zero, List.getElem?_cons_succ]; rfl
                    refine stp_storeB E7.out aggNodeI HSY.out rfl rfl _ _ rfl rfl rfl rfl ?_
                    have hH3 := And.intro (hH2.1.setRow (Nat.le_succ _) y.enc.toArray) (hH2.2.row_far (show w.heap.size + 2 ≠ w.heap.size + 1 by omega) y.enc.toArray)
                    refine hK.out _ _ hH3 (fun _ => ?_)
                    have F6 := Lib.hid (E6.out.row_far hne y.enc.toArray)
                    have F7 := Lib.hid (E7.out.setRow y.enc.toArray)
                    have FX := Lib.hid hH3.1
                    clear hK K hH2 hH3 E6 E7
                    try simp only [Act.put, List.setIfInBounds_toArray, List.set_cons_zero, List.set_cons_succ]
                    refine wpAnyH_take (i := 8) (oi := ?oiz78) (v := ?vz78) ?hiz78 (by kernel_rfl) (by kernel_rfl) (by kernel_rfl) ?hQz78 ?hyz78 (by assumption) ?restz78
                    case hiz78 => simp only [List.getElem?_toArray, List.getElem?_cons_zero, List.getElem?_cons_succ]; rfl
                    case hQz78 => exact fun _ _ _ h => h
                    case hyz78 => exact Or.inl ⟨by rfl, by intro w hSw; (try dsimp only at hSw); go_simp; with_reducible rfl⟩
                    try simp only [Act.put, List.setIfInBounds_toArray, List.set_cons_zero, List.set_cons_succ]
                    refine wpAnyH_done (by kernel_rfl) ?_ _
                    go_wp2
                    refine bodyPost_ret (results_bbt rfl _ rfl rfl aggNodeI HZ.out.size HSY.out.size F6.out F7.out rfl) rfl ?_
                    exact ⟨by rw [HE.out.1, HE.out.2.1, HE.out.2.2, HXE.out, HYE.out]; rfl, FX.out⟩
            | true =>
              have hlt := hasE_lt hhe
              have hve : valE L s = (gE L (posE L s)).2 := by rw [valE, hhe, if_pos rfl]
              obtain ⟨k, hkk⟩ : ∃ k, posE L s = k := ⟨_, rfl⟩
              have e : findI L s = k := by rw [HF.out, hhe, hkk]; rfl
              simp only [e] at hf
              rw [hkk] at hlt hve
              rw [gE_lt hlt] at hve
              have hi : (0 : Int) ≤ (k : Int) := by omega
              have hi2 : (k : Int) < (L.length : Int) := by omega
              obtain ⟨A2, cap2, e2, _, _, hrd, hok⟩ := id H.out
              injection e2 with e3 e4 e5
              subst e3 e5
              obtain ⟨g, o, rfl, hs0, hcl⟩ := hrd.elem hok k hlt
              have HC := Lib.hid (show w.cell? ⟨g, o + k * 2 + 1, none⟩ = some (.string L[k].2) from hcl 1 _ rfl)
              rw [← hve] at HC
              obtain ⟨ve, hvv⟩ : ∃ ve, valE L s = ve := ⟨_, rfl⟩
              rw [hvv] at HC
              clear hrd hok hcl hs0 hve e e4
              cases c1 with
              | false =>
                have hno : ¬ ((chkR (trF L.length L).key s P).1 = hasE L s ∧ (chkR (trF L.length L).key s P).2.1 = valE L s) := fun h => by have := h.1; rw [hchk, hhe] at this; cases this
                have HNE := chk_ne hb hb2 hb3 h0 hno
                have HCL := clR_hit hall h0 hno
                have FO := Lib.hid (way_full (good_of hb hokL) s)
                have FP := Lib.hid (okNs_full hb3)
                have HTO := Lib.hid (trF_ok L.length L (good_of hb hokL))
                have hp := fun W hW => l04Path_any (.slice (some ⟨g, o, none⟩) L.length cap) L s (okE_incs hb).2 (good_of hb hokL) W S hW
                obtain ⟨X, Y, c, hR⟩ : ∃ X Y c, clR L s P = (X, Y, c) := ⟨_, _, _, rfl⟩
                rw [hR]
                have HR := Lib.hid hR
                obtain ⟨O, hO⟩ : ∃ O, (trF L.length L).way s = O := ⟨_, rfl⟩
                have hOs : (trF L.length L).sel (fun o => ltB s o) (fun o => ltB o s) = O := hO
                have HOO := Lib.hid (show ∀ x ∈ O, tNd.ok x from fun x hx => Tr.sel_ok (fun o => ltB s o) (fun o => ltB o s) (trF L.length L) HTO.out x (by rw [← hO] at hx; exact hx))
                rw [hO] at HCL HNE FO
                simp only [hOs] at hp
                have NE := Lib.hid HNE
                replace HCL := Lib.hid HCL
                obtain ⟨T, hT⟩ : ∃ T, trF L.length L = T := ⟨_, rfl⟩
                simp only [hT] at hnd hk HKK
                clear h0 hck hT hg3 h64 hall hb hb2 hb3 hokL hchk HF hno2 hhe HNE hR hno hO hOs HTO
                clear hvv hkk
                go_enter Try.func14, Try.ntmps14
                go_wp2_with (first
                  | (refine wpl_buildN rfl rfl built_zero ?_)
                  | (refine wpl_storeNewG (by simp) aggNodeI HZ.out rfl rfl _ _ rfl rfl rfl rfl ?_))
                refine (hc _ (H.out.ext (by decide) (((ext_alloc _ _).alloc _).alloc _))).mono ?_
                rintro e w2 ⟨rfl, hx⟩
                have B6 := Lib.hid ((((Blk.new w 31 _).alloc _).alloc _).ext hx)
                have B7 := Lib.hid (((Blk.new' (g := w.heap.size + 1) (by simp) 31 _).alloc _).ext hx)
                have B9 := Lib.hid ((Blk.new' (g := w.heap.size + 2) (by simp) 31 _).ext hx)
                have XW := Lib.hid ((((ext_alloc w _).alloc _).alloc _).trans hx)
                clear hx
                go_wp2_with fail
                refine (hn _).mono ?_
                rintro e w' ⟨rfl, rfl⟩
                go_wp2_with fail
                refine (ha _ (H'.out.ext (by decide) XW.out)).mono ?_
                rintro e w2 ⟨rfl, hx⟩
                replace B6 := Lib.hid (B6.out.ext hx)
                replace B7 := Lib.hid (B7.out.ext hx)
                replace B9 := Lib.hid (B9.out.ext hx)
                replace XW := Lib.hid (XW.out.trans hx)
                clear hx
                go_wp2_with fail
                refine (hnd _ (H.out.ext (by decide) XW.out)).mono ?_
                rintro e w2 ⟨v5, rfl, ho, hx⟩
                replace B6 := Lib.hid (B6.out.ext hx)
                replace B7 := Lib.hid (B7.out.ext hx)
                replace B9 := Lib.hid (B9.out.ext hx)
                replace XW := Lib.hid (XW.out.trans hx)
                obtain ⟨A5, n5, q5, rfl⟩ := ho.shape3
                clear ho hx
                go_wp2_with (first
                  | (refine wpl_storeNew aggKey HKK.out rfl rfl _ _ rfl rfl rfl rfl ?_)
                  | (refine wpl_loadN (Blk.new w2 27 _) aggKey HKK.out rfl _ rfl rfl ?_))
                refine (hk _ (H'.out.ext (by decide) (XW.out.alloc _))).mono ?_
                rintro e w2 ⟨rfl, hx⟩
                replace B6 := Lib.hid ((B6.out.alloc _).ext hx)
                replace B7 := Lib.hid ((B7.out.alloc _).ext hx)
                replace B9 := Lib.hid ((B9.out.alloc _).ext hx)
                replace XW := Lib.hid ((XW.out.alloc _).trans hx)
                clear hx
                go_wp2_with fail
                refine (hf _ (H.out.ext (by decide) XW.out)).mono ?_
                rintro e w' ⟨rfl, rfl⟩
                have hbig := B9.out.lt
                go_wp2_with fail
                refine (hp _ (H.out.ext (by decide) XW.out)).mono ?_
                rintro e w2 ⟨v6, rfl, ho, hx⟩
                replace B6 := Lib.hid (B6.out.ext hx)
                replace B7 := Lib.hid (B7.out.ext hx)
                replace B9 := Lib.hid (B9.out.ext hx)
                replace XW := Lib.hid (XW.out.trans hx)
                have HO := Lib.hid ho
                obtain ⟨A6, q6, rfl⟩ := ho.shape
                clear ho hx
                go_wp2_with fail
                go_loopw [18] (fun i wr => ∃ j : Nat, j ≤ O.length ∧ j ≤ P.length ∧ i = .int .i64 j ∧ (∀ p, p < j → O.getD p zeroN = P.getD p zeroN) ∧ Ext w2 wr) (fun i _ => P.length - (intOf i).toNat)
                case atStart => exact ⟨0, by omega, by omega, rfl, fun p hp => by omega, Ext.refl _⟩
                case round =>
                  obtain ⟨j, hk1, hk2, rfl, hm, hx⟩ := hrel
                  have HX := Lib.hid hx
                  have HM := Lib.hid hm
                  clear hx hm
                  have hj : (0 : Int) ≤ (j : Int) := by omega
                  by_cases l1 : j < O.length
                  · have hj1 : (j : Int) < (O.length : Int) := by omega
                    by_cases l2 : j < P.length
                    · have hj2 : (j : Int) < (P.length : Int) := by omega
                      obtain ⟨g1, cur, rfl, hg1, hbo, hcx⟩ := own_blk (HO.out.ext HX.out) j l1
                      have hxo : tNd.ok O[j] := HOO.out _ (List.getElem_mem l1)
                      have hxe := getD_lt l1
                      generalize O[j] = x at hcx hxo hxe
                      have HXE := Lib.hid hxe
                      have HXO := Lib.hid (show x.ok from hxo)
                      have HSX := Lib.hid (Nd.st hxo)
                      have HBO := Lib.hid hbo
                      have HCX := Lib.hid hcx
                      clear hbo hcx hxo hxe
                      obtain ⟨Ap, capp, ep, _, _, hrdp, hokp⟩ := id H'.out
                      injection ep with a1 a2 a3
                      subst a1 a3
                      obtain ⟨g2, o2, rfl, _, hcp⟩ := hrdp.elem hokp j l2
                      have hyo : tNd.ok P[j] := hokP.out _ (List.getElem_mem l2)
                      have hcy : ∀ W, Ext w W → ∀ i u, P[j].enc[i]? = some u → W.cell? ⟨g2, o2 + j * 66 + i, none⟩ = some u := fun W hW i u hu => hW.cell (hcp i u hu)
                      have hye := getD_lt l2
                      clear hcp hrdp hokp a2
                      generalize P[j] = y at hcy hyo hye
                      have HYE := Lib.hid hye
                      have HYO := Lib.hid (show y.ok from hyo)
                      have HSY := Lib.hid (Nd.st hyo)
                      have HCY := Lib.hid hcy
                      clear hyo hye hcy
                      by_cases hxy : x = y
                      · have hq : ∀ W, (binOp .neq 31 (.agg x.enc.toArray) (.agg y.enc.toArray)).run Try.prog W = .ok (.bool false) W := fun W => by rw [run_neqNd x y HXO.out HYO.out W, decide_eq_true hxy] <;> rfl
                        have HXY := Lib.hid hxy
                        clear hxy
                        go_wp2_with fail
                        refine wp_region_held_drew (S := fun W => Ext wr W) (by kernel_rfl) (Ext.refl _).drew (fun hHeld => ?_)
                        have HX2 := Lib.hid (show Ext w2 wr.drew from HX.out.drew)
                        have HBO2 := Lib.hid (show Blk wr.drew g1 31 cur from HBO.out.drewN 1)
                        generalize wr.drew = wz at hHeld HX2 HBO2 ⊢
                        refine wpAnyH_take (i := 0) (oi := ?oiz79) (v := ?vz79) ?hiz79 (by kernel_rfl) (by kernel_rfl) (by kernel_rfl) ?hQz79 ?hyz79 (by assumption) ?restz79
                        case hiz79 => simp only [List.getElem?_toArray, List.getElem?_cons_zero, List.getElem?_cons_succ]; rfl
                        case hQz79 => exact fun _ _ _ h => h
                        case hyz79 => exact Or.inl ⟨by rfl, by intro w hSw; (try dsimp only at hSw); go_simp; with_reducible rfl⟩
                        try simp only [Act.put, List.setIfInBounds_toArray, List.set_cons_zero, List.set_cons_succ]
                        refine wpAnyH_take (i := 1) (oi := ?oiz80) (v := ?vz80) ?hiz80 (by kernel_rfl) (by kernel_rfl) (by kernel_rfl) ?hQz80 ?hyz80 (by assumption) ?restz80
                        case hiz80 => simp only [List.getElem?_toArray, List.getElem?_cons_zero, List.getElem?_cons_succ]; rfl
                        case hQz80 => exact fun _ _ _ h => h
                        case hyz80 => exact Or.inl ⟨by rfl, by intro w hSw; (try dsimp only at hSw); go_simp; with_reducible rfl⟩
                        try simp only [Act.put, List.setIfInBounds_toArray, List.set_cons_zero, List.set_cons_succ]
                        refine wpAnyH_take (i := 2) (oi := ?oiz81) (v := ?vz81) ?hiz81 (by kernel_rfl) (by kernel_rfl) (by kernel_rfl) ?hQz81 ?hyz81 (by assumption) ?restz81
                        case hiz81 => simp only [List.getElem?_toArray, List.getElem?_cons_zero, List.getElem?_cons_succ]; rfl
                        case hQz81 => exact fun _ _ _ h => h
                        case hyz81 => exact Or.inl ⟨by rfl, by intro w hSw; (try dsimp only at hSw); go_simp; with_reducible rfl⟩
                        try simp only [Act.put, List.setIfInBounds_toArray, List.set_cons_zero, List.set_cons_succ]
                        refine wpAnyH_take (i := 3) (oi := ?oiz82) (v := (.agg x.enc.toArray)) ?hiz82 (by kernel_rfl) (by kernel_rfl) (by kernel_rfl) ?hQz82 ?hyz82 (by assumption) ?restz82
                        case hiz82 => simp only [List.getElem?_toArray, List.getElem?_cons_zero, List.getElem?_cons_succ]; rfl
                        case hQz82 => exact fun _ _ _ h => h
                        case hyz82 => refine yields_loadS g1 (j * 66) x.enc (by rw [Nd.enc_length HXO.out]; exact aggNodeI) (fun W hW i u hu => (HBO.out.ext hW).at_ _ (HCX.out i u hu)) ?_ _ rfl rfl; rfl
                        try simp only [Act.put, List.setIfInBounds_toArray, List.set_cons_zero, List.set_cons_succ]
                        refine wpAnyH_take (i := 4) (oi := ?oiz83) (v := ?vz83) ?hiz83 (by kernel_rfl) (by kernel_rfl) (by kernel_rfl) ?hQz83 ?hyz83 (by assumption) ?restz83
                        case hiz83 => simp only [List.getElem?_toArray, List.getElem?_cons_zero, List.getElem?_cons_succ]; rfl
                        case hQz83 => exact fun _ _ _ h => h
                        case hyz83 => exact Or.inl ⟨by rfl, by intro w hSw; (try dsimp only at hSw); go_simp; with_reducible rfl⟩
                        try simp only [Act.put, List.setIfInBounds_toArray, List.set_cons_zero, List.set_cons_succ]
                        refine wpAnyH_take (i := 5) (oi := ?oiz84) (v := ?vz84) ?hiz84 (by kernel_rfl) (by kernel_rfl) (by kernel_rfl) ?hQz84 ?hyz84 (by assumption) ?restz84
                        case hiz84 => simp only [List.getElem?_toArray, List.getElem?_cons_zero, List.getElem?_cons_succ]; rfl
                        case hQz84 => exact fun _ _ _ h => h
                        case hyz84 => exact Or.inl ⟨by rfl, by intro w hSw; (try dsimp only at hSw); go_simp; with_reducible rfl⟩
                        try simp only [Act.put, List.setIfInBounds_toArray, List.set_cons_zero, List.set_cons_succ]
                        refine wpAnyH_take (i := 6) (oi := ?oiz85) (v := ?vz85) ?hiz85 (by kernel_rfl) (by kernel_rfl) (by kernel_rfl) ?hQz85 ?hyz85 (by assumption) ?restz85
                        case hiz85 => simp only [List.getElem?_toArray, List.getElem?_cons_zero, List.getElem?_cons_succ]; rfl
                        case hQz85 => exact fun _ _ _ h => h
                        case hyz85 => exact Or.inl ⟨by rfl, by intro w hSw; (try dsimp only at hSw); go_simp; with_reducible rfl⟩
                        try simp only [Act.put, List.setIfInBounds_toArray, List.set_cons_zero, List.set_cons_succ]
                        refine wpAnyH_take (i := 7) (oi := ?oiz86) (v := (.agg y.enc.toArray)) ?hiz86 (by kernel_rfl) (by kernel_rfl) (by kernel_rfl) ?hQz86 ?hyz86 (by assumption) ?restz86
                        case hiz86 => simp only [List.getElem?_toArray, List.getElem?_cons_zero, List.getElem?_cons_succ]; rfl
                        case hQz86 => exact fun _ _ _ h => h
                        case hyz86 => refine yields_loadS g2 (o2 + j * 66) y.enc (by rw [Nd.enc_length HYO.out]; exact aggNodeI) (fun W hW i u hu => HCY.out W ((XW.out.trans HX.out).trans hW) i u hu) ?_ _ rfl rfl; rfl
                        try simp only [Act.put, List.setIfInBounds_toArray, List.set_cons_zero, List.set_cons_succ]
                        refine wpAnyH_take (i := 8) (oi := ?oiz87) (v := ?vz87) ?hiz87 (by kernel_rfl) (by kernel_rfl) (by kernel_rfl) ?hQz87 ?hyz87 (by assumption) ?restz87
                        case hiz87 => simp only [List.getElem?_toArray, List.getElem?_cons_zero, List.getElem?_cons_succ]; rfl
                        case hQz87 => exact fun _ _ _ h => h
                        case hyz87 => exact Or.inl ⟨by rfl, by intro w hSw; (try dsimp only at hSw); go_simp; with_reducible rfl⟩
                        try simp only [Act.put, List.setIfInBounds_toArray, List.set_cons_zero, List.set_cons_succ]
                        refine wpAnyH_done (by kernel_rfl) ?_ _
                        clear hHeld
                        go_wp2
                        go_roundw
                        case rel => exact ⟨j + 1, by omega, by omega, by go_num, (fun p hp => by
                          by_cases e : p = j
                          · subst e; rw [HXE.out, HYE.out]; exact HXY.out
                          · exact HM.out p (by omega)), HX2.out⟩
                        case measure => simp [intOf]; omega
                      · have hq : ∀ W, (binOp .neq 31 (.agg x.enc.toArray) (.agg y.enc.toArray)).run Try.prog W = .ok (.bool true) W := fun W => by rw [run_neqNd x y HXO.out HYO.out W, decide_eq_false hxy] <;> rfl
                        have HE := Lib.hid (show X = O.getD j zeroN ∧ Y = P.getD j zeroN ∧ c = 0 by
                          have h1 := HR.out.symm.trans HCL.out
                          rw [partN_eq O P j hk1 hk2 HM.out (.inr (.inr (by rw [HXE.out, HYE.out]; exact hxy)))] at h1
                          injection h1 with h1 h2
                          injection h2 with h2 h3
                          exact ⟨h1, h2, h3⟩)
                        clear hxy
                        go_wp2_with fail
                        refine wp_region_held_drew (S := fun W => Ext wr W) (by kernel_rfl) (Ext.refl _).drew (fun hHeld => ?_)
                        have HX2 := Lib.hid (show Ext w2 wr.drew from HX.out.drew)
                        have HBO2 := Lib.hid (show Blk wr.drew g1 31 cur from HBO.out.drewN 1)
                        generalize wr.drew = wz at hHeld HX2 HBO2 ⊢
                        refine wpAnyH_take (i := 0) (oi := ?oiz88) (v := ?vz88) ?hiz88 (by kernel_rfl) (by kernel_rfl) (by kernel_rfl) ?hQz88 ?hyz88 (by assumption) ?restz88
                        case hiz88 => simp only [List.getElem?_toArray, List.getElem?_cons_zero, List.getElem?_cons_succ]; rfl
                        case hQz88 => exact fun _ _ _ h => h
                        case hyz88 => exact Or.inl ⟨by rfl, by intro w hSw; (try dsimp only at hSw); go_simp; with_reducible rfl⟩
                        try simp only [Act.put, List.setIfInBounds_toArray, List.set_cons_zero, List.set_cons_succ]
                        refine wpAnyH_take (i := 1) (oi := ?oiz89) (v := ?vz89) ?hiz89 (by kernel_rfl) (by kernel_rfl) (by kernel_rfl) ?hQz89 ?hyz89 (by assumption) ?restz89
                        case hiz89 => simp only [List.getElem?_toArray, List.getElem?_cons_zero, List.getElem?_cons_succ]; rfl
                        case hQz89 => exact fun _ _ _ h => h
                        case hyz89 => exact Or.inl ⟨by rfl, by intro w hSw; (try dsimp only at hSw); go_simp; with_reducible rfl⟩
                        try simp only [Act.put, List.setIfInBounds_toArray, List.set_cons_zero, List.set_cons_succ]
                        refine wpAnyH_take (i := 2) (oi := ?oiz90) (v := ?vz90) ?hiz90 (by kernel_rfl) (by kernel_rfl) (by kernel_rfl) ?hQz90 ?hyz90 (by assumption) ?restz90
                        case hiz90 => simp only [List.getElem?_toArray, List.getElem?_cons_zero, List.getElem?_cons_succ]; rfl
                        case hQz90 => exact fun _ _ _ h => h
                        case hyz90 => exact Or.inl ⟨by rfl, by intro w hSw; (try dsimp only at hSw); go_simp; with_reducible rfl⟩
                        try simp only [Act.put, List.setIfInBounds_toArray, List.set_cons_zero, List.set_cons_succ]
                        refine wpAnyH_take (i := 3) (oi := ?oiz91) (v := (.agg x.enc.toArray)) ?hiz91 (by kernel_rfl) (by kernel_rfl) (by kernel_rfl) ?hQz91 ?hyz91 (by assumption) ?restz91
                        case hiz91 => simp only [List.getElem?_toArray, List.getElem?_cons_zero, List.getElem?_cons_succ]; rfl
                        case hQz91 => exact fun _ _ _ h => h
                        case hyz91 => refine yields_loadS g1 (j * 66) x.enc (by rw [Nd.enc_length HXO.out]; exact aggNodeI) (fun W hW i u hu => (HBO.out.ext hW).at_ _ (HCX.out i u hu)) ?_ _ rfl rfl; rfl
                        try simp only [Act.put, List.setIfInBounds_toArray, List.set_cons_zero, List.set_cons_succ]
                        refine wpAnyH_take (i := 4) (oi := ?oiz92) (v := ?vz92) ?hiz92 (by kernel_rfl) (by kernel_rfl) (by kernel_rfl) ?hQz92 ?hyz92 (by assumption) ?restz92
                        case hiz92 => simp only [List.getElem?_toArray, List.getElem?_cons_zero, List.getElem?_cons_succ]; rfl
                        case hQz92 => exact fun _ _ _ h => h
                        case hyz92 => exact Or.inl ⟨by rfl, by intro w hSw; (try dsimp only at hSw); go_simp; with_reducible rfl⟩
                        try simp only [Act.put, List.setIfInBounds_toArray, List.set_cons_zero, List.set_cons_succ]
                        refine wpAnyH_take (i := 5) (oi := ?oiz93) (v := ?vz93) ?hiz93 (by kernel_rfl) (by kernel_rfl) (by kernel_rfl) ?hQz93 ?hyz93 (by assumption) ?restz93
                        case hiz93 => simp only [List.getElem?_toArray, List.getElem?_cons_zero, List.getElem?_cons_succ]; rfl
                        case hQz93 => exact fun _ _ _ h => h
                        case hyz93 => exact Or.inl ⟨by rfl, by intro w hSw; (try dsimp only at hSw); go_simp; with_reducible rfl⟩
                        try simp only [Act.put, List.setIfInBounds_toArray, List.set_cons_zero, List.set_cons_succ]
                        refine wpAnyH_take (i := 6) (oi := ?oiz94) (v := ?vz94) ?hiz94 (by kernel_rfl) (by kernel_rfl) (by kernel_rfl) ?hQz94 ?hyz94 (by assumption) ?restz94
                        case hiz94 => simp only [List.getElem?_toArray, List.getElem?_cons_zero, List.getElem?_cons_succ]; rfl
                        case hQz94 => exact fun _ _ _ h => h
                        case hyz94 => exact Or.inl ⟨by rfl, by intro w hSw; (try dsimp only at hSw); go_simp; with_reducible rfl⟩
                        try simp only [Act.put, List.setIfInBounds_toArray, List.set_cons_zero, List.set_cons_succ]
                        refine wpAnyH_take (i := 7) (oi := ?oiz95) (v := (.agg y.enc.toArray)) ?hiz95 (by kernel_rfl) (by kernel_rfl) (by kernel_rfl) ?hQz95 ?hyz95 (by assumption) ?restz95
                        case hiz95 => simp only [List.getElem?_toArray, List.getElem?_cons_zero, List.getElem?_cons_succ]; rfl
                        case hQz95 => exact fun _ _ _ h => h
                        case hyz95 => refine yields_loadS g2 (o2 + j * 66) y.enc (by rw [Nd.enc_length HYO.out]; exact aggNodeI) (fun W hW i u hu => HCY.out W ((XW.out.trans HX.out).trans hW) i u hu) ?_ _ rfl rfl; rfl
                        try simp only [Act.put, List.setIfInBounds_toArray, List.set_cons_zero, List.set_cons_succ]
                        refine wpAnyH_take (i := 8) (oi := ?oiz96) (v := ?vz96) ?hiz96 (by kernel_rfl) (by kernel_rfl) (by kernel_rfl) ?hQz96 ?hyz96 (by assumption) ?restz96
                        case hiz96 => simp only [List.getElem?_toArray, List.getElem?_cons_zero, List.getElem?_cons_succ]; rfl
                        case hQz96 => exact fun _ _ _ h => h
                        case hyz96 => exact Or.inl ⟨by rfl, by intro w hSw; (try dsimp only at hSw); go_simp; with_reducible rfl⟩
                        try simp only [Act.put, List.setIfInBounds_toArray, List.set_cons_zero, List.set_cons_succ]
                        refine wpAnyH_done (by kernel_rfl) ?_ _
                        clear hHeld
                        go_wp2_with fail
                        refine wp_region_held_drew (S := fun W => Ext w W ∧ Blk W (w.heap.size + 2) 31 zeroN.enc.toArray ∧ Blk W g1 31 cur) (by kernel_rfl) ⟨(XW.out.trans HX2.out).drew, (B9.out.ext HX2.out).drewN 1, HBO2.out.drewN 1⟩ (fun hHeld => ?_)
                        have D6 := Lib.hid (show Blk wz.drew w.heap.size 31 _ from (B6.out.ext HX2.out).drewN 1)
                        have D7 := Lib.hid (show Blk wz.drew (w.heap.size + 1) 31 _ from (B7.out.ext HX2.out).drewN 1)
                        generalize wz.drew = w9 at hHeld D6 D7 ⊢
                        refine wpAnyH_take (i := 0) (oi := ?oiz97) (v := ?vz97) ?hiz97 (by kernel_rfl) (by kernel_rfl) (by kernel_rfl) ?hQz97 ?hyz97 (by assumption) ?restz97
                        case hiz97 => simp only [List.getElem?_toArray, List.getElem?_cons_zero, List.getElem?_cons_succ]; rfl
                        case hQz97 => exact fun _ _ _ h => h
                        case hyz97 => exact Or.inl ⟨by rfl, by intro w hSw; (try dsimp only at hSw); go_simp; with_reducible rfl⟩
                        try simp only [Act.put, List.setIfInBounds_toArray, List.set_cons_zero, List.set_cons_succ]
                        refine wpAnyH_take (i := 1) (oi := ?oiz98) (v := ?vz98) ?hiz98 (by kernel_rfl) (by kernel_rfl) (by kernel_rfl) ?hQz98 ?hyz98 (by assumption) ?restz98
                        case hiz98 => simp only [List.getElem?_toArray, List.getElem?_cons_zero, List.getElem?_cons_succ]; rfl
                        case hQz98 => exact fun _ _ _ h => h
                        case hyz98 => exact Or.inl ⟨by rfl, by intro w hSw; (try dsimp only at hSw); go_simp; with_reducible rfl⟩
                        try simp only [Act.put, List.setIfInBounds_toArray, List.set_cons_zero, List.set_cons_succ]
                        refine wpAnyH_take (i := 2) (oi := ?oiz99) (v := ?vz99) ?hiz99 (by kernel_rfl) (by kernel_rfl) (by kernel_rfl) ?hQz99 ?hyz99 (by assumption) ?restz99
                        case hiz99 => simp only [List.getElem?_toArray, List.getElem?_cons_zero, List.getElem?_cons_succ]; rfl
                        case hQz99 => exact fun _ _ _ h => h
                        case hyz99 => exact Or.inl ⟨by rfl, by intro w hSw; (try dsimp only at hSw); go_simp; with_reducible rfl⟩
                        try simp only [Act.put, List.setIfInBounds_toArray, List.set_cons_zero, List.set_cons_succ]
                        refine wpAnyH_take (i := 3) (oi := ?oiz100) (v := (.agg x.enc.toArray)) ?hiz100 (by kernel_rfl) (by kernel_rfl) (by kernel_rfl) ?hQz100 ?hyz100 (by assumption) ?restz100
                        case hiz100 => simp only [List.getElem?_toArray, List.getElem?_cons_zero, List.getElem?_cons_succ]; rfl
                        case hQz100 => exact fun _ _ _ h => h
                        case hyz100 => refine yields_loadS g1 (j * 66) x.enc (by rw [Nd.enc_length HXO.out]; exact aggNodeI) (fun W hW i u hu => hW.2.2.at_ _ (HCX.out i u hu)) ?_ _ rfl rfl; rfl
                        try simp only [Act.put, List.setIfInBounds_toArray, List.set_cons_zero, List.set_cons_succ]
                        refine wpAnyH_take (i := 4) (oi := ?oiz101) (v := ?vz101) ?hiz101 (by kernel_rfl) (by kernel_rfl) (by kernel_rfl) ?hQz101 ?hyz101 (by assumption) ?restz101
                        case hiz101 => simp only [List.getElem?_toArray, List.getElem?_cons_zero, List.getElem?_cons_succ]; rfl
                        case hQz101 => exact fun _ _ _ h => h
                        case hyz101 => exact Or.inl ⟨by rfl, by intro w hSw; (try dsimp only at hSw); go_simp; with_reducible rfl⟩
                        try simp only [Act.put, List.setIfInBounds_toArray, List.set_cons_zero, List.set_cons_succ]
                        refine wpAnyH_take (i := 5) (oi := ?oiz102) (v := ?vz102) ?hiz102 (by kernel_rfl) (by kernel_rfl) (by kernel_rfl) ?hQz102 ?hyz102 (by assumption) ?restz102
                        case hiz102 => simp only [List.getElem?_toArray, List.getElem?_cons_zero, List.getElem?_cons_succ]; rfl
                        case hQz102 => exact fun _ _ _ h => h
                        case hyz102 => exact Or.inl ⟨by rfl, by intro w hSw; (try dsimp only at hSw); go_simp; with_reducible rfl⟩
                        try simp only [Act.put, List.setIfInBounds_toArray, List.set_cons_zero, List.set_cons_succ]
                        refine wpAnyH_take (i := 6) (oi := ?oiz103) (v := ?vz103) ?hiz103 (by kernel_rfl) (by kernel_rfl) (by kernel_rfl) ?hQz103 ?hyz103 (by assumption) ?restz103
                        case hiz103 => simp only [List.getElem?_toArray, List.getElem?_cons_zero, List.getElem?_cons_succ]; rfl
                        case hQz103 => exact fun _ _ _ h => h
                        case hyz103 => exact Or.inl ⟨by rfl, by intro w hSw; (try dsimp only at hSw); go_simp; with_reducible rfl⟩
                        try simp only [Act.put, List.setIfInBounds_toArray, List.set_cons_zero, List.set_cons_succ]
                        refine wpAnyH_take (i := 7) (oi := ?oiz104) (v := (.agg y.enc.toArray)) ?hiz104 (by kernel_rfl) (by kernel_rfl) (by kernel_rfl) ?hQz104 ?hyz104 (by assumption) ?restz104
                        case hiz104 => simp only [List.getElem?_toArray, List.getElem?_cons_zero, List.getElem?_cons_succ]; rfl
                        case hQz104 => exact fun _ _ _ h => h
                        case hyz104 => refine yields_loadS g2 (o2 + j * 66) y.enc (by rw [Nd.enc_length HYO.out]; exact aggNodeI) (fun W hW i u hu => HCY.out W hW.1 i u hu) ?_ _ rfl rfl; rfl
                        try simp only [Act.put, List.setIfInBounds_toArray, List.set_cons_zero, List.set_cons_succ]
                        refine wpAnyH_ready (rs := [8]) (by kernel_rfl) (by simp) (AllReadyH.cons (o := ?oy105) ?hy105 (fun K hK => ?sy105) AllReadyH.nil)
                        case hy105 => simp only [List.getElem?_toArray, List.getElem?_cons_zero, List.getElem?_cons_succ]; rfl
                        refine stp_storeB D6.out aggNodeI HSX.out rfl rfl _ _ rfl rfl rfl rfl ?_
                        have hH2 := And.intro (hHeld.1.setRow (Nat.le_refl _) x.enc.toArray) (And.intro (hHeld.2.1.row_far (show w.heap.size + 2 ≠ w.heap.size by omega) x.enc.toArray) (hHeld.2.2.row_far (show g1 ≠ w.heap.size by omega) x.enc.toArray))
                        refine hK.out _ _ hH2 (fun _ => ?_)
                        have E6 := Lib.hid (D6.out.setRow x.enc.toArray)
                        have E7 := Lib.hid (D7.out.row_far hne' x.enc.toArray)
                        clear hK K hHeld D6 D7
                        try simp only [Act.put, List.setIfInBounds_toArray, List.set_cons_zero, List.set_cons_succ]
                        refine wpAnyH_ready (rs := [9]) (by kernel_rfl) (by simp) (AllReadyH.cons (o := ?oy106) ?hy106 (fun K hK => ?sy106) AllReadyH.nil)
                        case hy106 => simp only [List.getElem?_toArray, List.getElem?_cons_zero, List.getElem?_cons_succ]; rfl
                        refine stp_storeB E7.out aggNodeI HSY.out rfl rfl _ _ rfl rfl rfl rfl ?_
                        have hH3 := And.intro (hH2.1.setRow (Nat.le_succ _) y.enc.toArray) (And.intro (hH2.2.1.row_far (show w.heap.size + 2 ≠ w.heap.size + 1 by omega) y.enc.toArray) (hH2.2.2.row_far (show g1 ≠ w.heap.size + 1 by omega) y.enc.toArray))
                        refine hK.out _ _ hH3 (fun _ => ?_)
                        have F6 := Lib.hid (E6.out.row_far hne y.enc.toArray)
                        have F7 := Lib.hid (E7.out.setRow y.enc.toArray)
                        have FX := Lib.hid hH3.1
                        clear hK K hH2 hH3 E6 E7
                        try simp only [Act.put, List.setIfInBounds_toArray, List.set_cons_zero, List.set_cons_succ]
                        refine wpAnyH_take (i := 10) (oi := ?oiz107) (v := ?vz107) ?hiz107 (by kernel_rfl) (by kernel_rfl) (by kernel_rfl) ?hQz107 ?hyz107 (by assumption) ?restz107
                        case hiz107 => simp only [List.getElem?_toArray, List.getElem?_cons_zero, List.getElem?_cons_succ]; rfl
                        case hQz107 => exact fun _ _ _ h => h
                        case hyz107 => exact Or.inl ⟨by rfl, by intro w hSw; (try dsimp only at hSw); go_simp; with_reducible rfl⟩
                        try simp only [Act.put, List.setIfInBounds_toArray, List.set_cons_zero, List.set_cons_succ]
                        refine wpAnyH_done (by kernel_rfl) ?_ _
                        go_wp2
                        refine bodyPost_ret (results_bbt rfl _ rfl rfl aggNodeI HSX.out.size HSY.out.size F6.out F7.out rfl) rfl ?_
                        exact ⟨by rw [HE.out.1, HE.out.2.1, HE.out.2.2, HXE.out, HYE.out]; rfl, FX.out⟩
                    · have l3 : P.length < O.length := by omega
                      have HE := Lib.hid (show X = O.getD j zeroN ∧ Y = P.getD j zeroN ∧ c = 0 by
                        have h1 := HR.out.symm.trans HCL.out
                        rw [partN_eq O P j hk1 hk2 HM.out (.inr (.inl (by omega)))] at h1
                        injection h1 with h1 h2
                        injection h2 with h2 h3
                        exact ⟨h1, h2, h3⟩)
                      obtain ⟨g1, cur, rfl, hg1, hbo, hcx⟩ := own_blk (HO.out.ext HX.out) j l1
                      have hxo : tNd.ok O[j] := HOO.out _ (List.getElem_mem l1)
                      have hxe := getD_lt l1
                      generalize O[j] = x at hcx hxo hxe
                      have HXE := Lib.hid hxe
                      have HXO := Lib.hid (show x.ok from hxo)
                      have HSX := Lib.hid (Nd.st hxo)
                      have HBO := Lib.hid hbo
                      have HCX := Lib.hid hcx
                      clear hbo hcx hxo hxe
                      have HYE := Lib.hid (getD_ge l2)
                      obtain rfl : j = P.length := by omega
                      have l4 : ¬ (O.length : Int) < (P.length : Int) := by omega
                      go_wp2_with fail
                      refine wp_region_held_drew (S := fun W => Ext w W ∧ Blk W (w.heap.size + 2) 31 zeroN.enc.toArray ∧ Blk W g1 31 cur) (by kernel_rfl) ⟨(XW.out.trans HX.out).drew, (B9.out.ext HX.out).drewN 1, HBO.out.drewN 1⟩ (fun hHeld => ?_)
                      have D6 := Lib.hid (show Blk wr.drew w.heap.size 31 _ from (B6.out.ext HX.out).drewN 1)
                      have D7 := Lib.hid (show Blk wr.drew (w.heap.size + 1) 31 _ from (B7.out.ext HX.out).drewN 1)
                      generalize wr.drew = w9 at hHeld D6 D7 ⊢
                      refine wpAnyH_take (i := 0) (oi := ?oiz108) (v := ?vz108) ?hiz108 (by kernel_rfl) (by kernel_rfl) (by kernel_rfl) ?hQz108 ?hyz108 (by assumption) ?restz108
                      case hiz108 => simp only [List.getElem?_toArray, List.getElem?_cons_zero, List.getElem?_cons_succ]; rfl
                      case hQz108 => exact fun _ _ _ h => h
                      case hyz108 => exact Or.inl ⟨by rfl, by intro w hSw; (try dsimp only at hSw); go_simp; with_reducible rfl⟩
                      try simp only [Act.put, List.setIfInBounds_toArray, List.set_cons_zero, List.set_cons_succ]
                      refine wpAnyH_take (i := 1) (oi := ?oiz109) (v := ?vz109) ?hiz109 (by kernel_rfl) (by kernel_rfl) (by kernel_rfl) ?hQz109 ?hyz109 (by assumption) ?restz109
                      case hiz109 => simp only [List.getElem?_toArray, List.getElem?_cons_zero, List.getElem?_cons_succ]; rfl
                      case hQz109 => exact fun _ _ _ h => h
                      case hyz109 => exact Or.inl ⟨by rfl, by intro w hSw; (try dsimp only at hSw); go_simp; with_reducible rfl⟩
                      try simp only [Act.put, List.setIfInBounds_toArray, List.set_cons_zero, List.set_cons_succ]
                      refine wpAnyH_take (i := 2) (oi := ?oiz110) (v := ?vz110) ?hiz110 (by kernel_rfl) (by kernel_rfl) (by kernel_rfl) ?hQz110 ?hyz110 (by assumption) ?restz110
                      case hiz110 => simp only [List.getElem?_toArray, List.getElem?_cons_zero, List.getElem?_cons_succ]; rfl
                      case hQz110 => exact fun _ _ _ h => h
                      case hyz110 => exact Or.inl ⟨by rfl, by intro w hSw; (try dsimp only at hSw); go_simp; with_reducible rfl⟩
                      try simp only [Act.put, List.setIfInBounds_toArray, List.set_cons_zero, List.set_cons_succ]
                      refine wpAnyH_take (i := 3) (oi := ?oiz111) (v := ?vz111) ?hiz111 (by kernel_rfl) (by kernel_rfl) (by kernel_rfl) ?hQz111 ?hyz111 (by assumption) ?restz111
                      case hiz111 => simp only [List.getElem?_toArray, List.getElem?_cons_zero, List.getElem?_cons_succ]; rfl
                      case hQz111 => exact fun _ _ _ h => h
                      case hyz111 => exact Or.inl ⟨by rfl, by intro w hSw; (try dsimp only at hSw); go_simp; with_reducible rfl⟩
                      try simp only [Act.put, List.setIfInBounds_toArray, List.set_cons_zero, List.set_cons_succ]
                      refine wpAnyH_take (i := 4) (oi := ?oiz112) (v := (.agg x.enc.toArray)) ?hiz112 (by kernel_rfl) (by kernel_rfl) (by kernel_rfl) ?hQz112 ?hyz112 (by assumption) ?restz112
                      case hiz112 => simp only [List.getElem?_toArray, List.getElem?_cons_zero, List.getElem?_cons_succ]; rfl
                      case hQz112 => exact fun _ _ _ h => h
                      case hyz112 => refine yields_loadS g1 (P.length * 66) x.enc (by rw [Nd.enc_length HXO.out]; exact aggNodeI) (fun W hW i u hu => hW.2.2.at_ _ (HCX.out i u hu)) ?_ _ rfl rfl; rfl
                      try simp only [Act.put, List.setIfInBounds_toArray, List.set_cons_zero, List.set_cons_succ]
                      refine wpAnyH_take (i := 5) (oi := ?oiz113) (v := (.agg zeroN.enc.toArray)) ?hiz113 (by kernel_rfl) (by kernel_rfl) (by kernel_rfl) ?hQz113 ?hyz113 (by assumption) ?restz113
                      case hiz113 => simp only [List.getElem?_toArray, List.getElem?_cons_zero, List.getElem?_cons_succ]; rfl
                      case hQz113 => exact fun _ _ _ h => h
                      case hyz113 => refine yields_loadS (w.heap.size + 2) 0 zeroN.enc (by rw [Nd.enc_length zeroN_ok]; exact aggNodeI) (fun W hW j u hu => by rw [Nat.zero_add]; exact hW.2.1.at_ j (by rw [List.getElem?_toArray]; exact hu)) ?_ _ rfl rfl; rfl
                      try simp only [Act.put, List.setIfInBounds_toArray, List.set_cons_zero, List.set_cons_succ]
                      refine wpAnyH_ready (rs := [6]) (by kernel_rfl) (by simp) (AllReadyH.cons (o := ?oy114) ?hy114 (fun K hK => ?sy114) AllReadyH.nil)
                      case hy114 => simp only [List.getElem?_toArray, List.getElem?_cons_zero, List.getElem?_cons_succ]; rfl
                      refine stp_storeB D6.out aggNodeI HSX.out rfl rfl _ _ rfl rfl rfl rfl ?_
                      have hH2 := And.intro (hHeld.1.setRow (Nat.le_refl _) x.enc.toArray) (And.intro (hHeld.2.1.row_far (show w.heap.size + 2 ≠ w.heap.size by omega) x.enc.toArray) (hHeld.2.2.row_far (show g1 ≠ w.heap.size by omega) x.enc.toArray))
                      refine hK.out _ _ hH2 (fun _ => ?_)
                      have E6 := Lib.hid (D6.out.setRow x.enc.toArray)
                      have E7 := Lib.hid (D7.out.row_far hne' x.enc.toArray)
                      clear hK K hHeld D6 D7
                      try simp only [Act.put, List.setIfInBounds_toArray, List.set_cons_zero, List.set_cons_succ]
                      refine wpAnyH_ready (rs := [7]) (by kernel_rfl) (by simp) (AllReadyH.cons (o := ?oy115) ?hy115 (fun K hK => ?sy115) AllReadyH.nil)
                      case hy115 => simp only [List.getElem?_toArray, List.getElem?_cons_zero, List.getElem?_cons_succ]; rfl
                      refine stp_storeB E7.out aggNodeI HZ.out rfl rfl _ _ rfl rfl rfl rfl ?_
                      have hH3 := And.intro (hH2.1.setRow (Nat.le_succ _) zeroN.enc.toArray) (And.intro (hH2.2.1.row_far (show w.heap.size + 2 ≠ w.heap.size + 1 by omega) zeroN.enc.toArray) (hH2.2.2.row_far (show g1 ≠ w.heap.size + 1 by omega) zeroN.enc.toArray))
                      refine hK.out _ _ hH3 (fun _ => ?_)
                      have F6 := Lib.hid (E6.out.row_far hne zeroN.enc.toArray)
                      have F7 := Lib.hid (E7.out.setRow zeroN.enc.toArray)
                      have FX := Lib.hid hH3.1
                      clear hK K hH2 hH3 E6 E7
                      try simp only [Act.put, List.setIfInBounds_toArray, List.set_cons_zero, List.set_cons_succ]
                      refine wpAnyH_take (i := 8) (oi := ?oiz116) (v := ?vz116) ?hiz116 (by kernel_rfl) (by kernel_rfl) (by kernel_rfl) ?hQz116 ?hyz116 (by assumption) ?restz116
                      case hiz116 => simp only [List.getElem?_toArray, List.getElem?_cons_zero, List.getElem?_cons_succ]; rfl
                      case hQz116 => exact fun _ _ _ h => h
                      case hyz116 => exact Or.inl ⟨by rfl, by intro w hSw; (try dsimp only at hSw); go_simp; with_reducible rfl⟩
                      try simp only [Act.put, List.setIfInBounds_toArray, List.set_cons_zero, List.set_cons_succ]
                      refine wpAnyH_done (by kernel_rfl) ?_ _
                      go_wp2
                      refine bodyPost_ret (results_bbt rfl _ rfl rfl aggNodeI HSX.out.size HZ.out.size F6.out F7.out rfl) rfl ?_
                      exact ⟨by rw [HE.out.1, HE.out.2.1, HE.out.2.2, HXE.out, HYE.out]; rfl, FX.out⟩
                  · have l2 : j < P.length := by
                      rcases Nat.lt_or_ge j P.length with h | h
                      · exact h
                      · exact absurd (alike (by omega) (fun p hp => HM.out p (by omega))) NE.out
                    have HE := Lib.hid (show X = O.getD j zeroN ∧ Y = P.getD j zeroN ∧ c = 0 by
                      have h1 := HR.out.symm.trans HCL.out
                      rw [partN_eq O P j hk1 hk2 HM.out (.inl (by omega))] at h1
                      injection h1 with h1 h2
                      injection h2 with h2 h3
                      exact ⟨h1, h2, h3⟩)
                    obtain ⟨Ap, capp, ep, _, _, hrdp, hokp⟩ := id H'.out
                    injection ep with a1 a2 a3
                    subst a1 a3
                    obtain ⟨g2, o2, rfl, _, hcp⟩ := hrdp.elem hokp j l2
                    have hyo : tNd.ok P[j] := hokP.out _ (List.getElem_mem l2)
                    have hcy : ∀ W, Ext w W → ∀ i u, P[j].enc[i]? = some u → W.cell? ⟨g2, o2 + j * 66 + i, none⟩ = some u := fun W hW i u hu => hW.cell (hcp i u hu)
                    have hye := getD_lt l2
                    clear hcp hrdp hokp a2
                    generalize P[j] = y at hcy hyo hye
                    have HYE := Lib.hid hye
                    have HYO := Lib.hid (show y.ok from hyo)
                    have HSY := Lib.hid (Nd.st hyo)
                    have HCY := Lib.hid hcy
                    clear hyo hye hcy
                    have HXE := Lib.hid (getD_ge l1)
                    obtain rfl : j = O.length := by omega
                    have l4 : (O.length : Int) < (P.length : Int) := by omega
                    go_wp2_with fail
                    refine wp_region_held_drew (S := fun W => Ext w W ∧ Blk W (w.heap.size + 2) 31 zeroN.enc.toArray) (by kernel_rfl) ⟨(XW.out.trans HX.out).drew, (B9.out.ext HX.out).drewN 1⟩ (fun hHeld => ?_)
                    have D6 := Lib.hid (show Blk wr.drew w.heap.size 31 _ from (B6.out.ext HX.out).drewN 1)
                    have D7 := Lib.hid (show Blk wr.drew (w.heap.size + 1) 31 _ from (B7.out.ext HX.out).drewN 1)
                    generalize wr.drew = w9 at hHeld D6 D7 ⊢
                    refine wpAnyH_take (i := 0) (oi := ?oiz117) (v := (.agg zeroN.enc.toArray)) ?hiz117 (by kernel_rfl) (by kernel_rfl) (by kernel_rfl) ?hQz117 ?hyz117 (by assumption) ?restz117
                    case hiz117 => simp only [List.getElem?_toArray, List.getElem?_cons_zero, List.getElem?_cons_succ]; rfl
                    case hQz117 => exact fun _ _ _ h => h
                    case hyz117 => refine yields_loadS (w.heap.size + 2) 0 zeroN.enc (by rw [Nd.enc_length zeroN_ok]; exact aggNodeI) (fun W hW j u hu => by rw [Nat.zero_add]; exact hW.2.at_ j (by rw [List.getElem?_toArray]; exact hu)) ?_ _ rfl rfl; rfl
                    try simp only [Act.put, List.setIfInBounds_toArray, List.set_cons_zero, List.set_cons_succ]
                    refine wpAnyH_take (i := 1) (oi := ?oiz118) (v := ?vz118) ?hiz118 (by kernel_rfl) (by kernel_rfl) (by kernel_rfl) ?hQz118 ?hyz118 (by assumption) ?restz118
                    case hiz118 => simp only [List.getElem?_toArray, List.getElem?_cons_zero, List.getElem?_cons_succ]; rfl
                    case hQz118 => exact fun _ _ _ h => h
                    case hyz118 => exact Or.inl ⟨by rfl, by intro w hSw; (try dsimp only at hSw); go_simp; with_reducible rfl⟩
                    try simp only [Act.put, List.setIfInBounds_toArray, List.set_cons_zero, List.set_cons_succ]
                    refine wpAnyH_take (i := 2) (oi := ?oiz119) (v := ?vz119) ?hiz119 (by kernel_rfl) (by kernel_rfl) (by kernel_rfl) ?hQz119 ?hyz119 (by assumption) ?restz119
                    case hiz119 => simp only [List.getElem?_toArray, List.getElem?_cons_zero, List.getElem?_cons_succ]; rfl
                    case hQz119 => exact fun _ _ _ h => h
                    case hyz119 => exact Or.inl ⟨by rfl, by intro w hSw; (try dsimp only at hSw); go_simp; with_reducible rfl⟩
                    try simp only [Act.put, List.setIfInBounds_toArray, List.set_cons_zero, List.set_cons_succ]
                    refine wpAnyH_take (i := 3) (oi := ?oiz120) (v := ?vz120) ?hiz120 (by kernel_rfl) (by kernel_rfl) (by kernel_rfl) ?hQz120 ?hyz120 (by assumption) ?restz120
                    case hiz120 => simp only [List.getElem?_toArray, List.getElem?_cons_zero, List.getElem?_cons_succ]; rfl
                    case hQz120 => exact fun _ _ _ h => h
                    case hyz120 => exact Or.inl ⟨by rfl, by intro w hSw; (try dsimp only at hSw); go_simp; with_reducible rfl⟩
                    try simp only [Act.put, List.setIfInBounds_toArray, List.set_cons_zero, List.set_cons_succ]
                    refine wpAnyH_take (i := 4) (oi := ?oiz121) (v := ?vz121) ?hiz121 (by kernel_rfl) (by kernel_rfl) (by kernel_rfl) ?hQz121 ?hyz121 (by assumption) ?restz121
                    case hiz121 => simp only [List.getElem?_toArray, List.getElem?_cons_zero, List.getElem?_cons_succ]; rfl
                    case hQz121 => exact fun _ _ _ h => h
                    case hyz121 => exact Or.inl ⟨by rfl, by intro w hSw; (try dsimp only at hSw); go_simp; with_reducible rfl⟩
                    try simp only [Act.put, List.setIfInBounds_toArray, List.set_cons_zero, List.set_cons_succ]
                    refine wpAnyH_take (i := 5) (oi := ?oiz122) (v := (.agg y.enc.toArray)) ?hiz122 (by kernel_rfl) (by kernel_rfl) (by kernel_rfl) ?hQz122 ?hyz122 (by assumption) ?restz122
                    case hiz122 => simp only [List.getElem?_toArray, List.getElem?_cons_zero, List.getElem?_cons_succ]; rfl
                    case hQz122 => exact fun _ _ _ h => h
                    case hyz122 => refine yields_loadS g2 (o2 + O.length * 66) y.enc (by rw [Nd.enc_length HYO.out]; exact aggNodeI) (fun W hW i u hu => HCY.out W hW.1 i u hu) ?_ _ rfl rfl; rfl
                    try simp only [Act.put, List.setIfInBounds_toArray, List.set_cons_zero, List.set_cons_succ]
                    refine wpAnyH_ready (rs := [6]) (by kernel_rfl) (by simp) (AllReadyH.cons (o := ?oy123) ?hy123 (fun K hK => ?sy123) AllReadyH.nil)
                    case hy123 => simp only [List.getElem?_toArray, List.getElem?_cons_zero, List.getElem?_cons_succ]; rfl
                    refine stp_storeB D6.out aggNodeI HZ.out rfl rfl _ _ rfl rfl rfl rfl ?_
                    have hH2 := And.intro (hHeld.1.setRow (Nat.le_refl _) zeroN.enc.toArray) (hHeld.2.row_far (show w.heap.size + 2 ≠ w.heap.size by omega) zeroN.enc.toArray)
                    refine hK.out _ _ hH2 (fun _ => ?_)
                    have E6 := Lib.hid (D6.out.setRow zeroN.enc.toArray)
                    have E7 := Lib.hid (D7.out.row_far hne' zeroN.enc.toArray)
                    clear hK K hHeld D6 D7
                    try simp only [Act.put, List.setIfInBounds_toArray, List.set_cons_zero, List.set_cons_succ]
                    refine wpAnyH_ready (rs := [7]) (by kernel_rfl) (by simp) (AllReadyH.cons (o := ?oy124) ?hy124 (fun K hK => ?sy124) AllReadyH.nil)
                    case hy124 => simp only [List.getElem?_toArray, List.getElem?_cons_zero, List.getElem?_cons_succ]; rfl
                    refine stp_storeB E7.out aggNodeI HSY.out rfl rfl _ _ rfl rfl rfl rfl ?_
                    have hH3 := And.intro (hH2.1.setRow (Nat.le_succ _) y.enc.toArray) (hH2.2.row_far (show w.heap.size + 2 ≠ w.heap.size + 1 by omega) y.enc.toArray)
                    refine hK.out _ _ hH3 (fun _ => ?_)
                    have F6 := Lib.hid (E6.out.row_far hne y.enc.toArray)
                    have F7 := Lib.hid (E7.out.setRow y.enc.toArray)
                    have FX := Lib.hid hH3.1
                    clear hK K hH2 hH3 E6 E7
                    try simp only [Act.put, List.setIfInBounds_toArray, List.set_cons_zero, List.set_cons_succ]
                    refine wpAnyH_take (i := 8) (oi := ?oiz125) (v := ?vz125) ?hiz125 (by kernel_rfl) (by kernel_rfl) (by kernel_rfl) ?hQz125 ?hyz125 (by assumption) ?restz125
                    case hiz125 => simp only [List.getElem?_toArray, List.getElem?_cons_zero, List.getElem?_cons_succ]; rfl
                    case hQz125 => exact fun _ _ _ h => h
                    case hyz125 => exact Or.inl ⟨by rfl, by intro w hSw; (try dsimp only at hSw); go_simp; with_reducible rfl⟩
                    try simp only [Act.put, List.setIfInBounds_toArray, List.set_cons_zero, List.set_cons_succ]
                    refine wpAnyH_done (by kernel_rfl) ?_ _
                    go_wp2
                    refine bodyPost_ret (results_bbt rfl _ rfl rfl aggNodeI HZ.out.size HSY.out.size F6.out F7.out rfl) rfl ?_
                    exact ⟨by rw [HE.out.1, HE.out.2.1, HE.out.2.2, HXE.out, HYE.out]; rfl, FX.out⟩
              | true =>
                by_cases h4 : c2 = ve
                · have e0 : clR L s P = (zeroN, zeroN, 6) := clR_none hall h0 (by rw [hchk, hhe]) (by rw [hchk, hvv]; exact h4)
                  simp only [e0]
                  subst h4
                  have q1 : (c2.toList == c2.toList) = true := by simp
                  obtain ⟨T, hT⟩ : ∃ T, trF L.length L = T := ⟨_, rfl⟩
                  simp only [hT] at hnd hk HKK
                  clear e0 h0 hck hT hg3 h64 hall hb hb2 hb3 hokL hchk HF hno2 hhe hvv hkk
                  go_enter Try.func14, Try.ntmps14
                  go_wp2_with (first
                    | (refine wpl_buildN rfl rfl built_zero ?_)
                    | (refine wpl_storeNewG (by simp) aggNodeI HZ.out rfl rfl _ _ rfl rfl rfl rfl ?_))
                  refine (hc _ (H.out.ext (by decide) (((ext_alloc _ _).alloc _).alloc _))).mono ?_
                  rintro e w2 ⟨rfl, hx⟩
                  have B6 := Lib.hid ((((Blk.new w 31 _).alloc _).alloc _).ext hx)
                  have B7 := Lib.hid (((Blk.new' (g := w.heap.size + 1) (by simp) 31 _).alloc _).ext hx)
                  have B9 := Lib.hid ((Blk.new' (g := w.heap.size + 2) (by simp) 31 _).ext hx)
                  have XW := Lib.hid ((((ext_alloc w _).alloc _).alloc _).trans hx)
                  clear hx
                  go_wp2_with fail
                  refine (hn _).mono ?_
                  rintro e w' ⟨rfl, rfl⟩
                  go_wp2_with fail
                  refine (ha _ (H'.out.ext (by decide) XW.out)).mono ?_
                  rintro e w2 ⟨rfl, hx⟩
                  replace B6 := Lib.hid (B6.out.ext hx)
                  replace B7 := Lib.hid (B7.out.ext hx)
                  replace B9 := Lib.hid (B9.out.ext hx)
                  replace XW := Lib.hid (XW.out.trans hx)
                  clear hx
                  go_wp2_with fail
                  refine (hnd _ (H.out.ext (by decide) XW.out)).mono ?_
                  rintro e w2 ⟨v5, rfl, ho, hx⟩
                  replace B6 := Lib.hid (B6.out.ext hx)
                  replace B7 := Lib.hid (B7.out.ext hx)
                  replace B9 := Lib.hid (B9.out.ext hx)
                  replace XW := Lib.hid (XW.out.trans hx)
                  obtain ⟨A5, n5, q5, rfl⟩ := ho.shape3
                  clear ho hx
                  go_wp2_with (first
                    | (refine wpl_storeNew aggKey HKK.out rfl rfl _ _ rfl rfl rfl rfl ?_)
                    | (refine wpl_loadN (Blk.new w2 27 _) aggKey HKK.out rfl _ rfl rfl ?_))
                  refine (hk _ (H'.out.ext (by decide) (XW.out.alloc _))).mono ?_
                  rintro e w2 ⟨rfl, hx⟩
                  replace B6 := Lib.hid ((B6.out.alloc _).ext hx)
                  replace B7 := Lib.hid ((B7.out.alloc _).ext hx)
                  replace B9 := Lib.hid ((B9.out.alloc _).ext hx)
                  replace XW := Lib.hid ((XW.out.alloc _).trans hx)
                  clear hx
                  go_wp2_with fail
                  refine (hf _ (H.out.ext (by decide) XW.out)).mono ?_
                  rintro e w' ⟨rfl, rfl⟩
                  have d1 := XW.out.cell HC.out
                  go_wp2_with fail
                  refine wp_region_held_drew (S := fun W => Ext w W ∧ Blk W (w.heap.size + 2) 31 zeroN.enc.toArray) (by kernel_rfl) ⟨XW.out.drew, B9.out.drewN 1⟩ (fun hHeld => ?_)
                  have D6 := Lib.hid (show Blk w2.drew w.heap.size 31 _ from B6.out.drewN 1)
                  have D7 := Lib.hid (show Blk w2.drew (w.heap.size + 1) 31 _ from B7.out.drewN 1)
                  generalize w2.drew = w9 at hHeld D6 D7 ⊢
                  refine wpAnyH_take (i := 0) (oi := ?oiz126) (v := (.agg zeroN.enc.toArray)) ?hiz126 (by kernel_rfl) (by kernel_rfl) (by kernel_rfl) ?hQz126 ?hyz126 (by assumption) ?restz126
                  case hiz126 => simp only [List.getElem?_toArray, List.getElem?_cons_zero, List.getElem?_cons_succ]; rfl
                  case hQz126 => exact fun _ _ _ h => h
                  case hyz126 => refine yields_loadS (w.heap.size + 2) 0 zeroN.enc (by rw [Nd.enc_length zeroN_ok]; exact aggNodeI) (fun W hW j u hu => by rw [Nat.zero_add]; exact hW.2.at_ j (by rw [List.getElem?_toArray]; exact hu)) ?_ _ rfl rfl; rfl
                  try simp only [Act.put, List.setIfInBounds_toArray, List.set_cons_zero, List.set_cons_succ]
                  refine wpAnyH_take (i := 1) (oi := ?oiz127) (v := (.agg zeroN.enc.toArray)) ?hiz127 (by kernel_rfl) (by kernel_rfl) (by kernel_rfl) ?hQz127 ?hyz127 (by assumption) ?restz127
                  case hiz127 => simp only [List.getElem?_toArray, List.getElem?_cons_zero, List.getElem?_cons_succ]; rfl
                  case hQz127 => exact fun _ _ _ h => h
                  case hyz127 => refine yields_loadS (w.heap.size + 2) 0 zeroN.enc (by rw [Nd.enc_length zeroN_ok]; exact aggNodeI) (fun W hW j u hu => by rw [Nat.zero_add]; exact hW.2.at_ j (by rw [List.getElem?_toArray]; exact hu)) ?_ _ rfl rfl; rfl
                  try simp only [Act.put, List.setIfInBounds_toArray, List.set_cons_zero, List.set_cons_succ]
                  refine wpAnyH_ready (rs := [2]) (by kernel_rfl) (by simp) (AllReadyH.cons (o := ?oy128) ?hy128 (fun K hK => ?sy128) AllReadyH.nil)
                  case hy128 => simp only [List.getElem?_toArray, List.getElem?_cons_zero, List.getElem?_cons_succ]; rfl
                  refine stp_storeB D6.out aggNodeI HZ.out rfl rfl _ _ rfl rfl rfl rfl ?_
                  have hH2 := And.intro (hHeld.1.setRow (Nat.le_refl _) zeroN.enc.toArray) (hHeld.2.row_far (show w.heap.size + 2 ≠ w.heap.size by omega) zeroN.enc.toArray)
                  refine hK.out _ _ hH2 (fun _ => ?_)
                  have E6 := Lib.hid (D6.out.setRow zeroN.enc.toArray)
                  have E7 := Lib.hid (D7.out.row_far hne' zeroN.enc.toArray)
                  clear hK K hHeld D6 D7
                  try simp only [Act.put, List.setIfInBounds_toArray, List.set_cons_zero, List.set_cons_succ]
                  refine wpAnyH_ready (rs := [3]) (by kernel_rfl) (by simp) (AllReadyH.cons (o := ?oy129) ?hy129 (fun K hK => ?sy129) AllReadyH.nil)
                  case hy129 => simp only [List.getElem?_toArray, List.getElem?_cons_zero, List.getElem?_cons_succ]; rfl
                  refine stp_storeB E7.out aggNodeI HZ.out rfl rfl _ _ rfl rfl rfl rfl ?_
                  have hH3 := And.intro (hH2.1.setRow (Nat.le_succ _) zeroN.enc.toArray) (hH2.2.row_far (show w.heap.size + 2 ≠ w.heap.size + 1 by omega) zeroN.enc.toArray)
                  refine hK.out _ _ hH3 (fun _ => ?_)
                  have F6 := Lib.hid (E6.out.row_far hne zeroN.enc.toArray)
                  have F7 := Lib.hid (E7.out.setRow zeroN.enc.toArray)
                  have FX := Lib.hid hH3.1
                  clear hK K hH2 hH3 E6 E7
                  try simp only [Act.put, List.setIfInBounds_toArray, List.set_cons_zero, List.set_cons_succ]
                  refine wpAnyH_take (i := 4) (oi := ?oiz130) (v := ?vz130) ?hiz130 (by kernel_rfl) (by kernel_rfl) (by kernel_rfl) ?hQz130 ?hyz130 (by assumption) ?restz130
                  case hiz130 => simp only [List.getElem?_toArray, List.getElem?_cons_zero, List.getElem?_cons_succ]; rfl
                  case hQz130 => exact fun _ _ _ h => h
                  case hyz130 => exact Or.inl ⟨by rfl, by intro w hSw; (try dsimp only at hSw); go_simp; with_reducible rfl⟩
                  try simp only [Act.put, List.setIfInBounds_toArray, List.set_cons_zero, List.set_cons_succ]
                  refine wpAnyH_done (by kernel_rfl) ?_ _
                  go_wp2
                  refine bodyPost_ret (results_bbt rfl _ rfl rfl aggNodeI HZ.out.size HZ.out.size F6.out F7.out rfl) rfl ?_
                  exact ⟨rfl, FX.out⟩
                · have hno : ¬ ((chkR (trF L.length L).key s P).1 = hasE L s ∧ (chkR (trF L.length L).key s P).2.1 = valE L s) := fun h => by have := h.2; rw [hchk, hvv] at this; exact h4 this
                  have q1 : (c2.toList == ve.toList) = false := by rw [beq_eq_false_iff_ne]; exact fun e => h4 (toList_inj e)
                  have HNE := chk_ne hb hb2 hb3 h0 hno
                  have HCL := clR_hit hall h0 hno
                  have FO := Lib.hid (way_full (good_of hb hokL) s)
                  have FP := Lib.hid (okNs_full hb3)
                  have HTO := Lib.hid (trF_ok L.length L (good_of hb hokL))
                  have hp := fun W hW => l04Path_any (.slice (some ⟨g, o, none⟩) L.length cap) L s (okE_incs hb).2 (good_of hb hokL) W S hW
                  obtain ⟨X, Y, c, hR⟩ : ∃ X Y c, clR L s P = (X, Y, c) := ⟨_, _, _, rfl⟩
                  rw [hR]
                  have HR := Lib.hid hR
                  obtain ⟨O, hO⟩ : ∃ O, (trF L.length L).way s = O := ⟨_, rfl⟩
                  have hOs : (trF L.length L).sel (fun o => ltB s o) (fun o => ltB o s) = O := hO
                  have HOO := Lib.hid (show ∀ x ∈ O, tNd.ok x from fun x hx => Tr.sel_ok (fun o => ltB s o) (fun o => ltB o s) (trF L.length L) HTO.out x (by rw [← hO] at hx; exact hx))
                  rw [hO] at HCL HNE FO
                  simp only [hOs] at hp
                  have NE := Lib.hid HNE
                  replace HCL := Lib.hid HCL
                  obtain ⟨T, hT⟩ : ∃ T, trF L.length L = T := ⟨_, rfl⟩
                  simp only [hT] at hnd hk HKK
                  clear h0 hck hT hg3 h64 hall hb hb2 hb3 hokL hchk HF hno2 hhe HNE hR hno hO hOs HTO
                  clear hvv hkk h4
                  go_enter Try.func14, Try.ntmps14
                  go_wp2_with (first
                    | (refine wpl_buildN rfl rfl built_zero ?_)
                    | (refine wpl_storeNewG (by simp) aggNodeI HZ.out rfl rfl _ _ rfl rfl rfl rfl ?_))
                  refine (hc _ (H.out.ext (by decide) (((ext_alloc _ _).alloc _).alloc _))).mono ?_
                  rintro e w2 ⟨rfl, hx⟩
                  have B6 := Lib.hid ((((Blk.new w 31 _).alloc _).alloc _).ext hx)
                  have B7 := Lib.hid (((Blk.new' (g := w.heap.size + 1) (by simp) 31 _).alloc _).ext hx)
                  have B9 := Lib.hid ((Blk.new' (g := w.heap.size + 2) (by simp) 31 _).ext hx)
                  have XW := Lib.hid ((((ext_alloc w _).alloc _).alloc _).trans hx)
                  clear hx
                  go_wp2_with fail
                  refine (hn _).mono ?_
                  rintro e w' ⟨rfl, rfl⟩
                  go_wp2_with fail
                  refine (ha _ (H'.out.ext (by decide) XW.out)).mono ?_
                  rintro e w2 ⟨rfl, hx⟩
                  replace B6 := Lib.hid (B6.out.ext hx)
                  replace B7 := Lib.hid (B7.out.ext hx)
                  replace B9 := Lib.hid (B9.out.ext hx)
                  replace XW := Lib.hid (XW.out.trans hx)
                  clear hx
                  go_wp2_with fail
                  refine (hnd _ (H.out.ext (by decide) XW.out)).mono ?_
                  rintro e w2 ⟨v5, rfl, ho, hx⟩
                  replace B6 := Lib.hid (B6.out.ext hx)
                  replace B7 := Lib.hid (B7.out.ext hx)
                  replace B9 := Lib.hid (B9.out.ext hx)
                  replace XW := Lib.hid (XW.out.trans hx)
                  obtain ⟨A5, n5, q5, rfl⟩ := ho.shape3
                  clear ho hx
                  go_wp2_with (first
                    | (refine wpl_storeNew aggKey HKK.out rfl rfl _ _ rfl rfl rfl rfl ?_)
                    | (refine wpl_loadN (Blk.new w2 27 _) aggKey HKK.out rfl _ rfl rfl ?_))
                  refine (hk _ (H'.out.ext (by decide) (XW.out.alloc _))).mono ?_
                  rintro e w2 ⟨rfl, hx⟩
                  replace B6 := Lib.hid ((B6.out.alloc _).ext hx)
                  replace B7 := Lib.hid ((B7.out.alloc _).ext hx)
                  replace B9 := Lib.hid ((B9.out.alloc _).ext hx)
                  replace XW := Lib.hid ((XW.out.alloc _).trans hx)
                  clear hx
                  go_wp2_with fail
                  refine (hf _ (H.out.ext (by decide) XW.out)).mono ?_
                  rintro e w' ⟨rfl, rfl⟩
                  have d1 := XW.out.cell HC.out
                  have hbig := B9.out.lt
                  go_wp2_with fail
                  refine (hp _ (H.out.ext (by decide) XW.out)).mono ?_
                  rintro e w2 ⟨v6, rfl, ho, hx⟩
                  replace B6 := Lib.hid (B6.out.ext hx)
                  replace B7 := Lib.hid (B7.out.ext hx)
                  replace B9 := Lib.hid (B9.out.ext hx)
                  replace XW := Lib.hid (XW.out.trans hx)
                  have HO := Lib.hid ho
                  obtain ⟨A6, q6, rfl⟩ := ho.shape
                  clear ho hx
                  go_wp2_with fail
                  go_loopw [18] (fun i wr => ∃ j : Nat, j ≤ O.length ∧ j ≤ P.length ∧ i = .int .i64 j ∧ (∀ p, p < j → O.getD p zeroN = P.getD p zeroN) ∧ Ext w2 wr) (fun i _ => P.length - (intOf i).toNat)
                  case atStart => exact ⟨0, by omega, by omega, rfl, fun p hp => by omega, Ext.refl _⟩
                  case round =>
                    obtain ⟨j, hk1, hk2, rfl, hm, hx⟩ := hrel
                    have HX := Lib.hid hx
                    have HM := Lib.hid hm
                    clear hx hm
                    have hj : (0 : Int) ≤ (j : Int) := by omega
                    by_cases l1 : j < O.length
                    · have hj1 : (j : Int) < (O.length : Int) := by omega
                      by_cases l2 : j < P.length
                      · have hj2 : (j : Int) < (P.length : Int) := by omega
                        obtain ⟨g1, cur, rfl, hg1, hbo, hcx⟩ := own_blk (HO.out.ext HX.out) j l1
                        have hxo : tNd.ok O[j] := HOO.out _ (List.getElem_mem l1)
                        have hxe := getD_lt l1
                        generalize O[j] = x at hcx hxo hxe
                        have HXE := Lib.hid hxe
                        have HXO := Lib.hid (show x.ok from hxo)
                        have HSX := Lib.hid (Nd.st hxo)
                        have HBO := Lib.hid hbo
                        have HCX := Lib.hid hcx
                        clear hbo hcx hxo hxe
                        obtain ⟨Ap, capp, ep, _, _, hrdp, hokp⟩ := id H'.out
                        injection ep with a1 a2 a3
                        subst a1 a3
                        obtain ⟨g2, o2, rfl, _, hcp⟩ := hrdp.elem hokp j l2
                        have hyo : tNd.ok P[j] := hokP.out _ (List.getElem_mem l2)
                        have hcy : ∀ W, Ext w W → ∀ i u, P[j].enc[i]? = some u → W.cell? ⟨g2, o2 + j * 66 + i, none⟩ = some u := fun W hW i u hu => hW.cell (hcp i u hu)
                        have hye := getD_lt l2
                        clear hcp hrdp hokp a2
                        generalize P[j] = y at hcy hyo hye
                        have HYE := Lib.hid hye
                        have HYO := Lib.hid (show y.ok from hyo)
                        have HSY := Lib.hid (Nd.st hyo)
                        have HCY := Lib.hid hcy
                        clear hyo hye hcy
                        by_cases hxy : x = y
                        · have hq : ∀ W, (binOp .neq 31 (.agg x.enc.toArray) (.agg y.enc.toArray)).run Try.prog W = .ok (.bool false) W := fun W => by rw [run_neqNd x y HXO.out HYO.out W, decide_eq_true hxy] <;> rfl
                          have HXY := Lib.hid hxy
                          clear hxy
                          go_wp2_with fail
                          refine wp_region_held_drew (S := fun W => Ext wr W) (by kernel_rfl) (Ext.refl _).drew (fun hHeld => ?_)
                          have HX2 := Lib.hid (show Ext w2 wr.drew from HX.out.drew)
                          have HBO2 := Lib.hid (show Blk wr.drew g1 31 cur from HBO.out.drewN 1)
                          generalize wr.drew = wz at hHeld HX2 HBO2 ⊢
                          refine wpAnyH_take (i := 0) (oi := ?oiz131) (v := ?vz131) ?hiz131 (by kernel_rfl) (by kernel_rfl) (by kernel_rfl) ?hQz131 ?hyz131 (by assumption) ?restz131
                          case hiz131 => simp only [List.getElem?_toArray, List.getElem?_cons_zero, List.getElem?_cons_succ]; rfl
                          case hQz131 => exact fun _ _ _ h => h
                          case hyz131 => exact Or.inl ⟨by rfl, by intro w hSw; (try dsimp only at hSw); go_simp; with_reducible rfl⟩
                          try simp only [Act.put, List.setIfInBounds_toArray, List.set_cons_zero, List.set_cons_succ]
                          refine wpAnyH_take (i := 1) (oi := ?oiz132) (v := ?vz132) ?hiz132 (by kernel_rfl) (by kernel_rfl) (by kernel_rfl) ?hQz132 ?hyz132 (by assumption) ?restz132
                          case hiz132 => simp only [List.getElem?_toArray, List.getElem?_cons_zero, List.getElem?_cons_succ]; rfl
                          case hQz132 => exact fun _ _ _ h => h
                          case hyz132 => exact Or.inl ⟨by rfl, by intro w hSw; (try dsimp only at hSw); go_simp; with_reducible rfl⟩
                          try simp only [Act.put, List.setIfInBounds_toArray, List.set_cons_zero, List.set_cons_succ]
                          refine wpAnyH_take (i := 2) (oi := ?oiz133) (v := ?vz133) ?hiz133 (by kernel_rfl) (by kernel_rfl) (by kernel_rfl) ?hQz133 ?hyz133 (by assumption) ?restz133
                          case hiz133 => simp only [List.getElem?_toArray, List.getElem?_cons_zero, List.getElem?_cons_succ]; rfl
                          case hQz133 => exact fun _ _ _ h => h
                          case hyz133 => exact Or.inl ⟨by rfl, by intro w hSw; (try dsimp only at hSw); go_simp; with_reducible rfl⟩
                          try simp only [Act.put, List.setIfInBounds_toArray, List.set_cons_zero, List.set_cons_succ]
                          refine wpAnyH_take (i := 3) (oi := ?oiz134) (v := (.agg x.enc.toArray)) ?hiz134 (by kernel_rfl) (by kernel_rfl) (by kernel_rfl) ?hQz134 ?hyz134 (by assumption) ?restz134
                          case hiz134 => simp only [List.getElem?_toArray, List.getElem?_cons_zero, List.getElem?_cons_succ]; rfl
                          case hQz134 => exact fun _ _ _ h => h
                          case hyz134 => refine yields_loadS g1 (j * 66) x.enc (by rw [Nd.enc_length HXO.out]; exact aggNodeI) (fun W hW i u hu => (HBO.out.ext hW).at_ _ (HCX.out i u hu)) ?_ _ rfl rfl; rfl
                          try simp only [Act.put, List.setIfInBounds_toArray, List.set_cons_zero, List.set_cons_succ]
                          refine wpAnyH_take (i := 4) (oi := ?oiz135) (v := ?vz135) ?hiz135 (by kernel_rfl) (by kernel_rfl) (by kernel_rfl) ?hQz135 ?hyz135 (by assumption) ?restz135
                          case hiz135 => simp only [List.getElem?_toArray, List.getElem?_cons_zero, List.getElem?_cons_succ]; rfl
                          case hQz135 => exact fun _ _ _ h => h
                          case hyz135 => exact Or.inl ⟨by rfl, by intro w hSw; (try dsimp only at hSw); go_simp; with_reducible rfl⟩
                          try simp only [Act.put, List.setIfInBounds_toArray, List.set_cons_zero, List.set_cons_succ]
                          refine wpAnyH_take (i := 5) (oi := ?oiz136) (v := ?vz136) ?hiz136 (by kernel_rfl) (by kernel_rfl) (by kernel_rfl) ?hQz136 ?hyz136 (by assumption) ?restz136
                          case hiz136 => simp only [List.getElem?_toArray, List.getElem?_cons_zero, List.getElem?_cons_succ]; rfl
                          case hQz136 => exact fun _ _ _ h => h
                          case hyz136 => exact Or.inl ⟨by rfl, by intro w hSw; (try dsimp only at hSw); go_simp; with_reducible rfl⟩
                          try simp only [Act.put, List.setIfInBounds_toArray, List.set_cons_zero, List.set_cons_succ]
                          refine wpAnyH_take (i := 6) (oi := ?oiz137) (v := ?vz137) ?hiz137 (by kernel_rfl) (by kernel_rfl) (by kernel_rfl) ?hQz137 ?hyz137 (by assumption) ?restz137
                          case hiz137 => simp only [List.getElem?_toArray, List.getElem?_cons_zero, List.getElem?_cons_succ]; rfl
                          case hQz137 => exact fun _ _ _ h => h
                          case hyz137 => exact Or.inl ⟨by rfl, by intro w hSw; (try dsimp only at hSw); go_simp; with_reducible rfl⟩
                          try simp only [Act.put, List.setIfInBounds_toArray, List.set_cons_zero, List.set_cons_succ]
                          refine wpAnyH_take (i := 7) (oi := ?oiz138) (v := (.agg y.enc.toArray)) ?hiz138 (by kernel_rfl) (by kernel_rfl) (by kernel_rfl) ?hQz138 ?hyz138 (by assumption) ?restz138
                          case hiz138 => simp only [List.getElem?_toArray, List.getElem?_cons_zero, List.getElem?_cons_succ]; rfl
                          case hQz138 => exact fun _ _ _ h => h
                          case hyz138 => refine yields_loadS g2 (o2 + j * 66) y.enc (by rw [Nd.enc_length HYO.out]; exact aggNodeI) (fun W hW i u hu => HCY.out W ((XW.out.trans HX.out).trans hW) i u hu) ?_ _ rfl rfl; rfl
                          try simp only [Act.put, List.setIfInBounds_toArray, List.set_cons_zero, List.set_cons_succ]
                          refine wpAnyH_take (i := 8) (oi := ?oiz139) (v := ?vz139) ?hiz139 (by kernel_rfl) (by kernel_rfl) (by kernel_rfl) ?hQz139 ?hyz139 (by assumption) ?restz139
                          case hiz139 => simp only [List.getElem?_toArray, List.getElem?_cons_zero, List.getElem?_cons_succ]; rfl
                          case hQz139 => exact fun _ _ _ h => h
                          case hyz139 => exact Or.inl ⟨by rfl, by intro w hSw; (try dsimp only at hSw); go_simp; with_reducible rfl⟩
                          try simp only [Act.put, List.setIfInBounds_toArray, List.set_cons_zero, List.set_cons_succ]
                          refine wpAnyH_done (by kernel_rfl) ?_ _
                          clear hHeld
                          go_wp2
                          go_roundw
                          case rel => exact ⟨j + 1, by omega, by omega, by go_num, (fun p hp => by
                            by_cases e : p = j
                            · subst e; rw [HXE.out, HYE.out]; exact HXY.out
                            · exact HM.out p (by omega)), HX2.out⟩
                          case measure => simp [intOf]; omega
                        · have hq : ∀ W, (binOp .neq 31 (.agg x.enc.toArray) (.agg y.enc.toArray)).run Try.prog W = .ok (.bool true) W := fun W => by rw [run_neqNd x y HXO.out HYO.out W, decide_eq_false hxy] <;> rfl
                          have HE := Lib.hid (show X = O.getD j zeroN ∧ Y = P.getD j zeroN ∧ c = 0 by
                            have h1 := HR.out.symm.trans HCL.out
                            rw [partN_eq O P j hk1 hk2 HM.out (.inr (.inr (by rw [HXE.out, HYE.out]; exact hxy)))] at h1
                            injection h1 with h1 h2
                            injection h2 with h2 h3
                            exact ⟨h1, h2, h3⟩)
                          clear hxy
                          go_wp2_with fail
                          refine wp_region_held_drew (S := fun W => Ext wr W) (by kernel_rfl) (Ext.refl _).drew (fun hHeld => ?_)
                          have HX2 := Lib.hid (show Ext w2 wr.drew from HX.out.drew)
                          have HBO2 := Lib.hid (show Blk wr.drew g1 31 cur from HBO.out.drewN 1)
                          generalize wr.drew = wz at hHeld HX2 HBO2 ⊢
                          refine wpAnyH_take (i := 0) (oi := ?oiz140) (v := ?vz140) ?hiz140 (by kernel_rfl) (by kernel_rfl) (by kernel_rfl) ?hQz140 ?hyz140 (by assumption) ?restz140
                          case hiz140 => simp only [List.getElem?_toArray, List.getElem?_cons_zero, List.getElem?_cons_succ]; rfl
                          case hQz140 => exact fun _ _ _ h => h
                          case hyz140 => exact Or.inl ⟨by rfl, by intro w hSw; (try dsimp only at hSw); go_simp; with_reducible rfl⟩
                          try simp only [Act.put, List.setIfInBounds_toArray, List.set_cons_zero, List.set_cons_succ]
                          refine wpAnyH_take (i := 1) (oi := ?oiz141) (v := ?vz141) ?hiz141 (by kernel_rfl) (by kernel_rfl) (by kernel_rfl) ?hQz141 ?hyz141 (by assumption) ?restz141
                          case hiz141 => simp only [List.getElem?_toArray, List.getElem?_cons_zero, List.getElem?_cons_succ]; rfl
                          case hQz141 => exact fun _ _ _ h => h
                          case hyz141 => exact Or.inl ⟨by rfl, by intro w hSw; (try dsimp only at hSw); go_simp; with_reducible rfl⟩
                          try simp only [Act.put, List.setIfInBounds_toArray, List.set_cons_zero, List.set_cons_succ]
                          refine wpAnyH_take (i := 2) (oi := ?oiz142) (v := ?vz142) ?hiz142 (by kernel_rfl) (by kernel_rfl) (by kernel_rfl) ?hQz142 ?hyz142 (by assumption) ?restz142
                          case hiz142 => simp only [List.getElem?_toArray, List.getElem?_cons_zero, List.getElem?_cons_succ]; rfl
                          case hQz142 => exact fun _ _ _ h => h
                          case hyz142 => exact Or.inl ⟨by rfl, by intro w hSw; (try dsimp only at hSw); go_simp; with_reducible rfl⟩
                          try simp only [Act.put, List.setIfInBounds_toArray, List.set_cons_zero, List.set_cons_succ]
                          refine wpAnyH_take (i := 3) (oi := ?oiz143) (v := (.agg x.enc.toArray)) ?hiz143 (by kernel_rfl) (by kernel_rfl) (by kernel_rfl) ?hQz143 ?hyz143 (by assumption) ?restz143
                          case hiz143 => simp only [List.getElem?_toArray, List.getElem?_cons_zero, List.getElem?_cons_succ]; rfl
                          case hQz143 => exact fun _ _ _ h => h
                          case hyz143 => refine yields_loadS g1 (j * 66) x.enc (by rw [Nd.enc_length HXO.out]; exact aggNodeI) (fun W hW i u hu => (HBO.out.ext hW).at_ _ (HCX.out i u hu)) ?_ _ rfl rfl; rfl
                          try simp only [Act.put, List.setIfInBounds_toArray, List.set_cons_zero, List.set_cons_succ]
                          refine wpAnyH_take (i := 4) (oi := ?oiz144) (v := ?vz144) ?hiz144 (by kernel_rfl) (by kernel_rfl) (by kernel_rfl) ?hQz144 ?hyz144 (by assumption) ?restz144
                          case hiz144 => simp only [List.getElem?_toArray, List.getElem?_cons_zero, List.getElem?_cons_succ]; rfl
                          case hQz144 => exact fun _ _ _ h => h
                          case hyz144 => exact Or.inl ⟨by rfl, by intro w hSw; (try dsimp only at hSw); go_simp; with_reducible rfl⟩
                          try simp only [Act.put, List.setIfInBounds_toArray, List.set_cons_zero, List.set_cons_succ]
                          refine wpAnyH_take (i := 5) (oi := ?oiz145) (v := ?vz145) ?hiz145 (by kernel_rfl) (by kernel_rfl) (by kernel_rfl) ?hQz145 ?hyz145 (by assumption) ?restz145
                          case hiz145 => simp only [List.getElem?_toArray, List.getElem?_cons_zero, List.getElem?_cons_succ]; rfl
                          case hQz145 => exact fun _ _ _ h => h
                          case hyz145 => exact Or.inl ⟨by rfl, by intro w hSw; (try dsimp only at hSw); go_simp; with_reducible rfl⟩
                          try simp only [Act.put, List.setIfInBounds_toArray, List.set_cons_zero, List.set_cons_succ]
                          refine wpAnyH_take (i := 6) (oi := ?oiz146) (v := ?vz146) ?hiz146 (by kernel_rfl) (by kernel_rfl) (by kernel_rfl) ?hQz146 ?hyz146 (by assumption) ?restz146
                          case hiz146 => simp only [List.getElem?_toArray, List.getElem?_cons_zero, List.getElem?_cons_succ]; rfl
                          case hQz146 => exact fun _ _ _ h => h
                          case hyz146 => exact Or.inl ⟨by rfl, by intro w hSw; (try dsimp only at hSw); go_simp; with_reducible rfl⟩
                          try simp only [Act.put, List.setIfInBounds_toArray, List.set_cons_zero, List.set_cons_succ]
                          refine wpAnyH_take (i := 7) (oi := ?oiz147) (v := (.agg y.enc.toArray)) ?hiz147 (by kernel_rfl) (by kernel_rfl) (by kernel_rfl) ?hQz147 ?hyz147 (by assumption) ?restz147
                          case hiz147 => simp only [List.getElem?_toArray, List.getElem?_cons_zero, List.getElem?_cons_succ]; rfl
                          case hQz147 => exact fun _ _ _ h => h
                          case hyz147 => refine yields_loadS g2 (o2 + j * 66) y.enc (by rw [Nd.enc_length HYO.out]; exact aggNodeI) (fun W hW i u hu => HCY.out W ((XW.out.trans HX.out).trans hW) i u hu) ?_ _ rfl rfl; rfl
                          try simp only [Act.put, List.setIfInBounds_toArray, List.set_cons_zero, List.set_cons_succ]
                          refine wpAnyH_take (i := 8) (oi := ?oiz148) (v := ?vz148) ?hiz148 (by kernel_rfl) (by kernel_rfl) (by kernel_rfl) ?hQz148 ?hyz148 (by assumption) ?restz148
                          case hiz148 => simp only [List.getElem?_toArray, List.getElem?_cons_zero, List.getElem?_cons_succ]; rfl
                          case hQz148 => exact fun _ _ _ h => h
                          case hyz148 => exact Or.inl ⟨by rfl, by intro w hSw; (try dsimp only at hSw); go_simp; with_reducible rfl⟩
                          try simp only [Act.put, List.setIfInBounds_toArray, List.set_cons_zero, List.set_cons_succ]
                          refine wpAnyH_done (by kernel_rfl) ?_ _
                          clear hHeld
                          go_wp2_with fail
                          refine wp_region_held_drew (S := fun W => Ext w W ∧ Blk W (w.heap.size + 2) 31 zeroN.enc.toArray ∧ Blk W g1 31 cur) (by kernel_rfl) ⟨(XW.out.trans HX2.out).drew, (B9.out.ext HX2.out).drewN 1, HBO2.out.drewN 1⟩ (fun hHeld => ?_)
                          have D6 := Lib.hid (show Blk wz.drew w.heap.size 31 _ from (B6.out.ext HX2.out).drewN 1)
                          have D7 := Lib.hid (show Blk wz.drew (w.heap.size + 1) 31 _ from (B7.out.ext HX2.out).drewN 1)
                          generalize wz.drew = w9 at hHeld D6 D7 ⊢
                          refine wpAnyH_take (i := 0) (oi := ?oiz149) (v := ?vz149) ?hiz149 (by kernel_rfl) (by kernel_rfl) (by kernel_rfl) ?hQz149 ?hyz149 (by assumption) ?restz149
                          case hiz149 => simp only [List.getElem?_toArray, List.getElem?_cons_zero, List.getElem?_cons_succ]; rfl
                          case hQz149 => exact fun _ _ _ h => h
                          case hyz149 => exact Or.inl ⟨by rfl, by intro w hSw; (try dsimp only at hSw); go_simp; with_reducible rfl⟩
                          try simp only [Act.put, List.setIfInBounds_toArray, List.set_cons_zero, List.set_cons_succ]
                          refine wpAnyH_take (i := 1) (oi := ?oiz150) (v := ?vz150) ?hiz150 (by kernel_rfl) (by kernel_rfl) (by kernel_rfl) ?hQz150 ?hyz150 (by assumption) ?restz150
                          case hiz150 => simp only [List.getElem?_toArray, List.getElem?_cons_zero, List.getElem?_cons_succ]; rfl
                          case hQz150 => exact fun _ _ _ h => h
                          case hyz150 => exact Or.inl ⟨by rfl, by intro w hSw; (try dsimp only at hSw); go_simp; with_reducible rfl⟩
                          try simp only [Act.put, List.setIfInBounds_toArray, List.set_cons_zero, List.set_cons_succ]
                          refine wpAnyH_take (i := 2) (oi := ?oiz151) (v := ?vz151) ?hiz151 (by kernel_rfl) (by kernel_rfl) (by kernel_rfl) ?hQz151 ?hyz151 (by assumption) ?restz151
                          case hiz151 => simp only [List.getElem?_toArray, List.getElem?_cons_zero, List.getElem?_cons_succ]; rfl
                          case hQz151 => exact fun _ _ _ h => h
                          case hyz151 => exact Or.inl ⟨by rfl, by intro w hSw; (try dsimp only at hSw); go_simp; with_reducible rfl⟩
                          try simp only [Act.put, List.setIfInBounds_toArray, List.set_cons_zero, List.set_cons_succ]
                          refine wpAnyH_take (i := 3) (oi := ?oiz152) (v := (.agg x.enc.toArray)) ?hiz152 (by kernel_rfl) (by kernel_rfl) (by kernel_rfl) ?hQz152 ?hyz152 (by assumption) ?restz152
                          case hiz152 => simp only [List.getElem?_toArray, List.getElem?_cons_zero, List.getElem?_cons_succ]; rfl
                          case hQz152 => exact fun _ _ _ h => h
                          case hyz152 => refine yields_loadS g1 (j * 66) x.enc (by rw [Nd.enc_length HXO.out]; exact aggNodeI) (fun W hW i u hu => hW.2.2.at_ _ (HCX.out i u hu)) ?_ _ rfl rfl; rfl
                          try simp only [Act.put, List.setIfInBounds_toArray, List.set_cons_zero, List.set_cons_succ]
                          refine wpAnyH_take (i := 4) (oi := ?oiz153) (v := ?vz153) ?hiz153 (by kernel_rfl) (by kernel_rfl) (by kernel_rfl) ?hQz153 ?hyz153 (by assumption) ?restz153
                          case hiz153 => simp only [List.getElem?_toArray, List.getElem?_cons_zero, List.getElem?_cons_succ]; rfl
                          case hQz153 => exact fun _ _ _ h => h
                          case hyz153 => exact Or.inl ⟨by rfl, by intro w hSw; (try dsimp only at hSw); go_simp; with_reducible rfl⟩
                          try simp only [Act.put, List.setIfInBounds_toArray, List.set_cons_zero, List.set_cons_succ]
                          refine wpAnyH_take (i := 5) (oi := ?oiz154) (v := ?vz154) ?hiz154 (by kernel_rfl) (by kernel_rfl) (by kernel_rfl) ?hQz154 ?hyz154 (by assumption) ?restz154
                          case hiz154 => simp only [List.getElem?_toArray, List.getElem?_cons_zero, List.getElem?_cons_succ]; rfl
                          case hQz154 => exact fun _ _ _ h => h
                          case hyz154 => exact Or.inl ⟨by rfl, by intro w hSw; (try dsimp only at hSw); go_simp; with_reducible rfl⟩
                          try simp only [Act.put, List.setIfInBounds_toArray, List.set_cons_zero, List.set_cons_succ]
                          refine wpAnyH_take (i := 6) (oi := ?oiz155) (v := ?vz155) ?hiz155 (by kernel_rfl) (by kernel_rfl) (by kernel_rfl) ?hQz155 ?hyz155 (by assumption) ?restz155
                          case hiz155 => simp only [List.getElem?_toArray, List.getElem?_cons_zero, List.getElem?_cons_succ]; rfl
                          case hQz155 => exact fun _ _ _ h => h
                          case hyz155 => exact Or.inl ⟨by rfl, by intro w hSw; (try dsimp only at hSw); go_simp; with_reducible rfl⟩
                          try simp only [Act.put, List.setIfInBounds_toArray, List.set_cons_zero, List.set_cons_succ]
                          refine wpAnyH_take (i := 7) (oi := ?oiz156) (v := (.agg y.enc.toArray)) ?hiz156 (by kernel_rfl) (by kernel_rfl) (by kernel_rfl) ?hQz156 ?hyz156 (by assumption) ?restz156
                          case hiz156 => simp only [List.getElem?_toArray, List.getElem?_cons_zero, List.getElem?_cons_succ]; rfl
                          case hQz156 => exact fun _ _ _ h => h
                          case hyz156 => refine yields_loadS g2 (o2 + j * 66) y.enc (by rw [Nd.enc_length HYO.out]; exact aggNodeI) (fun W hW i u hu => HCY.out W hW.1 i u hu) ?_ _ rfl rfl; rfl
                          try simp only [Act.put, List.setIfInBounds_toArray, List.set_cons_zero, List.set_cons_succ]
                          refine wpAnyH_ready (rs := [8]) (by kernel_rfl) (by simp) (AllReadyH.cons (o := ?oy157) ?hy157 (fun K hK => ?sy157) AllReadyH.nil)
                          case hy157 => simp only [List.getElem?_toArray, List.getElem?_cons_zero, List.getElem?_cons_succ]; rfl
                          refine stp_storeB D6.out aggNodeI HSX.out rfl rfl _ _ rfl rfl rfl rfl ?_
                          have hH2 := And.intro (hHeld.1.setRow (Nat.le_refl _) x.enc.toArray) (And.intro (hHeld.2.1.row_far (show w.heap.size + 2 ≠ w.heap.size by omega) x.enc.toArray) (hHeld.2.2.row_far (show g1 ≠ w.heap.size by omega) x.enc.toArray))
                          refine hK.out _ _ hH2 (fun _ => ?_)
                          have E6 := Lib.hid (D6.out.setRow x.enc.toArray)
                          have E7 := Lib.hid (D7.out.row_far hne' x.enc.toArray)
                          clear hK K hHeld D6 D7
                          try simp only [Act.put, List.setIfInBounds_toArray, List.set_cons_zero, List.set_cons_succ]
                          refine wpAnyH_ready (rs := [9]) (by kernel_rfl) (by simp) (AllReadyH.cons (o := ?oy158) ?hy158 (fun K hK => ?sy158) AllReadyH.nil)
                          case hy158 => simp only [List.getElem?_toArray, List.getElem?_cons_zero, List.getElem?_cons_succ]; rfl
                          refine stp_storeB E7.out aggNodeI HSY.out rfl rfl _ _ rfl rfl rfl rfl ?_
                          have hH3 := And.intro (hH2.1.setRow (Nat.le_succ _) y.enc.toArray) (And.intro (hH2.2.1.row_far (show w.heap.size + 2 ≠ w.heap.size + 1 by omega) y.enc.toArray) (hH2.2.2.row_far (show g1 ≠ w.heap.size + 1 by omega) y.enc.toArray))
                          refine hK.out _ _ hH3 (fun _ => ?_)
                          have F6 := Lib.hid (E6.out.row_far hne y.enc.toArray)
                          have F7 := Lib.hid (E7.out.setRow y.enc.toArray)
                          have FX := Lib.hid hH3.1
                          clear hK K hH2 hH3 E6 E7
                          try simp only [Act.put, List.setIfInBounds_toArray, List.set_cons_zero, List.set_cons_succ]
                          refine wpAnyH_take (i := 10) (oi := ?oiz159) (v := ?vz159) ?hiz159 (by kernel_rfl) (by kernel_rfl) (by kernel_rfl) ?hQz159 ?hyz159 (by assumption) ?restz159
                          case hiz159 => simp only [List.getElem?_toArray, List.getElem?_cons_zero, List.getElem?_cons_succ]; rfl
                          case hQz159 => exact fun _ _ _ h => h
                          case hyz159 => exact Or.inl ⟨by rfl, by intro w hSw; (try dsimp only at hSw); go_simp; with_reducible rfl⟩
                          try simp only [Act.put, List.setIfInBounds_toArray, List.set_cons_zero, List.set_cons_succ]
                          refine wpAnyH_done (by kernel_rfl) ?_ _
                          go_wp2
                          refine bodyPost_ret (results_bbt rfl _ rfl rfl aggNodeI HSX.out.size HSY.out.size F6.out F7.out rfl) rfl ?_
                          exact ⟨by rw [HE.out.1, HE.out.2.1, HE.out.2.2, HXE.out, HYE.out]; rfl, FX.out⟩
                      · have l3 : P.length < O.length := by omega
                        have HE := Lib.hid (show X = O.getD j zeroN ∧ Y = P.getD j zeroN ∧ c = 0 by
                          have h1 := HR.out.symm.trans HCL.out
                          rw [partN_eq O P j hk1 hk2 HM.out (.inr (.inl (by omega)))] at h1
                          injection h1 with h1 h2
                          injection h2 with h2 h3
                          exact ⟨h1, h2, h3⟩)
                        obtain ⟨g1, cur, rfl, hg1, hbo, hcx⟩ := own_blk (HO.out.ext HX.out) j l1
                        have hxo : tNd.ok O[j] := HOO.out _ (List.getElem_mem l1)
                        have hxe := getD_lt l1
                        generalize O[j] = x at hcx hxo hxe
                        have HXE := Lib.hid hxe
                        have HXO := Lib.hid (show x.ok from hxo)
                        have HSX := Lib.hid (Nd.st hxo)
                        have HBO := Lib.hid hbo
                        have HCX := Lib.hid hcx
                        clear hbo hcx hxo hxe
                        have HYE := Lib.hid (getD_ge l2)
                        obtain rfl : j = P.length := by omega
                        have l4 : ¬ (O.length : Int) < (P.length : Int) := by omega
                        go_wp2_with fail
                        refine wp_region_held_drew (S := fun W => Ext w W ∧ Blk W (w.heap.size + 2) 31 zeroN.enc.toArray ∧ Blk W g1 31 cur) (by kernel_rfl) ⟨(XW.out.trans HX.out).drew, (B9.out.ext HX.out).drewN 1, HBO.out.drewN 1⟩ (fun hHeld => ?_)
                        have D6 := Lib.hid (show Blk wr.drew w.heap.size 31 _ from (B6.out.ext HX.out).drewN 1)
                        have D7 := Lib.hid (show Blk wr.drew (w.heap.size + 1) 31 _ from (B7.out.ext HX.out).drewN 1)
                        generalize wr.drew = w9 at hHeld D6 D7 ⊢
                        refine wpAnyH_take (i := 0) (oi := ?oiz160) (v := ?vz160) ?hiz160 (by kernel_rfl) (by kernel_rfl) (by kernel_rfl) ?hQz160 ?hyz160 (by assumption) ?restz160
                        case hiz160 => simp only [List.getElem?_toArray, List.getElem?_cons_zero, List.getElem?_cons_succ]; rfl
                        case hQz160 => exact fun _ _ _ h => h
                        case hyz160 => exact Or.inl ⟨by rfl, by intro w hSw; (try dsimp only at hSw); go_simp; with_reducible rfl⟩
                        try simp only [Act.put, List.setIfInBounds_toArray, List.set_cons_zero, List.set_cons_succ]
                        refine wpAnyH_take (i := 1) (oi := ?oiz161) (v := ?vz161) ?hiz161 (by kernel_rfl) (by kernel_rfl) (by kernel_rfl) ?hQz161 ?hyz161 (by assumption) ?restz161
                        case hiz161 => simp only [List.getElem?_toArray, List.getElem?_cons_zero, List.getElem?_cons_succ]; rfl
                        case hQz161 => exact fun _ _ _ h => h
                        case hyz161 => exact Or.inl ⟨by rfl, by intro w hSw; (try dsimp only at hSw); go_simp; with_reducible rfl⟩
                        try simp only [Act.put, List.setIfInBounds_toArray, List.set_cons_zero, List.set_cons_succ]
                        refine wpAnyH_take (i := 2) (oi := ?oiz162) (v := ?vz162) ?hiz162 (by kernel_rfl) (by kernel_rfl) (by kernel_rfl) ?hQz162 ?hyz162 (by assumption) ?restz162
                        case hiz162 => simp only [List.getElem?_toArray, List.getElem?_cons_zero, List.getElem?_cons_succ]; rfl
                        case hQz162 => exact fun _ _ _ h => h
                        case hyz162 => exact Or.inl ⟨by rfl, by intro w hSw; (try dsimp only at hSw); go_simp; with_reducible rfl⟩
                        try simp only [Act.put, List.setIfInBounds_toArray, List.set_cons_zero, List.set_cons_succ]
                        refine wpAnyH_take (i := 3) (oi := ?oiz163) (v := ?vz163) ?hiz163 (by kernel_rfl) (by kernel_rfl) (by kernel_rfl) ?hQz163 ?hyz163 (by assumption) ?restz163
                        case hiz163 => simp only [List.getElem?_toArray, List.getElem?_cons_zero, List.getElem?_cons_succ]; rfl
                        case hQz163 => exact fun _ _ _ h => h
                        case hyz163 => exact Or.inl ⟨by rfl, by intro w hSw; (try dsimp only at hSw); go_simp; with_reducible rfl⟩
                        try simp only [Act.put, List.setIfInBounds_toArray, List.set_cons_zero, List.set_cons_succ]
                        refine wpAnyH_take (i := 4) (oi := ?oiz164) (v := (.agg x.enc.toArray)) ?hiz164 (by kernel_rfl) (by kernel_rfl) (by kernel_rfl) ?hQz164 ?hyz164 (by assumption) ?restz164
                        case hiz164 => simp only [List.getElem?_toArray, List.getElem?_cons_zero, List.getElem?_cons_succ]; rfl
                        case hQz164 => exact fun _ _ _ h => h
                        case hyz164 => refine yields_loadS g1 (P.length * 66) x.enc (by rw [Nd.enc_length HXO.out]; exact aggNodeI) (fun W hW i u hu => hW.2.2.at_ _ (HCX.out i u hu)) ?_ _ rfl rfl; rfl
                        try simp only [Act.put, List.setIfInBounds_toArray, List.set_cons_zero, List.set_cons_succ]
                        refine wpAnyH_take (i := 5) (oi := ?oiz165) (v := (.agg zeroN.enc.toArray)) ?hiz165 (by kernel_rfl) (by kernel_rfl) (by kernel_rfl) ?hQz165 ?hyz165 (by assumption) ?restz165
                        case hiz165 => simp only [List.getElem?_toArray, List.getElem?_cons_zero, List.getElem?_cons_succ]; rfl
                        case hQz165 => exact fun _ _ _ h => h
                        case hyz165 => refine yields_loadS (w.heap.size + 2) 0 zeroN.enc (by rw [Nd.enc_length zeroN_ok]; exact aggNodeI) (fun W hW j u hu => by rw [Nat.zero_add]; exact hW.2.1.at_ j (by rw [List.getElem?_toArray]; exact hu)) ?_ _ rfl rfl; rfl
                        try simp only [Act.put, List.setIfInBounds_toArray, List.set_cons_zero, List.set_cons_succ]
                        refine wpAnyH_ready (rs := [6]) (by kernel_rfl) (by simp) (AllReadyH.cons (o := ?oy166) ?hy166 (fun K hK => ?sy166) AllReadyH.nil)
                        case hy166 => simp only [List.getElem?_toArray, List.getElem?_cons_zero, List.getElem?_cons_succ]; rfl
                        refine stp_storeB D6.out aggNodeI HSX.out rfl rfl _ _ rfl rfl rfl rfl ?_
                        have hH2 := And.intro (hHeld.1.setRow (Nat.le_refl _) x.enc.toArray) (And.intro (hHeld.2.1.row_far (show w.heap.size + 2 ≠ w.heap.size by omega) x.enc.toArray) (hHeld.2.2.row_far (show g1 ≠ w.heap.size by omega) x.enc.toArray))
                        refine hK.out _ _ hH2 (fun _ => ?_)
                        have E6 := Lib.hid (D6.out.setRow x.enc.toArray)
                        have E7 := Lib.hid (D7.out.row_far hne' x.enc.toArray)
                        clear hK K hHeld D6 D7
                        try simp only [Act.put, List.setIfInBounds_toArray, List.set_cons_zero, List.set_cons_succ]
                        refine wpAnyH_ready (rs := [7]) (by kernel_rfl) (by simp) (AllReadyH.cons (o := ?oy167) ?hy167 (fun K hK => ?sy167) AllReadyH.nil)
                        case hy167 => simp only [List.getElem?_toArray, List.getElem?_cons_zero, List.getElem?_cons_succ]; rfl
                        refine stp_storeB E7.out aggNodeI HZ.out rfl rfl _ _ rfl rfl rfl rfl ?_
                        have hH3 := And.intro (hH2.1.setRow (Nat.le_succ _) zeroN.enc.toArray) (And.intro (hH2.2.1.row_far (show w.heap.size + 2 ≠ w.heap.size + 1 by omega) zeroN.enc.toArray) (hH2.2.2.row_far (show g1 ≠ w.heap.size + 1 by omega) zeroN.enc.toArray))
                        refine hK.out _ _ hH3 (fun _ => ?_)
                        have F6 := Lib.hid (E6.out.row_far hne zeroN.enc.toArray)
                        have F7 := Lib.hid (E7.out.setRow zeroN.enc.toArray)
                        have FX := Lib.hid hH3.1
                        clear hK K hH2 hH3 E6 E7
                        try simp only [Act.put, List.setIfInBounds_toArray, List.set_cons_zero, List.set_cons_succ]
                        refine wpAnyH_take (i := 8) (oi := ?oiz168) (v := ?vz168) ?hiz168 (by kernel_rfl) (by kernel_rfl) (by kernel_rfl) ?hQz168 ?hyz168 (by assumption) ?restz168
                        case hiz168 => simp only [List.getElem?_toArray, List.getElem?_cons_zero, List.getElem?_cons_succ]; rfl
                        case hQz168 => exact fun _ _ _ h => h
                        case hyz168 => exact Or.inl ⟨by rfl, by intro w hSw; (try dsimp only at hSw); go_simp; with_reducible rfl⟩
                        try simp only [Act.put, List.setIfInBounds_toArray, List.set_cons_zero, List.set_cons_succ]
                        refine wpAnyH_done (by kernel_rfl) ?_ _
                        go_wp2
                        refine bodyPost_ret (results_bbt rfl _ rfl rfl aggNodeI HSX.out.size HZ.out.size F6.out F7.out rfl) rfl ?_
                        exact ⟨by rw [HE.out.1, HE.out.2.1, HE.out.2.2, HXE.out, HYE.out]; rfl, FX.out⟩
                    · have l2 : j < P.length := by
                        rcases Nat.lt_or_ge j P.length with h | h
                        · exact h
                        · exact absurd (alike (by omega) (fun p hp => HM.out p (by omega))) NE.out
                      have HE := Lib.hid (show X = O.getD j zeroN ∧ Y = P.getD j zeroN ∧ c = 0 by
                        have h1 := HR.out.symm.trans HCL.out
                        rw [partN_eq O P j hk1 hk2 HM.out (.inl (by omega))] at h1
                        injection h1 with h1 h2
                        injection h2 with h2 h3
                        exact ⟨h1, h2, h3⟩)
                      obtain ⟨Ap, capp, ep, _, _, hrdp, hokp⟩ := id H'.out
                      injection ep with a1 a2 a3
                      subst a1 a3
                      obtain ⟨g2, o2, rfl, _, hcp⟩ := hrdp.elem hokp j l2
                      have hyo : tNd.ok P[j] := hokP.out _ (List.getElem_mem l2)
                      have hcy : ∀ W, Ext w W → ∀ i u, P[j].enc[i]? = some u → W.cell? ⟨g2, o2 + j * 66 + i, none⟩ = some u := fun W hW i u hu => hW.cell (hcp i u hu)
                      have hye := getD_lt l2
                      clear hcp hrdp hokp a2
                      generalize P[j] = y at hcy hyo hye
                      have HYE := Lib.hid hye
                      have HYO := Lib.hid (show y.ok from hyo)
                      have HSY := Lib.hid (Nd.st hyo)
                      have HCY := Lib.hid hcy
                      clear hyo hye hcy
                      have HXE := Lib.hid (getD_ge l1)
                      obtain rfl : j = O.length := by omega
                      have l4 : (O.length : Int) < (P.length : Int) := by omega
                      go_wp2_with fail
                      refine wp_region_held_drew (S := fun W => Ext w W ∧ Blk W (w.heap.size + 2) 31 zeroN.enc.toArray) (by kernel_rfl) ⟨(XW.out.trans HX.out).drew, (B9.out.ext HX.out).drewN 1⟩ (fun hHeld => ?_)
                      have D6 := Lib.hid (show Blk wr.drew w.heap.size 31 _ from (B6.out.ext HX.out).drewN 1)
                      have D7 := Lib.hid (show Blk wr.drew (w.heap.size + 1) 31 _ from (B7.out.ext HX.out).drewN 1)
                      generalize wr.drew = w9 at hHeld D6 D7 ⊢
                      refine wpAnyH_take (i := 0) (oi := ?oiz169) (v := (.agg zeroN.enc.toArray)) ?hiz169 (by kernel_rfl) (by kernel_rfl) (by kernel_rfl) ?hQz169 ?hyz169 (by assumption) ?restz169
                      case hiz169 => simp only [List.getElem?_toArray, List.getElem?_cons_zero, List.getElem?_cons_succ]; rfl
                      case hQz169 => exact fun _ _ _ h => h
                      case hyz169 => refine yields_loadS (w.heap.size + 2) 0 zeroN.enc (by rw [Nd.enc_length zeroN_ok]; exact aggNodeI) (fun W hW j u hu => by rw [Nat.zero_add]; exact hW.2.at_ j (by rw [List.getElem?_toArray]; exact hu)) ?_ _ rfl rfl; rfl
                      try simp only [Act.put, List.setIfInBounds_toArray, List.set_cons_zero, List.set_cons_succ]
                      refine wpAnyH_take (i := 1) (oi := ?oiz170) (v := ?vz170) ?hiz170 (by kernel_rfl) (by kernel_rfl) (by kernel_rfl) ?hQz170 ?hyz170 (by assumption) ?restz170
                      case hiz170 => simp only [List.getElem?_toArray, List.getElem?_cons_zero, List.getElem?_cons_succ]; rfl
                      case hQz170 => exact fun _ _ _ h => h
                      case hyz170 => exact Or.inl ⟨by rfl, by intro w hSw; (try dsimp only at hSw); go_simp; with_reducible rfl⟩
                      try simp only [Act.put, List.setIfInBounds_toArray, List.set_cons_zero, List.set_cons_succ]
                      refine wpAnyH_take (i := 2) (oi := ?oiz171) (v := ?vz171) ?hiz171 (by kernel_rfl) (by kernel_rfl) (by kernel_rfl) ?hQz171 ?hyz171 (by assumption) ?restz171
                      case hiz171 => simp only [List.getElem?_toArray, List.getElem?_cons_zero, List.getElem?_cons_succ]; rfl
                      case hQz171 => exact fun _ _ _ h => h
                      case hyz171 => exact Or.inl ⟨by rfl, by intro w hSw; (try dsimp only at hSw); go_simp; with_reducible rfl⟩
                      try simp only [Act.put, List.setIfInBounds_toArray, List.set_cons_zero, List.set_cons_succ]
                      refine wpAnyH_take (i := 3) (oi := ?oiz172) (v := ?vz172) ?hiz172 (by kernel_rfl) (by kernel_rfl) (by kernel_rfl) ?hQz172 ?hyz172 (by assumption) ?restz172
                      case hiz172 => simp only [List.getElem?_toArray, List.getElem?_cons_zero, List.getElem?_cons_succ]; rfl
                      case hQz172 => exact fun _ _ _ h => h
                      case hyz172 => exact Or.inl ⟨by rfl, by intro w hSw; (try dsimp only at hSw); go_simp; with_reducible rfl⟩
                      try simp only [Act.put, List.setIfInBounds_toArray, List.set_cons_zero, List.set_cons_succ]
                      refine wpAnyH_take (i := 4) (oi := ?oiz173) (v := ?vz173) ?hiz173 (by kernel_rfl) (by kernel_rfl) (by kernel_rfl) ?hQz173 ?hyz173 (by assumption) ?restz173
                      case hiz173 => simp only [List.getElem?_toArray, List.getElem?_cons_zero, List.getElem?_cons_succ]; rfl
                      case hQz173 => exact fun _ _ _ h => h
                      case hyz173 => exact Or.inl ⟨by rfl, by intro w hSw; (try dsimp only at hSw); go_simp; with_reducible rfl⟩
                      try simp only [Act.put, List.setIfInBounds_toArray, List.set_cons_zero, List.set_cons_succ]
                      refine wpAnyH_take (i := 5) (oi := ?oiz174) (v := (.agg y.enc.toArray)) ?hiz174 (by kernel_rfl) (by kernel_rfl) (by kernel_rfl) ?hQz174 ?hyz174 (by assumption) ?restz174
                      case hiz174 => simp only [List.getElem?_toArray, List.getElem?_cons_zero, List.getElem?_cons_succ]; rfl
                      case hQz174 => exact fun _ _ _ h => h
                      case hyz174 => refine yields_loadS g2 (o2 + O.length * 66) y.enc (by rw [Nd.enc_length HYO.out]; exact aggNodeI) (fun W hW i u hu => HCY.out W hW.1 i u hu) ?_ _ rfl rfl; rfl
                      try simp only [Act.put, List.setIfInBounds_toArray, List.set_cons_zero, List.set_cons_succ]
                      refine wpAnyH_ready (rs := [6]) (by kernel_rfl) (by simp) (AllReadyH.cons (o := ?oy175) ?hy175 (fun K hK => ?sy175) AllReadyH.nil)
                      case hy175 => simp only [List.getElem?_toArray, List.getElem?_cons_zero, List.getElem?_cons_succ]; rfl
                      refine stp_storeB D6.out aggNodeI HZ.out rfl rfl _ _ rfl rfl rfl rfl ?_
                      have hH2 := And.intro (hHeld.1.setRow (Nat.le_refl _) zeroN.enc.toArray) (hHeld.2.row_far (show w.heap.size + 2 ≠ w.heap.size by omega) zeroN.enc.toArray)
                      refine hK.out _ _ hH2 (fun _ => ?_)
                      have E6 := Lib.hid (D6.out.setRow zeroN.enc.toArray)
                      have E7 := Lib.hid (D7.out.row_far hne' zeroN.enc.toArray)
                      clear hK K hHeld D6 D7
                      try simp only [Act.put, List.setIfInBounds_toArray, List.set_cons_zero, List.set_cons_succ]
                      refine wpAnyH_ready (rs := [7]) (by kernel_rfl) (by simp) (AllReadyH.cons (o := ?oy176) ?hy176 (fun K hK => ?sy176) AllReadyH.nil)
                      case hy176 => simp only [List.getElem?_toArray, List.getElem?_cons_zero, List.getElem?_cons_succ]; rfl
                      refine stp_storeB E7.out aggNodeI HSY.out rfl rfl _ _ rfl rfl rfl rfl ?_
                      have hH3 := And.intro (hH2.1.setRow (Nat.le_succ _) y.enc.toArray) (hH2.2.row_far (show w.heap.size + 2 ≠ w.heap.size + 1 by omega) y.enc.toArray)
                      refine hK.out _ _ hH3 (fun _ => ?_)
                      have F6 := Lib.hid (E6.out.row_far hne y.enc.toArray)
                      have F7 := Lib.hid (E7.out.setRow y.enc.toArray)
                      have FX := Lib.hid hH3.1
                      clear hK K hH2 hH3 E6 E7
                      try simp only [Act.put, List.setIfInBounds_toArray, List.set_cons_zero, List.set_cons_succ]
                      refine wpAnyH_take (i := 8) (oi := ?oiz177) (v := ?vz177) ?hiz177 (by kernel_rfl) (by kernel_rfl) (by kernel_rfl) ?hQz177 ?hyz177 (by assumption) ?restz177
                      case hiz177 => simp only [List.getElem?_toArray, List.getElem?_cons_zero, List.getElem?_cons_succ]; rfl
                      case hQz177 => exact fun _ _ _ h => h
                      case hyz177 => exact Or.inl ⟨by rfl, by intro w hSw; (try dsimp only at hSw); go_simp; with_reducible rfl⟩
                      try simp only [Act.put, List.setIfInBounds_toArray, List.set_cons_zero, List.set_cons_succ]
                      refine wpAnyH_done (by kernel_rfl) ?_ _
                      go_wp2
                      refine bodyPost_ret (results_bbt rfl _ rfl rfl aggNodeI HZ.out.size HSY.out.size F6.out F7.out rfl) rfl ?_
                      exact ⟨by rw [HE.out.1, HE.out.2.1, HE.out.2.2, HXE.out, HYE.out]; rfl, FX.out⟩
end Go.Proofs.Ytmndkbheehcoaaa
