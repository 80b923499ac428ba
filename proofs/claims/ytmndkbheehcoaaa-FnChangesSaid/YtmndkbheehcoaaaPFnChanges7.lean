/- What the walk of the law FnChanges needs, part 7 of 7. No condition. -/
import Derived.BigFrame
import Derived.Maps.OwnOps
import Derived.Maps.Views
import Derived.DeepKeys3
import Derived.Test.YtmndkbheehcoaaaPFnChanges6
/- The nodes of a map, as they are asked for. No condition. -/
namespace Go.Proofs.Ytmndkbheehcoaaa
open Go.RowKit
set_option linter.unusedVariables false
set_option linter.unusedSimpArgs false

/-- the nodes of a map, and the code -/
def nodR (L : List En) : List Nd × Int := if okE L then ((trF L.length L).all, 0) else ([], 1)
theorem nodR_len (L : List En) : (nodR L).1.length ≤ 64 := by
  unfold nodR
  split
  · rename_i h
    exact Nat.le_trans (trF_len _ _) (okE_incs' h).2
  · exact Nat.zero_le _
set_option maxHeartbeats 1000000 in
set_option maxRecDepth 100000 in
theorem specNodesOfMap_any (v : Value) (L : List En) (w : World) (S : Nat → Prop) (h : RdL tEnt w S v L) :
    Calls Try.prog 37 #[v] w fun e w' => ∃ v', e = .returned (.tuple #[v', .int .i64 (nodR L).2]) ∧ Own tNd 31 w' w.heap.size v' (nodR L).1 ∧ Ext w w' := by
  have H := Lib.hid h
  have hokL := h.choose_spec.choose_spec.2.2.2.2
  have hc := l04Ok_any v L w S h
  have hp := fun (hb : okE L = true) W hW => l04Nodes_any L.length v L (Nat.le_refl _) (okE_incs' hb).2 (good_of hb hokL) W S hW
  obtain ⟨A, cap, rfl, hcap, hlen, _⟩ := h
  cases hb : okE L with
  | false =>
    simp only [nodR, hb, Bool.false_eq_true, if_false]
    simp only [hb] at hc
    clear hb hp
    go_enter Try.func37, Try.ntmps37
    go_wp2_with fail
    refine hc.mono ?_
    rintro e w1 ⟨rfl, hx⟩
    have HX := Lib.hid hx
    clear hx
    go_wp2
    go_ret2
    exact ⟨_, rfl, Own.empty tNd _ 31 _ HX.out.size, HX.out.alloc _⟩
  | true =>
    simp only [hb] at hc
    replace hp := hp hb
    simp only [nodR, hb, if_true]
    have HKK := Lib.hid (trF L.length L).key_ok.1
    clear hb
    go_enter Try.func37, Try.ntmps37
    go_wp2_with fail
    refine hc.mono ?_
    rintro e w1 ⟨rfl, hx⟩
    have HX := Lib.hid hx
    clear hx
    go_wp2_with fail
    refine (hp _ (H.out.ext (by decide) HX.out)).mono ?_
    rintro e w2 ⟨v2, rfl, ho, hx⟩
    have HO := Lib.hid (ho.le (base' := w.heap.size) HX.out.size)
    have HX2 := Lib.hid (HX.out.trans hx)
    obtain ⟨A2, n2, c2, rfl⟩ := ho.shape3
    clear ho hx
    go_wp2_with (refine wpl_storeNew aggKey HKK.out rfl rfl _ _ rfl rfl rfl rfl ?_)
    go_ret2
    exact ⟨_, rfl, HO.out.alloc _, HX2.out.alloc _⟩
set_option maxHeartbeats 1000000 in
set_option maxRecDepth 100000 in
theorem implNodesOfMap_any (v : Value) (L : List En) (w : World) (S : Nat → Prop) (h : RdL tEnt w S v L) :
    Calls Try.prog 36 #[v] w fun e w' => ∃ v', e = .returned (.tuple #[v', .int .i64 (nodR L).2]) ∧ Own tNd 31 w' w.heap.size v' (nodR L).1 ∧ Ext w w' := by
  have H := Lib.hid h
  have hokL := h.choose_spec.choose_spec.2.2.2.2
  have hc := validEntries_any v L w S h
  have hp := fun (hb : okE L = true) W hW => allNodes_any v L (okE_incs' hb).2 (good_of hb hokL) W S hW
  obtain ⟨A, cap, rfl, hcap, hlen, _⟩ := h
  cases hb : okE L with
  | false =>
    simp only [nodR, hb, Bool.false_eq_true, if_false]
    simp only [hb] at hc
    clear hb hp
    go_enter Try.func36, Try.ntmps36
    go_wp2_with fail
    refine hc.mono ?_
    rintro e w1 ⟨rfl, hx⟩
    have HX := Lib.hid hx
    clear hx
    go_wp2
    go_ret2
    exact ⟨_, rfl, Own.nil _ _ _ _, HX.out⟩
  | true =>
    simp only [hb] at hc
    replace hp := hp hb
    simp only [nodR, hb, if_true]
    have HKK := Lib.hid (trF L.length L).key_ok.1
    clear hb
    go_enter Try.func36, Try.ntmps36
    go_wp2_with fail
    refine hc.mono ?_
    rintro e w1 ⟨rfl, hx⟩
    have HX := Lib.hid hx
    clear hx
    go_wp2_with fail
    refine (hp _ (H.out.ext (by decide) HX.out)).mono ?_
    rintro e w2 ⟨v2, rfl, ho, hx⟩
    have HO := Lib.hid (ho.le (base' := w.heap.size) HX.out.size)
    have HX2 := Lib.hid (HX.out.trans hx)
    obtain ⟨A2, n2, c2, rfl⟩ := ho.shape3
    clear ho hx
    go_wp2
    go_ret2
    exact ⟨_, rfl, HO.out, HX2.out⟩
end Go.Proofs.Ytmndkbheehcoaaa
/- How deep a name lies. No condition. -/
namespace Go.Proofs.Ytmndkbheehcoaaa
open Go.RowKit
set_option linter.unusedVariables false
set_option linter.unusedSimpArgs false

/-- how deep a name lies, and the code -/
def depR (L : List En) (s : ByteArray) : Int × Int := if okE L && nameB s then (if hasE L s then ((((trF L.length L).sel (fun o => ltB s o) (fun o => ltB o s)).length : Nat), 0) else (0, 6)) else (0, 1)
theorem sizeNd_any (A : Option Addr) (n c : Nat) (w : World) : Calls Try.prog 107 #[.slice A n c] w fun e w' => e = .returned (.int .i64 n) ∧ w = w' := by
  go_enter Try.func107, Try.ntmps107
  go_wp2
  go_ret
  exact ⟨rfl, rfl⟩
set_option maxHeartbeats 1000000 in
set_option maxRecDepth 100000 in
theorem implDepth_any (v : Value) (L : List En) (s : ByteArray) (hsz : s.size ≤ 140737488351232) (w : World) (S : Nat → Prop) (h : RdL tEnt w S v L) :
    Calls Try.prog 46 #[v, .string s] w fun e w' => e = .returned (.tuple #[.int .i64 (depR L s).1, .int .i64 (depR L s).2]) ∧ Ext w w' := by
  have H := Lib.hid h
  have hokL := h.choose_spec.choose_spec.2.2.2.2
  have hg := implGetEntry_any v L s hsz w S h
  have hp := fun (hb : okE L = true) W hW => path_any v L s (okE_incs' hb).2 (good_of hb hokL) W S hW
  obtain ⟨A, cap, rfl, hcap, hlen, _⟩ := h
  cases hb : (okE L && nameB s && hasE L s) with
  | false =>
    obtain ⟨c, hc0, e1, e2⟩ : ∃ c : Int, (c != 0) = true ∧ depR L s = (0, c) ∧ (getR L s).2 = c := by
      cases h1 : (okE L && nameB s) with
      | false => exact ⟨1, rfl, by rw [depR, h1]; rfl, by rw [getR, h1]; rfl⟩
      | true =>
        rw [h1, Bool.true_and] at hb
        exact ⟨6, rfl, by rw [depR, h1, hb]; rfl, by rw [getR, h1, hb]; rfl⟩
    rw [e1]
    simp only [e2] at hg
    clear e1 e2 hb hp
    go_enter Try.func46, Try.ntmps46
    go_wp2_with fail
    refine hg.mono ?_
    rintro e w1 ⟨rfl, hx⟩
    have HX := Lib.hid hx
    clear hx
    go_wp2
    go_ret2
    exact ⟨rfl, HX.out⟩
  | true =>
    simp only [Bool.and_eq_true] at hb
    obtain ⟨⟨h1, h2⟩, h3⟩ := hb
    replace hp := hp h1
    obtain ⟨R, hR⟩ : ∃ R, (trF L.length L).sel (fun o => ltB s o) (fun o => ltB o s) = R := ⟨_, rfl⟩
    simp only [hR] at hp
    have e1 : depR L s = (((R.length : Nat) : Int), 0) := by rw [depR, h1, h2, h3, hR]; rfl
    have e2 : (getR L s).2 = 0 := by rw [getR, h1, h2, h3]; rfl
    rw [e1]
    simp only [e2] at hg
    clear e1 e2 h1 h2 h3 hR
    go_enter Try.func46, Try.ntmps46
    go_wp2_with fail
    refine hg.mono ?_
    rintro e w1 ⟨rfl, hx⟩
    have HX := Lib.hid hx
    clear hx
    go_wp2_with fail
    refine (hp _ (H.out.ext (by decide) HX.out)).mono ?_
    rintro e w2 ⟨v2, rfl, ho, hx⟩
    have HX2 := Lib.hid (HX.out.trans hx)
    obtain ⟨A2, c2, rfl⟩ := ho.shape
    clear ho hx hg hp
    go_wp2_with fail
    refine (sizeNd_any _ _ _ _).mono ?_
    rintro e w' ⟨rfl, rfl⟩
    go_wp2
    go_ret2
    exact ⟨rfl, HX2.out⟩
end Go.Proofs.Ytmndkbheehcoaaa
/- What a map's tree is like: each entry once, names in order, priorities that fall: plainly. No condition. -/
namespace Go.Proofs.Ytmndkbheehcoaaa
open Go.RowKit
set_option linter.unusedVariables false
set_option linter.unusedSimpArgs false

/-! the order of keys -/
theorem cmpL_nil (b : List Int) : cmpL [] b = 0 := by rw [cmpL]; intro x a y b' h; cases h
theorem cmpL_nil' (a : List Int) : cmpL a [] = 0 := by rw [cmpL]; intro x a' y b' _ h; cases h
theorem cmpL_cons (x y : Int) (a b : List Int) : cmpL (x :: a) (y :: b) = if x = y then cmpL a b else if x < y then -1 else 1 := by rw [cmpL]
theorem cmpL_neg (a : List Int) : ∀ b : List Int, cmpL b a = - cmpL a b := by
  induction a with
  | nil => intro b; rw [cmpL_nil, cmpL_nil']; rfl
  | cons x r ih =>
    intro b
    cases b with
    | nil => rw [cmpL_nil, cmpL_nil']; rfl
    | cons y s =>
      rw [cmpL_cons, cmpL_cons]
      by_cases h : x = y
      · rw [if_pos h, if_pos h.symm, ih]
      · rw [if_neg h, if_neg (Ne.symm h)]
        by_cases h2 : x < y
        · rw [if_pos h2, if_neg (by omega)]; rfl
        · rw [if_neg h2, if_pos (by omega)]
theorem cmpL_trans (a : List Int) : ∀ b c : List Int, a.length = b.length → b.length = c.length → cmpL a b ≤ 0 → cmpL b c ≤ 0 → cmpL a c ≤ 0 := by
  induction a with
  | nil => intro b c _ _ _ _; rw [cmpL_nil]; decide
  | cons x r ih =>
    intro b c h1 h2 h3 h4
    match b, c, h1, h2 with
    | y :: s, z :: t, h1, h2 =>
      rw [cmpL_cons] at h3 h4 ⊢
      by_cases e1 : x = y
      · rw [if_pos e1] at h3
        subst e1
        by_cases e2 : x = z
        · rw [if_pos e2] at h4 ⊢
          exact ih s t (by simpa using h1) (by simpa using h2) h3 h4
        · rw [if_neg e2] at h4 ⊢
          exact h4
      · rw [if_neg e1] at h3
        have hxy : x < y := by
          by_cases q : x < y
          · exact q
          · rw [if_neg q] at h3; omega
        by_cases e2 : y = z
        · subst e2
          rw [if_neg e1, if_pos hxy]; decide
        · rw [if_neg e2] at h4
          have hyz : y < z := by
            by_cases q : y < z
            · exact q
            · rw [if_neg q] at h4; omega
          rw [if_neg (by omega), if_pos (by omega)]; decide
theorem topI_max (ps : List (List Int)) (hps : ∀ p ∈ ps, p.length = 32) (k : Nat) : k ≤ ps.length → ∀ i, i < k → cmpL (gK ps i) (gK ps (topI ps k)) ≤ 0 := by
  have hl : ∀ i, i < ps.length → (gK ps i).length = 32 := fun i hi => by rw [gK_lt hi]; exact hps _ (List.getElem_mem hi)
  induction k with
  | zero => intro _ i hi; omega
  | succ k ih =>
    intro hk i hi
    have ht : topI ps k < ps.length := by
      rcases Nat.eq_zero_or_pos k with h0 | h0
      · subst h0; rw [topI_zero]; omega
      · have := topI_lt ps k h0; omega
    rw [topI_succ]
    by_cases hc : 0 < cmpL (gK ps k) (gK ps (topI ps k))
    · rw [if_pos hc]
      by_cases e : i = k
      · subst e; rw [cmpL_self]; decide
      · have h1 := ih (by omega) i (by omega)
        refine cmpL_trans _ (gK ps (topI ps k)) _ (by rw [hl i (by omega), hl _ ht]) (by rw [hl _ ht, hl k (by omega)]) h1 ?_
        have := cmpL_neg (gK ps (topI ps k)) (gK ps k)
        omega
    · rw [if_neg hc]
      by_cases e : i = k
      · subst e; omega
      · exact ih (by omega) i (by omega)
theorem topE_max (L : List En) (i : Nat) (hi : i < L.length) : cmpL (prioL (gE L i).1) (prioL (gE L (topE L)).1) ≤ 0 := by
  have h := topI_max (prios L) (fun p hp => (prios_ok L p hp).1) L.length (by rw [prios_length]; exact Nat.le_refl _) i hi
  have ht := topE_lt (L := L) (by omega)
  rw [gE_lt hi, gE_lt ht]
  rw [prios_at L i hi] at h
  have h2 : gK (prios L) (topI (prios L) L.length) = prioL L[topE L].1 := prios_at L (topE L) ht
  rw [h2] at h
  exact h
/-! the entries of a tree, from the left to the right -/
def Tr.ino : Tr → List En
  | .leaf => []
  | .node x l r => l.ino ++ (x.n, x.v) :: r.ino
theorem trF_ino (f : Nat) : ∀ (L : List En), L.length ≤ f → (trF f L).ino = L := by
  induction f with
  | zero =>
    intro L h
    obtain rfl : L = [] := List.eq_nil_of_length_eq_zero (by omega)
    rw [trF_zero]; rfl
  | succ f ih =>
    intro L h
    by_cases h0 : L.length = 0
    · obtain rfl : L = [] := List.eq_nil_of_length_eq_zero h0
      rw [trF_nil _ _ h0]; rfl
    · have ht := topE_lt (L := L) (by omega)
      rw [trF_cons _ _ h0]
      simp only [Tr.ino]
      rw [ih _ (by rw [List.length_take]; omega), ih _ (by rw [List.length_drop]; omega), gE_lt ht]
      rw [← List.drop_eq_getElem_cons ht, List.take_append_drop]
theorem Tr.all_len (T : Tr) : T.all.length = T.ino.length := by
  induction T with
  | leaf => rfl
  | node x l r il ir => simp only [Tr.all, Tr.ino, List.length_cons, List.length_append, il, ir]; omega
theorem Tr.all_ino (T : Tr) : ∀ x ∈ T.all, (x.n, x.v) ∈ T.ino := by
  induction T with
  | leaf => intro x hx; simp [Tr.all] at hx
  | node y l r il ir =>
    intro x hx
    simp only [Tr.all, List.mem_cons, List.mem_append] at hx
    simp only [Tr.ino, List.mem_append, List.mem_cons]
    rcases hx with rfl | hx | hx
    · exact .inr (.inl rfl)
    · exact .inl (il x hx)
    · exact .inr (.inr (ir x hx))
/-- no node stands above one of a greater priority -/
def Tr.heap : Tr → Prop
  | .leaf => True
  | .node x l r => (∀ e ∈ l.ino ++ r.ino, cmpL (prioL e.1) (prioL x.n) ≤ 0) ∧ l.heap ∧ r.heap
theorem trF_heap (f : Nat) : ∀ (L : List En), L.length ≤ f → (trF f L).heap := by
  induction f with
  | zero => intro L h; rw [trF_zero]; trivial
  | succ f ih =>
    intro L h
    by_cases h0 : L.length = 0
    · rw [trF_nil _ _ h0]; trivial
    · have ht := topE_lt (L := L) (by omega)
      rw [trF_cons _ _ h0]
      refine ⟨fun e he => ?_, ih _ (by rw [List.length_take]; omega), ih _ (by rw [List.length_drop]; omega)⟩
      rw [trF_ino _ _ (by rw [List.length_take]; omega), trF_ino _ _ (by rw [List.length_drop]; omega), List.mem_append] at he
      have hm : e ∈ L := by
        rcases he with he | he
        · exact List.mem_of_mem_take he
        · exact List.mem_of_mem_drop he
      obtain ⟨i, hi, rfl⟩ := List.getElem_of_mem hm
      have := topE_max L i hi
      rwa [gE_lt hi] at this
theorem Tr.heap_top {x : Nd} {l r : Tr} (h : (Tr.node x l r).heap) : ∀ y ∈ (Tr.node x l r).all, cmpL (prioL y.n) (prioL x.n) ≤ 0 := by
  intro y hy
  simp only [Tr.all, List.mem_cons, List.mem_append] at hy
  rcases hy with rfl | hy | hy
  · rw [cmpL_self]; decide
  · exact h.1 _ (List.mem_append.2 (.inl (l.all_ino y hy)))
  · exact h.1 _ (List.mem_append.2 (.inr (r.all_ino y hy)))
/-- priorities fall along a list of nodes -/
def falls : List Nd → Prop
  | x :: y :: r => cmpL (prioL y.n) (prioL x.n) ≤ 0 ∧ falls (y :: r)
  | _ => True
theorem falls_cons {x : Nd} {M : List Nd} (h : falls M) (hx : ∀ y ∈ M, cmpL (prioL y.n) (prioL x.n) ≤ 0) : falls (x :: M) := by
  cases M with
  | nil => trivial
  | cons y r => exact ⟨hx y (by simp), h⟩
theorem falls_at {M : List Nd} (h : falls M) (i : Nat) (hi : i + 1 < M.length) : cmpL (prioL M[i + 1].n) (prioL M[i].n) ≤ 0 := by
  induction M generalizing i with
  | nil => simp at hi
  | cons x r ih =>
    match r, h, i, hi, ih with
    | y :: s, h, 0, hi, _ => exact h.1
    | y :: s, h, i + 1, hi, ih => exact ih h.2 i (by simpa using hi)
theorem way_falls (s : ByteArray) (T : Tr) (h : T.heap) : falls (T.way s) := by
  induction T with
  | leaf => trivial
  | node x l r il ir =>
    rw [Tr.way_node]
    cases h1 : ltB s x.n with
    | true =>
      simp only [ltB_asymm h1, Bool.false_eq_true, if_false, if_true, List.append_nil]
      exact falls_cons (il h.2.1) fun y hy => h.1 _ (List.mem_append.2 (.inl (l.all_ino y (Tr.sel_sub _ _ _ y hy))))
    | false =>
      simp only [Bool.false_eq_true, if_false, List.nil_append]
      cases h2 : ltB x.n s with
      | true =>
        simp only [if_true]
        exact falls_cons (ir h.2.2) fun y hy => h.1 _ (List.mem_append.2 (.inr (r.all_ino y (Tr.sel_sub _ _ _ y hy))))
      | false =>
        simp only [Bool.false_eq_true, if_false]
        trivial
/-- how deep the names of a tree lie -/
theorem way_pos (s : ByteArray) (x : Nd) (l r : Tr) : 1 ≤ ((Tr.node x l r).way s).length := by rw [Tr.way_node, List.length_cons]; omega
theorem way_pos' (s : ByteArray) (T : Tr) (h : T.all ≠ []) : 1 ≤ (T.way s).length := by
  cases T with
  | leaf => exact absurd rfl h
  | node x l r => exact way_pos s x l r
theorem way_top (x : Nd) (l r : Tr) : ((Tr.node x l r).way x.n).length = 1 := by
  rw [Tr.way_node, ltB_irrefl]; rfl
theorem way_low (x : Nd) (l r : Tr) (hp : (Tr.node x l r).ino.Pairwise ltE) (y : Nd) (hy : y ∈ l.all ++ r.all) : 2 ≤ ((Tr.node x l r).way y.n).length := by
  simp only [Tr.ino] at hp
  rw [List.pairwise_append] at hp
  obtain ⟨_, hr, hlr⟩ := hp
  rw [List.pairwise_cons] at hr
  rw [Tr.way_node]
  rcases List.mem_append.1 hy with hy | hy
  · have h1 : ltB y.n x.n = true := hlr _ (l.all_ino y hy) (x.n, x.v) (by simp)
    rw [h1, ltB_asymm h1]
    have := way_pos' y.n l (fun e => by rw [e] at hy; cases hy)
    simp only [if_true, Bool.false_eq_true, if_false, List.append_nil, List.length_cons]
    omega
  · have h1 : ltB x.n y.n = true := hr.1 _ (r.all_ino y hy)
    rw [h1, ltB_asymm h1]
    have := way_pos' y.n r (fun e => by rw [e] at hy; cases hy)
    simp only [if_true, Bool.false_eq_true, if_false, List.nil_append, List.length_cons]
    omega
/-- what is asked of the tree of a map -/
theorem tree_facts {L : List En} (h : okE L = true) (hok : ∀ e ∈ L, tEnt.ok e) : ∃ T, trF L.length L = T ∧ T.all.length = L.length ∧ (∀ x ∈ T.all, x.ok ∧ entB x.n x.v = true ∧ nameB x.n = true ∧ hasE L x.n = true) ∧ T.ino = L ∧ T.heap := by
  have hi := trF_ino L.length L (Nat.le_refl _)
  have hh := trF_heap L.length L (Nat.le_refl _)
  have ho := (trF L.length L).all_ok (trF_ok _ _ (good_of h hok))
  refine ⟨_, rfl, by rw [Tr.all_len, hi], fun x hx => ?_, hi, hh⟩
  have h1 := ho x hx
  have h2 := (trF L.length L).all_ino x hx
  rw [hi] at h2
  obtain ⟨i, hil, he⟩ := List.getElem_of_mem h2
  have hp := posE_hit (okE_incs h).1 i hil (s := x.n) (by rw [gE_lt hil, he])
  refine ⟨h1.1, h1.2, ?_, ?_⟩
  · have h3 := h1.2
    rw [entB_eq, Bool.and_eq_true] at h3
    exact h3.1
  · rw [hasE_eq, hp, decide_eq_true]
    exact ⟨hil, by rw [gE_lt hil, he]⟩
theorem depth_facts {L : List En} (h : okE L = true) (hok : ∀ e ∈ L, tEnt.ok e) {x : Nd} {l r : Tr} (hT : trF L.length L = .node x l r) (i : Nat) (hi : i < (Tr.node x l r).all.length) :
    ∃ d : Int, depR L (Tr.node x l r).all[i].n = (d, 0) ∧ 1 ≤ d ∧ d ≤ L.length ∧ decide (d = 1) = decide (i = 0) := by
  obtain ⟨T, hT2, hl, hall, hino, hheap⟩ := tree_facts h hok
  rw [hT] at hT2
  subst hT2
  have hx := hall _ (List.getElem_mem hi)
  refine ⟨(((Tr.node x l r).way (Tr.node x l r).all[i].n).length : Nat), ?_, ?_, ?_, ?_⟩
  · rw [depR, h, hx.2.2.1, hx.2.2.2, hT]; rfl
  · have := way_pos (Tr.node x l r).all[i].n x l r
    omega
  · have h1 : ((Tr.node x l r).way (Tr.node x l r).all[i].n).length ≤ (Tr.node x l r).all.length := Tr.sel_le _ _ _
    omega
  · cases i with
    | zero =>
      have h2 : (Tr.node x l r).all[0] = x := rfl
      rw [h2, way_top]; rfl
    | succ i =>
      have h2 : (Tr.node x l r).all[i + 1] ∈ l.all ++ r.all := by
        have h3 : (Tr.node x l r).all[i + 1] = (l.all ++ r.all)[i]'(by simpa [Tr.all] using hi) := rfl
        rw [h3]; exact List.getElem_mem _
      have h4 := way_low x l r (by rw [hino]; exact (incs_pair.1 (okE_incs h).1).2) _ h2
      rw [decide_eq_false (by omega), decide_eq_false (by omega)]
theorem Tr.key_nil {T : Tr} (h : T.all.length = 0) : T.key = emptyL := by
  cases T with
  | leaf => rfl
  | node x l r => simp [Tr.all] at h
theorem Tr.node_of {T : Tr} (h : 0 < T.all.length) : ∃ x l r, T = .node x l r := by
  cases T with
  | leaf => simp [Tr.all] at h
  | node x l r => exact ⟨x, l, r, rfl⟩
theorem prio_size {s : ByteArray} (h : prioR s = (prioL s, 0)) : s.size ≤ 24 := by
  unfold prioR at h
  cases hn : nameB s with
  | false => rw [hn] at h; injection h with h1 h2; cases h2
  | true => rw [nameB_eq] at hn; simp at hn; omega
/-- the i-th node: how deep it lies, and its priority -/
theorem node_facts {L : List En} (h : okE L = true) (hok : ∀ e ∈ L, tEnt.ok e) {T : Tr} (hT : trF L.length L = T) {x : Nd} {l r : Tr} (hx : T = .node x l r) {NL : List Nd} (hN : T.all = NL) (i : Nat) (hi : i < NL.length) :
    NL[i].ok ∧ entB NL[i].n NL[i].v = true ∧ prioR NL[i].n = (prioL NL[i].n, 0) ∧ nodeKR NL[i] = (hashL 5 (nodeL NL[i]), 0) ∧ cmpL (prioL NL[i].n) (prioL x.n) ≤ 0 ∧ ∃ d : Int, depR L NL[i].n = (d, 0) ∧ 1 ≤ d ∧ d ≤ L.length ∧ decide (d = 1) = decide (i = 0) := by
  subst hN
  obtain ⟨T', hT', hl, hall, hino, hheap⟩ := tree_facts h hok
  rw [hT] at hT'
  subst hT'
  have h1 := hall _ (List.getElem_mem hi)
  have hd := depth_facts h hok (hT.trans hx) i (by rw [← hx]; exact hi)
  subst hx
  refine ⟨h1.1, h1.2.1, by rw [prioR, h1.2.2.1]; rfl, by rw [nodeKR, h1.2.1]; rfl, Tr.heap_top hheap _ (List.getElem_mem hi), hd⟩
theorem way_facts {L : List En} (h : okE L = true) (hok : ∀ e ∈ L, tEnt.ok e) {T : Tr} (hT : trF L.length L = T) (hne : 0 < T.all.length) {s : ByteArray} (hs : nameB s = true) {PL : List Nd} (hP : T.way s = PL) :
    provR L s = (PL, 0) ∧ 1 ≤ PL.length ∧ PL.length ≤ L.length ∧ ∀ i (hi : i + 1 < PL.length), PL[i].ok ∧ PL[i + 1].ok ∧ prioR PL[i].n = (prioL PL[i].n, 0) ∧ prioR PL[i + 1].n = (prioL PL[i + 1].n, 0) ∧ ¬ cmpL (prioL PL[i].n) (prioL PL[i + 1].n) < 0 := by
  subst hP
  obtain ⟨T', hT', hl, hall, hino, hheap⟩ := tree_facts h hok
  rw [hT] at hT'
  subst hT'
  have hsub : ∀ y ∈ T.way s, y ∈ T.all := fun y hy => Tr.sel_sub _ _ _ y hy
  refine ⟨?_, ?_, ?_, fun i hi => ?_⟩
  · rw [provR, h, hs, hT]; rfl
  · exact way_pos' s T (fun e => by rw [e] at hne; exact absurd hne (by decide))
  · rw [← hl]; exact Tr.sel_le _ _ _
  · have h1 := hall _ (hsub _ (List.getElem_mem (Nat.lt_of_succ_lt hi)))
    have h2 := hall _ (hsub _ (List.getElem_mem hi))
    have h3 := falls_at (way_falls s T hheap) i hi
    have h4 := cmpL_neg (prioL (T.way s)[i].n) (prioL (T.way s)[i + 1].n)
    exact ⟨h1.1, h2.1, by rw [prioR, h1.2.2.1]; rfl, by rw [prioR, h2.2.2.1]; rfl, by omega⟩
end Go.Proofs.Ytmndkbheehcoaaa
/- Two variables of a struct's type, made and filled at once. No condition. -/
namespace Go.Proofs.Ytmndkbheehcoaaa
open Go.RowKit Go.BigFrame
set_option linter.unusedVariables false
set_option linter.unusedSimpArgs false

theorem setRow_alloc2 (w : World) (cs cs' : Array Value) (t : TypeId) (o : Obj) : ((w.alloc (.cells cs t)).alloc o).setRow w.heap.size cs' = (w.alloc (.cells cs' t)).alloc o := by
  unfold World.setRow World.alloc
  congr 1
  apply Array.ext
  · simp
  · intro i h1 h2
    simp only [Array.getElem_modify, Array.getElem_push, Array.size_push]
    by_cases h : i < w.heap.size
    · have hne : w.heap.size ≠ i := by omega
      simp [h, hne, Nat.lt_succ_of_lt h]
    · by_cases h3 : w.heap.size = i
      · subst h3
        simp
      · simp [h3, h]
        split
        · omega
        · rfl
theorem wpl_two {P : Program} {ops : Array Oper} {rest : List Oper} {o1 o2 o3 o4 : Oper} {a : Act} {w : World} {Q : Exit → Act → World → Prop} {t n : Nat} {Z cs1 cs2 : Array Value} (ht : Agg P t n) (hs1 : St n cs1) (hs2 : St n cs2) (hz : (P.info? t).map (·.zero) = some (some (.agg Z))) (hZ : Z.size = n)
    (g1 : o1.guard = none) (p1 : o1.op = .alloc t) (g2 : o2.guard = none) (p2 : o2.op = .alloc t) (g3 : o3.guard = none) (x3 y3 : Operand) (p3 : o3.op = .store t x3 y3) (d3 : o3.dst = none) (g4 : o4.guard = none) (x4 y4 : Operand) (p4 : o4.op = .store t x4 y4) (d4 : o4.dst = none)
    (e3 : ((a.put o1.dst (.pointer (some ⟨w.heap.size, 0, none⟩))).put o2.dst (.pointer (some ⟨w.heap.size + 1, 0, none⟩))).eval x3 = .pointer (some ⟨w.heap.size, 0, none⟩))
    (f3 : ((a.put o1.dst (.pointer (some ⟨w.heap.size, 0, none⟩))).put o2.dst (.pointer (some ⟨w.heap.size + 1, 0, none⟩))).eval y3 = .agg cs1)
    (e4 : ((a.put o1.dst (.pointer (some ⟨w.heap.size, 0, none⟩))).put o2.dst (.pointer (some ⟨w.heap.size + 1, 0, none⟩))).eval x4 = .pointer (some ⟨w.heap.size + 1, 0, none⟩))
    (f4 : ((a.put o1.dst (.pointer (some ⟨w.heap.size, 0, none⟩))).put o2.dst (.pointer (some ⟨w.heap.size + 1, 0, none⟩))).eval y4 = .agg cs2)
    (h : wpList P ops Q rest ((a.put o1.dst (.pointer (some ⟨w.heap.size, 0, none⟩))).put o2.dst (.pointer (some ⟨w.heap.size + 1, 0, none⟩))) ((w.alloc (.cells cs1 t)).alloc (.cells cs2 t))) :
    wpList P ops Q (o1 :: o2 :: o3 :: o4 :: rest) a w := by
  have hsz : (w.alloc (.cells Z t)).heap.size = w.heap.size + 1 := by simp
  have hsz1 : (w.alloc (.cells cs1 t)).heap.size = w.heap.size + 1 := by simp
  refine wpl_alloc Z hz g1 p1 ?_
  refine wpl_alloc Z hz g2 p2 ?_
  rw [hsz]
  refine wpl_storeB ((Blk.new w t Z).alloc _) ht hs1 hZ g3 x3 y3 p3 e3 f3 d3 ?_
  rw [setRow_alloc2]
  refine wpl_storeB (g := w.heap.size + 1) (e := t) (cur := Z) (by have := Blk.new (w.alloc (.cells cs1 t)) t Z; rwa [hsz1] at this) ht hs2 hZ g4 x4 y4 p4 e4 f4 d4 ?_
  have := setRow_alloc (w.alloc (.cells cs1 t)) Z cs2 t
  rw [hsz1] at this
  rw [this]
  exact h
/-- the same load where a guard lets it by -/
theorem wpl_loadBW {P : Program} {ops : Array Oper} {rest : List Oper} {o : Oper} {a : Act} {w : World} {Q : Exit → Act → World → Prop} {t g e n : Nat} {cs : Array Value} (hb : Blk w g e cs) (ht : Agg P t n) (hn : cs.size = n) (hw : Region.wanted o (yielded ops a.tmps) = true) (x : Operand) (ho : o.op = .load t x) (hx : a.eval x = .pointer (some ⟨g, 0, none⟩))
    (h : wpList P ops Q rest (a.put o.dst (.agg cs)) w) : wpList P ops Q (o :: rest) a w := by
  refine wpList_want hw fun K hK => ?_
  unfold Oper.wp execOp
  simp only [ho, hx, Instr.loadAt, Instr.sureAddr, Sem.run_bind, Sem.run_pure, Result.andThen_ok, run_loadB hb ht hn]
  exact hK _ _ h
end Go.Proofs.Ytmndkbheehcoaaa
/- The nodes that two maps share: what is counted. No condition. -/
namespace Go.Proofs.Ytmndkbheehcoaaa
open Go.RowKit
set_option linter.unusedVariables false
set_option linter.unusedSimpArgs false

/-- the key of a node -/
def kN (x : Nd) : List Int := hashL 5 (nodeL x)
def kNs (M : List Nd) : List (List Int) := M.map kN
/-- how many nodes have a key of the list -/
def cntK (ks : List (List Int)) (M : List Nd) : Nat := M.countP fun y => ks.contains (kN y)
theorem kN_ok (x : Nd) : K32 (kN x) := hashL_ok 5 (nodeL x)
theorem kNs_len (M : List Nd) : (kNs M).length = M.length := List.length_map ..
theorem kNs_zero : kNs [] = [] := rfl
theorem kNs_snoc (M : List Nd) (x : Nd) : kNs (M ++ [x]) = kNs M ++ [kN x] := by rw [kNs, List.map_append]; rfl
theorem cntK_zero (ks : List (List Int)) : cntK ks [] = 0 := rfl
theorem cntK_snoc (ks : List (List Int)) (M : List Nd) (x : Nd) : cntK ks (M ++ [x]) = if ks.contains (kN x) then cntK ks M + 1 else cntK ks M := by
  rw [cntK, List.countP_append, List.countP_singleton]
  split <;> rfl
theorem cntK_le (ks : List (List Int)) (M : List Nd) : cntK ks M ≤ M.length := List.countP_le_length
attribute [irreducible] kN kNs cntK
/-- the answer -/
def sharR (a b : List En) : Int × Int := if okE a && okE b then ((cntK (kNs (trF a.length a).all) (trF b.length b).all : Nat), 0) else (0, 1)
end Go.Proofs.Ytmndkbheehcoaaa
/- The changes between two maps lead from the one to the other, and back when they are turned: plainly. No condition. -/
namespace Go.Proofs.Ytmndkbheehcoaaa
open Go.RowKit
set_option linter.unusedVariables false
set_option linter.unusedSimpArgs false

/-- a change turned -/
def turnC (c : Chg) : Chg := ⟨c.n, c.hn, c.nw, c.ho, c.o⟩
theorem turn_chgN (f : Nat) : ∀ a b : List En, (chgN f a b).map turnC = chgN f b a := by
  induction f with
  | zero => intro a b; rfl
  | succ f ih =>
    intro a b
    match a, b with
    | [], [] => rfl
    | x :: a, [] => rw [chgN, chgN, List.map_cons, ih]; rfl
    | [], y :: b => rw [chgN, chgN, List.map_cons, ih]; rfl
    | x :: a, y :: b =>
      rw [chgN, chgN]
      by_cases h1 : ltB x.1 y.1 = true
      · have h2 := ltB_asymm h1
        rw [if_pos h1, if_neg (by rw [h2]; decide), if_pos h1, List.map_cons, ih]; rfl
      · by_cases h2 : ltB y.1 x.1 = true
        · rw [if_neg h1, if_pos h2, if_pos h2, List.map_cons, ih]; rfl
        · rw [if_neg h1, if_neg h2, if_neg h2, if_neg h1]
          have hn := ltB_total (Bool.eq_false_iff.2 h1) (Bool.eq_false_iff.2 h2)
          by_cases h3 : x.2 = y.2
          · rw [if_pos h3, if_pos h3.symm, ih]
          · rw [if_neg h3, if_neg (fun e => h3 e.symm), List.map_cons, ih]
            simp only [turnC, hn]
/-- valid and in order -/
def sortE (L : List En) : Prop := (∀ e ∈ L, entB e.1 e.2 = true) ∧ L.Pairwise ltE
theorem sortE.inc {L : List En} (h : sortE L) : incs L L.length = true := incs_pair.2 h
theorem sortE.sub {L M : List En} (h : sortE L) (hs : M.Sublist L) : sortE M := ⟨fun e he => h.1 e (hs.subset he), h.2.sublist hs⟩
theorem sortE.below {P a : List En} {x : En} (h : sortE (P ++ x :: a)) : ∀ p ∈ P, ltB p.1 x.1 = true := fun p hp => (List.pairwise_append.1 h.2).2.2 p hp x (by simp)
theorem sortE.above {P a : List En} {x : En} (h : sortE (P ++ x :: a)) : ∀ z ∈ a, ltB x.1 z.1 = true := fun z hz => (List.pairwise_cons.1 (List.pairwise_append.1 h.2).2.1).1 z hz
theorem sortE.mk' {P a : List En} {x : En} (h : sortE (P ++ a)) (hx : entB x.1 x.2 = true) (h1 : ∀ p ∈ P, ltB p.1 x.1 = true) (h2 : ∀ z ∈ a, ltB x.1 z.1 = true) : sortE (P ++ x :: a) := by
  obtain ⟨q1, q2, q3⟩ := List.pairwise_append.1 h.2
  refine ⟨fun e he => ?_, List.pairwise_append.2 ⟨q1, List.pairwise_cons.2 ⟨fun z hz => h2 z hz, q2⟩, fun p hp z hz => ?_⟩⟩
  · rcases List.mem_append.1 he with h' | h'
    · exact h.1 e (by simp [h'])
    · rcases List.mem_cons.1 h' with rfl | h'
      · exact hx
      · exact h.1 e (by simp [h'])
  · rcases List.mem_cons.1 hz with rfl | hz
    · exact h1 p hp
    · exact q3 p hp z hz
theorem sortE.skip {P a : List En} {x : En} (h : sortE (P ++ x :: a)) : sortE (P ++ a) := h.sub (List.Sublist.append (List.Sublist.refl _) (List.sublist_cons_self _ _))
theorem gE_mid (P a : List En) (x : En) : gE (P ++ x :: a) P.length = x := by
  rw [gE_lt (by simp)]
  simp
theorem pos_mid {P a : List En} {x : En} (h : sortE (P ++ x :: a)) : posE (P ++ x :: a) x.1 = P.length ∧ hasE (P ++ x :: a) x.1 = true := by
  have h1 : P.length < (P ++ x :: a).length := by simp
  have hp := posE_hit h.inc P.length h1 (s := x.1) (by rw [gE_mid])
  exact ⟨hp, by rw [hasE_eq, hp, decide_eq_true]; exact ⟨h1, by rw [gE_mid]⟩⟩
theorem has_no {L : List En} {s : ByteArray} (hm : ∀ x ∈ L, x.1 ≠ s) : hasE L s = false := by
  rw [hasE_eq, decide_eq_false_iff_not]
  intro q
  rw [gE_lt q.1] at q
  exact hm _ (List.getElem_mem q.1) q.2
theorem pos_new {P a : List En} {y : En} (h : sortE (P ++ y :: a)) : posE (P ++ a) y.1 = P.length ∧ hasE (P ++ a) y.1 = false := by
  refine ⟨posE_eq _ _ P.length (by simp) (fun p hp => ?_) (fun hlt => ?_), has_no fun z hz => ?_⟩
  · rw [gE_lt (by simp; omega), List.getElem_append_left hp]
    exact h.below _ (List.getElem_mem hp)
  · rw [gE_lt hlt, List.getElem_append_right (Nat.le_refl _)]
    exact ltB_asymm (h.above _ (List.getElem_mem _))
  · rcases List.mem_append.1 hz with h' | h'
    · exact ltB_ne (h.below z h')
    · exact fun e => ltB_ne (h.above z h') e.symm
theorem step_del {P a : List En} {x : En} (h : sortE (P ++ x :: a)) : aplS (P ++ x :: a) ⟨x.1, true, x.2, false, ⟨#[]⟩⟩ = (0, P ++ a) := by
  obtain ⟨hp, hh⟩ := pos_mid h
  rw [aplS_del (by simp only [badC, hh, hp, gE_mid]; simp) rfl]
  show (0, (P ++ x :: a).filter (notN x.1)) = _
  rw [List.filter_append, List.filter_cons, if_neg (by rw [notN_eq]; simp), List.filter_eq_self.2 (fun z hz => notN_true (ltB_ne (h.below z hz))), List.filter_eq_self.2 (fun z hz => notN_true (fun e => ltB_ne (h.above z hz) e.symm))]
theorem step_add {P a : List En} {y : En} (h : sortE (P ++ y :: a)) (hl : P.length + a.length < 64) : aplS (P ++ a) ⟨y.1, false, ⟨#[]⟩, true, y.2⟩ = (0, P ++ y :: a) := by
  obtain ⟨hp, hh⟩ := pos_new h
  have he : putEnd (y.1, y.2) (putF (y.1, y.2) (P ++ a)) = P ++ y :: a := by
    rw [putF_eq h.skip.inc]
    show (P ++ a).take (posE (P ++ a) y.1) ++ [y] ++ (P ++ a).drop (if hasE (P ++ a) y.1 then posE (P ++ a) y.1 + 1 else posE (P ++ a) y.1) = _
    rw [hh, hp, if_neg (by decide), List.take_left, List.drop_left]
    simp
  have h1 : badC (P ++ a) ⟨y.1, false, ⟨#[]⟩, true, y.2⟩ = false := by simp only [badC, hh]; rfl
  rw [aplS_put h1 rfl (by show ¬ 64 < (putEnd (y.1, y.2) (putF (y.1, y.2) (P ++ a))).length; rw [he]; simp; omega)]
  show (0, putEnd (y.1, y.2) (putF (y.1, y.2) (P ++ a))) = _
  rw [he]
theorem step_chg {P a : List En} {x : En} {v : ByteArray} (h : sortE (P ++ x :: a)) (hl : P.length + a.length < 64) : aplS (P ++ x :: a) ⟨x.1, true, x.2, true, v⟩ = (0, P ++ (x.1, v) :: a) := by
  obtain ⟨hp, hh⟩ := pos_mid h
  have he : putEnd (x.1, v) (putF (x.1, v) (P ++ x :: a)) = P ++ (x.1, v) :: a := by
    rw [putF_eq h.inc]
    show (P ++ x :: a).take (posE (P ++ x :: a) x.1) ++ [(x.1, v)] ++ (P ++ x :: a).drop (if hasE (P ++ x :: a) x.1 then posE (P ++ x :: a) x.1 + 1 else posE (P ++ x :: a) x.1) = _
    rw [hh, hp, if_pos rfl, List.take_left, List.drop_append, List.drop_eq_nil_of_le (by omega)]
    simp
  have h1 : badC (P ++ x :: a) ⟨x.1, true, x.2, true, v⟩ = false := by simp only [badC, hh, hp, gE_mid]; simp
  rw [aplS_put h1 rfl (by show ¬ 64 < (putEnd (x.1, v) (putF (x.1, v) (P ++ x :: a))).length; rw [he]; simp; omega)]
  show (0, putEnd (x.1, v) (putF (x.1, v) (P ++ x :: a))) = _
  rw [he]
theorem aplF_one {out out' : List En} {c : Chg} {r : List Chg} (h : aplS out c = (0, out')) : aplF out (c :: r) = aplF out' r := by rw [aplF_cons, h]; rfl
theorem mid_snoc (P a : List En) (x : En) : P ++ x :: a = (P ++ [x]) ++ a := by simp
theorem aplF_chg (f : Nat) : ∀ (P a b : List En), a.length + b.length ≤ f → sortE (P ++ a) → sortE (P ++ b) → P.length + a.length + b.length ≤ 64 → aplF (P ++ a) (chgN f a b) = (P ++ b, 0) := by
  induction f with
  | zero =>
    intro P a b h _ _ _
    obtain rfl : a = [] := List.eq_nil_of_length_eq_zero (by omega)
    obtain rfl : b = [] := List.eq_nil_of_length_eq_zero (by simp at h; simpa using h)
    exact aplF_nil _
  | succ f ih =>
    intro P a b h ha hb hl
    match a, b with
    | [], [] => exact aplF_nil _
    | x :: a, [] =>
      simp only [List.length_cons, List.length_nil] at h hl
      rw [chgN, aplF_one (step_del ha)]
      exact ih P a [] (by simp; omega) ha.skip hb (by simp; omega)
    | [], y :: b =>
      simp only [List.length_cons, List.length_nil] at h hl
      have h1 : sortE (P ++ [y]) := hb.sub (List.Sublist.append (List.Sublist.refl _) (by simp))
      rw [chgN, aplF_one (step_add (a := []) h1 (by simp; omega)), mid_snoc P [], mid_snoc P b]
      exact ih (P ++ [y]) [] b (by simp; omega) (by simpa using h1) (by rw [← mid_snoc]; exact hb) (by simp; omega)
    | x :: a, y :: b =>
      simp only [List.length_cons] at h hl
      rw [chgN]
      by_cases h1 : ltB x.1 y.1 = true
      · rw [if_pos h1, aplF_one (step_del ha)]
        exact ih P a (y :: b) (by simp; omega) ha.skip hb (by simp; omega)
      · by_cases h2 : ltB y.1 x.1 = true
        · have h3 : sortE (P ++ y :: x :: a) := ha.mk' (hb.1 y (by simp)) hb.below (fun z hz => by
            rcases List.mem_cons.1 hz with rfl | hz
            · exact h2
            · exact ltB_trans h2 (ha.above z hz))
          rw [if_neg h1, if_pos h2, aplF_one (step_add (a := x :: a) h3 (by simp; omega)), mid_snoc P (x :: a), mid_snoc P b]
          exact ih (P ++ [y]) (x :: a) b (by simp; omega) (by rw [← mid_snoc]; exact h3) (by rw [← mid_snoc]; exact hb) (by simp; omega)
        · rw [if_neg h1, if_neg h2]
          have hn := ltB_total (Bool.eq_false_iff.2 h1) (Bool.eq_false_iff.2 h2)
          have h3 : sortE (P ++ y :: a) := ha.skip.mk' (hb.1 y (by simp)) hb.below (fun z hz => by rw [← hn]; exact ha.above z hz)
          by_cases h4 : x.2 = y.2
          · obtain rfl : x = y := Prod.ext hn h4
            rw [if_pos rfl, mid_snoc P a, mid_snoc P b]
            exact ih (P ++ [x]) a b (by omega) (by rw [← mid_snoc]; exact ha) (by rw [← mid_snoc]; exact hb) (by simp; omega)
          · rw [if_neg h4, aplF_one (step_chg ha (by omega)), show (x.1, y.2) = y from Prod.ext hn rfl, mid_snoc P a, mid_snoc P b]
            exact ih (P ++ [y]) a b (by omega) (by rw [← mid_snoc]; exact h3) (by rw [← mid_snoc]; exact hb) (by simp; omega)
theorem bad_first (f : Nat) : ∀ (Q a b : List En), sortE (Q ++ a) → sortE (Q ++ b) → ∀ c r, chgN f a b = c :: r → badC (Q ++ b) c = true := by
  induction f with
  | zero => intro Q a b _ _ c r h; rw [chgN] at h; cases h
  | succ f ih =>
    intro Q a b ha hb c r h
    match a, b with
    | [], [] => rw [chgN] at h; cases h
    | x :: a, [] =>
      rw [chgN] at h
      injection h with h _
      subst h
      simp only [badC, has_no (L := Q ++ []) (s := x.1) (fun z hz => by
        rw [List.append_nil] at hz
        exact ltB_ne (ha.below z hz))]
      rfl
    | [], y :: b =>
      rw [chgN] at h
      injection h with h _
      subst h
      simp only [badC, (pos_mid hb).2]
      rfl
    | x :: a, y :: b =>
      rw [chgN] at h
      by_cases h1 : ltB x.1 y.1 = true
      · rw [if_pos h1] at h
        injection h with h _
        subst h
        simp only [badC, has_no (L := Q ++ y :: b) (s := x.1) (fun z hz => by
          rcases List.mem_append.1 hz with h' | h'
          · exact ltB_ne (ha.below z h')
          · rcases List.mem_cons.1 h' with rfl | h'
            · exact fun e => ltB_ne h1 e.symm
            · exact fun e => ltB_ne (ltB_trans h1 (hb.above z h')) e.symm)]
        rfl
      · by_cases h2 : ltB y.1 x.1 = true
        · rw [if_neg h1, if_pos h2] at h
          injection h with h _
          subst h
          simp only [badC, (pos_mid hb).2]
          rfl
        · rw [if_neg h1, if_neg h2] at h
          have hn := ltB_total (Bool.eq_false_iff.2 h1) (Bool.eq_false_iff.2 h2)
          by_cases h3 : x.2 = y.2
          · rw [if_pos h3] at h
            obtain rfl : x = y := Prod.ext hn h3
            rw [mid_snoc]
            exact ih (Q ++ [x]) a b (by rw [← mid_snoc]; exact ha) (by rw [← mid_snoc]; exact hb) c r h
          · rw [if_neg h3] at h
            injection h with h _
            subst h
            simp only [badC, hn, (pos_mid hb).2, (pos_mid hb).1, gE_mid]
            have : (y.2.toList != x.2.toList) = true := by
              rw [bne_iff_ne]
              exact fun e => h3 (toList_inj e).symm
            rw [this]; rfl
theorem chgB_all (f : Nat) : ∀ (a b : List En), (∀ e ∈ a, entB e.1 e.2 = true) → (∀ e ∈ b, entB e.1 e.2 = true) → ∀ c ∈ chgN f a b, chgB c = true := by
  have hE : ∀ {e : En}, entB e.1 e.2 = true → nameB e.1 = true ∧ e.2.size ≤ 64 := fun h => by
    rw [entB_eq, Bool.and_eq_true, decide_eq_true_eq] at h; exact h
  induction f with
  | zero => intro a b _ _ c h; rw [chgN] at h; cases h
  | succ f ih =>
    intro a b ha hb c h
    match a, b with
    | [], [] => rw [chgN] at h; cases h
    | x :: a, [] =>
      rw [chgN] at h
      rcases List.mem_cons.1 h with rfl | h
      · obtain ⟨h1, h2⟩ := hE (ha x (by simp))
        simp [chgB, valB, h1, h2]; decide
      · exact ih a [] (fun e he => ha e (by simp [he])) hb c h
    | [], y :: b =>
      rw [chgN] at h
      rcases List.mem_cons.1 h with rfl | h
      · obtain ⟨h1, h2⟩ := hE (hb y (by simp))
        simp [chgB, valB, h1, h2]; decide
      · exact ih [] b ha (fun e he => hb e (by simp [he])) c h
    | x :: a, y :: b =>
      obtain ⟨h1, h2⟩ := hE (ha x (by simp))
      obtain ⟨k1, k2⟩ := hE (hb y (by simp))
      rw [chgN] at h
      split at h
      · rcases List.mem_cons.1 h with rfl | h
        · simp [chgB, valB, h1, h2]; decide
        · exact ih a (y :: b) (fun e he => ha e (by simp [he])) hb c h
      · split at h
        · rcases List.mem_cons.1 h with rfl | h
          · simp [chgB, valB, k1, k2]; decide
          · exact ih (x :: a) b ha (fun e he => hb e (by simp [he])) c h
        · split at h
          · exact ih a b (fun e he => ha e (by simp [he])) (fun e he => hb e (by simp [he])) c h
          · rename_i hne
            rcases List.mem_cons.1 h with rfl | h
            · have : (x.2.toList == y.2.toList) = false := by
                rw [beq_eq_false_iff_ne]
                exact fun e => hne (toList_inj e)
              simp [chgB, valB, h1, h2, k2, this]
            · exact ih a b (fun e he => ha e (by simp [he])) (fun e he => hb e (by simp [he])) c h
theorem chgN_self (f : Nat) : ∀ a : List En, chgN f a a = [] := by
  induction f with
  | zero => intro a; rfl
  | succ f ih =>
    intro a
    match a with
    | [] => rfl
    | x :: a => rw [chgN, if_neg (by rw [ltB_irrefl]; decide), if_neg (by rw [ltB_irrefl]; decide), if_pos rfl, ih]
theorem okE_sort {L : List En} (h : okE L = true) : sortE L := incs_pair.1 (okE_incs' h).1
/-- what is asked of the changes between two maps -/
theorem chg_facts {a b : List En} (ha : okE a = true) (hb : okE b = true) (hl : a.length + b.length ≤ 64) : ∃ D, chgsR a b = (D, 0) ∧ D.length ≤ 128 ∧ (D.length = 0 ↔ a = b) ∧ aplR a D = (b, 0) ∧ aplR b (D.map turnC) = (a, 0) ∧ (D.length ≠ 0 → aplR b D = ([], 4)) := by
  have sa := okE_sort ha
  have sb := okE_sort hb
  have hr : chgsR a b = (chgN (a.length + b.length) a b, 0) := by rw [chgsR, ha, hb, chgI_eq]; rfl
  have hlen := chgsR_len a b
  rw [hr] at hlen
  have h1 := aplF_chg (a.length + b.length) [] a b (Nat.le_refl _) sa sb (by simp; omega)
  have h2 := aplF_chg (a.length + b.length) [] b a (by omega) sb sa (by simp; omega)
  rw [List.nil_append, List.nil_append] at h1 h2
  have hc1 : okCs (chgN (a.length + b.length) a b) = true := okCs_good fun p hp => chgB_all _ _ _ sa.1 sb.1 _ (List.getElem_mem hp)
  have hc2 : okCs (chgN (a.length + b.length) b a) = true := okCs_good fun p hp => chgB_all _ _ _ sb.1 sa.1 _ (List.getElem_mem hp)
  refine ⟨_, hr, hlen, ⟨fun h0 => ?_, fun e => ?_⟩, ?_, ?_, fun h0 => ?_⟩
  · rw [List.eq_nil_of_length_eq_zero h0, aplF_nil] at h1
    exact congrArg Prod.fst h1
  · subst e; rw [chgN_self]; rfl
  · rw [aplR, ha, hc1]; exact h1
  · rw [turn_chgN, aplR, hb, hc2]; exact h2
  · cases hD : chgN (a.length + b.length) a b with
    | nil => rw [hD] at h0; exact absurd rfl h0
    | cons c r =>
      rw [hD] at hc1
      have h3 : badC b c = true := bad_first (a.length + b.length) [] a b sa sb c r hD
      rw [aplR, hb, hc1]
      show aplF b (c :: r) = _
      rw [aplF_cons, aplS_bad h3]
      rfl
/-- a map shares all nodes with itself -/
theorem shar_self {a : List En} (ha : okE a = true) (hok : ∀ e ∈ a, tEnt.ok e) : sharR a a = ((a.length : Int), 0) := by
  obtain ⟨T, hT, hl, _⟩ := tree_facts ha hok
  rw [sharR, ha, hT]
  simp only [Bool.and_self, if_true]
  have : cntK (kNs T.all) T.all = T.all.length := by
    unfold cntK kNs
    rw [List.countP_eq_length]
    intro x hx
    exact List.contains_iff_mem.2 (List.mem_map_of_mem hx)
  rw [this, hl]
end Go.Proofs.Ytmndkbheehcoaaa
/- Is a key among keys? The model. No condition. -/
namespace Go.Proofs.Ytmndkbheehcoaaa
open Go.RowKit
set_option linter.unusedVariables false
set_option linter.unusedSimpArgs false
set_option maxHeartbeats 1000000 in
set_option maxRecDepth 100000 in
theorem l01Has_any (v : Value) (ks : List (List Int)) (key : List Int) (hk : K32 key) (w : World) (S : Nat → Prop) (h : RdL tKey w S v ks) :
    Calls Try.prog 99 #[v, .agg (numsA .u8 key)] w fun e w' => e = .returned (.bool (ks.contains key)) ∧ Ext w w' := by
  obtain ⟨A, cap, rfl, hcap, hlen, hrd, hok⟩ := h
  have Hrd := Lib.hid hrd
  have Hok := Lib.hid hok
  have HK := Lib.hid (show tKey.ok key from hk)
  obtain ⟨R, hR⟩ : ∃ R, ks.contains key = R := ⟨_, rfl⟩
  rw [hR]
  have HR := Lib.hid hR
  have hkl := hk.1
  clear hrd hok hR hk
  go_enter Try.func99, Try.ntmps99
  go_wp2
  go_loopw [5] (fun i wr => ∃ k : Nat, k ≤ ks.length ∧ i = .int .i64 k ∧ key ∉ ks.take k ∧ Blk wr w.heap.size 27 (numsA .u8 key) ∧ Ext w wr) (fun i _ => ks.length - (intOf i).toNat)
  case atStart => exact ⟨0, by omega, rfl, by simp, Blk.new w _ _, ext_alloc _ _⟩
  case round =>
    obtain ⟨k, hk, rfl, ht, hb, hx⟩ := hrel
    have HX := Lib.hid hx
    have HT := Lib.hid ht
    have HB := Lib.hid hb
    clear hx ht hb
    by_cases hlt : k < ks.length
    · obtain ⟨g, o, rfl, hs, hc⟩ := Hrd.out.elem Hok.out k hlt
      have ht1 := List.take_succ_eq_append_getElem hlt
      have hx0 : tKey.ok ks[k] := Hok.out _ (List.getElem_mem hlt)
      have hD : ∀ W, Ext wr W → ∀ j u, (tKey.enc ks[k])[j]? = some u → W.cell? ⟨g, o + k * 32 + j, none⟩ = some u := fun W hW j u hu => hW.cell (HX.out.cell (hc j u hu))
      have hM : ks[k] ∈ ks := List.getElem_mem hlt
      clear hc
      generalize ks[k] = x at ht1 hx0 hD hM
      have HD := Lib.hid hD
      have HBD := Lib.hid (show ∀ W, Ext wr W → ∀ j u, (tKey.enc key)[j]? = some u → W.cell? ⟨w.heap.size, 0 + j, none⟩ = some u from fun W hW j u hu => by rw [Nat.zero_add]; exact (HB.out.ext hW).at_ j (by rw [numsA, List.getElem?_toArray]; exact hu))
      have HX0 := Lib.hid hx0
      have HT1 := Lib.hid ht1
      have HM := Lib.hid hM
      have hi : (0 : Int) ≤ (k : Int) := by omega
      have hi2 : (k : Int) < (ks.length : Int) := by omega
      have hq := run_eqKey x key HX0.out HK.out
      clear hD hx0 ht1 hM
      by_cases hxy : x = key
      · rw [decide_eq_true hxy] at hq
        have HXY := Lib.hid hxy
        clear hxy
        go_wp2_with fail
        refine wp_region_held_drew (S := fun W => Ext wr W) (by kernel_rfl) (Ext.refl _).drew (fun hHeld => ?_)
        refine wpAnyH_take (i := 0) (oi := ?oiz1) (v := ?vz1) ?hiz1 (by kernel_rfl) (by kernel_rfl) (by kernel_rfl) ?hQz1 ?hyz1 (by assumption) ?restz1
        case hiz1 => simp only [List.getElem?_toArray, List.getElem?_cons_zero, List.getElem?_cons_succ]; rfl
        case hQz1 => exact fun _ _ _ h => h
        case hyz1 => exact Or.inl ⟨by rfl, by intro w hSw; (try dsimp only at hSw); go_simp; with_reducible rfl⟩
        try simp only [Act.put, List.setIfInBounds_toArray, List.set_cons_zero, List.set_cons_succ]
        refine wpAnyH_take (i := 1) (oi := ?oiz2) (v := ?vz2) ?hiz2 (by kernel_rfl) (by kernel_rfl) (by kernel_rfl) ?hQz2 ?hyz2 (by assumption) ?restz2
        case hiz2 => simp only [List.getElem?_toArray, List.getElem?_cons_zero, List.getElem?_cons_succ]; rfl
        case hQz2 => exact fun _ _ _ h => h
        case hyz2 => exact Or.inl ⟨by rfl, by intro w hSw; (try dsimp only at hSw); go_simp; with_reducible rfl⟩
        try simp only [Act.put, List.setIfInBounds_toArray, List.set_cons_zero, List.set_cons_succ]
        refine wpAnyH_take (i := 2) (oi := ?oiz3) (v := ?vz3) ?hiz3 (by kernel_rfl) (by kernel_rfl) (by kernel_rfl) ?hQz3 ?hyz3 (by assumption) ?restz3
        case hiz3 => simp only [List.getElem?_toArray, List.getElem?_cons_zero, List.getElem?_cons_succ]; rfl
        case hQz3 => exact fun _ _ _ h => h
        case hyz3 => exact Or.inl ⟨by rfl, by intro w hSw; (try dsimp only at hSw); go_simp; with_reducible rfl⟩
        try simp only [Act.put, List.setIfInBounds_toArray, List.set_cons_zero, List.set_cons_succ]
        refine wpAnyH_take (i := 3) (oi := ?oiz4) (v := (.agg (numsA .u8 x))) ?hiz4 (by kernel_rfl) (by kernel_rfl) (by kernel_rfl) ?hQz4 ?hyz4 (by assumption) ?restz4
        case hiz4 => simp only [List.getElem?_toArray, List.getElem?_cons_zero, List.getElem?_cons_succ]; rfl
        case hQz4 => exact fun _ _ _ h => h
        case hyz4 => refine yields_loadS g (o + k * 32) (tKey.enc x) (by rw [tKey.len _ HX0.out]; exact aggKey) (fun W hW => HD.out W hW) ?_ _ rfl rfl; rfl
        try simp only [Act.put, List.setIfInBounds_toArray, List.set_cons_zero, List.set_cons_succ]
        refine wpAnyH_take (i := 4) (oi := ?oiz5) (v := (.agg (numsA .u8 key))) ?hiz5 (by kernel_rfl) (by kernel_rfl) (by kernel_rfl) ?hQz5 ?hyz5 (by assumption) ?restz5
        case hiz5 => simp only [List.getElem?_toArray, List.getElem?_cons_zero, List.getElem?_cons_succ]; rfl
        case hQz5 => exact fun _ _ _ h => h
        case hyz5 => refine yields_loadS w.heap.size 0 (tKey.enc key) (by rw [tKey.len _ HK.out]; exact aggKey) (fun W hW => HBD.out W hW) ?_ _ rfl rfl; rfl
        try simp only [Act.put, List.setIfInBounds_toArray, List.set_cons_zero, List.set_cons_succ]
        refine wpAnyH_take (i := 5) (oi := ?oiz6) (v := ?vz6) ?hiz6 (by kernel_rfl) (by kernel_rfl) (by kernel_rfl) ?hQz6 ?hyz6 (by assumption) ?restz6
        case hiz6 => simp only [List.getElem?_toArray, List.getElem?_cons_zero, List.getElem?_cons_succ]; rfl
        case hQz6 => exact fun _ _ _ h => h
        case hyz6 => exact Or.inl ⟨by rfl, by intro w hSw; (try dsimp only at hSw); go_simp; with_reducible rfl⟩
        try simp only [Act.put, List.setIfInBounds_toArray, List.set_cons_zero, List.set_cons_succ]
        refine wpAnyH_done (by kernel_rfl) ?_ _
        have HX1 := Lib.hid (HX.out.trans hHeld)
        clear hHeld
        go_wp2
        go_ret
        exact ⟨by rw [← HR.out, List.contains_iff_mem.2 (by rw [← HXY.out]; exact HM.out)]; rfl, HX1.out⟩
      · rw [decide_eq_false hxy] at hq
        have HXY := Lib.hid hxy
        clear hxy
        go_wp2_with fail
        refine wp_region_held_drew (S := fun W => Ext wr W) (by kernel_rfl) (Ext.refl _).drew (fun hHeld => ?_)
        refine wpAnyH_take (i := 0) (oi := ?oiz7) (v := ?vz7) ?hiz7 (by kernel_rfl) (by kernel_rfl) (by kernel_rfl) ?hQz7 ?hyz7 (by assumption) ?restz7
        case hiz7 => simp only [List.getElem?_toArray, List.getElem?_cons_zero, List.getElem?_cons_succ]; rfl
        case hQz7 => exact fun _ _ _ h => h
        case hyz7 => exact Or.inl ⟨by rfl, by intro w hSw; (try dsimp only at hSw); go_simp; with_reducible rfl⟩
        try simp only [Act.put, List.setIfInBounds_toArray, List.set_cons_zero, List.set_cons_succ]
        refine wpAnyH_take (i := 1) (oi := ?oiz8) (v := ?vz8) ?hiz8 (by kernel_rfl) (by kernel_rfl) (by kernel_rfl) ?hQz8 ?hyz8 (by assumption) ?restz8
        case hiz8 => simp only [List.getElem?_toArray, List.getElem?_cons_zero, List.getElem?_cons_succ]; rfl
        case hQz8 => exact fun _ _ _ h => h
        case hyz8 => exact Or.inl ⟨by rfl, by intro w hSw; (try dsimp only at hSw); go_simp; with_reducible rfl⟩
        try simp only [Act.put, List.setIfInBounds_toArray, List.set_cons_zero, List.set_cons_succ]
        refine wpAnyH_take (i := 2) (oi := ?oiz9) (v := ?vz9) ?hiz9 (by kernel_rfl) (by kernel_rfl) (by kernel_rfl) ?hQz9 ?hyz9 (by assumption) ?restz9
        case hiz9 => simp only [List.getElem?_toArray, List.getElem?_cons_zero, List.getElem?_cons_succ]; rfl
        case hQz9 => exact fun _ _ _ h => h
        case hyz9 => exact Or.inl ⟨by rfl, by intro w hSw; (try dsimp only at hSw); go_simp; with_reducible rfl⟩
        try simp only [Act.put, List.setIfInBounds_toArray, List.set_cons_zero, List.set_cons_succ]
        refine wpAnyH_take (i := 3) (oi := ?oiz10) (v := (.agg (numsA .u8 x))) ?hiz10 (by kernel_rfl) (by kernel_rfl) (by kernel_rfl) ?hQz10 ?hyz10 (by assumption) ?restz10
        case hiz10 => simp only [List.getElem?_toArray, List.getElem?_cons_zero, List.getElem?_cons_succ]; rfl
        case hQz10 => exact fun _ _ _ h => h
        case hyz10 => refine yields_loadS g (o + k * 32) (tKey.enc x) (by rw [tKey.len _ HX0.out]; exact aggKey) (fun W hW => HD.out W hW) ?_ _ rfl rfl; rfl
        try simp only [Act.put, List.setIfInBounds_toArray, List.set_cons_zero, List.set_cons_succ]
        refine wpAnyH_take (i := 4) (oi := ?oiz11) (v := (.agg (numsA .u8 key))) ?hiz11 (by kernel_rfl) (by kernel_rfl) (by kernel_rfl) ?hQz11 ?hyz11 (by assumption) ?restz11
        case hiz11 => simp only [List.getElem?_toArray, List.getElem?_cons_zero, List.getElem?_cons_succ]; rfl
        case hQz11 => exact fun _ _ _ h => h
        case hyz11 => refine yields_loadS w.heap.size 0 (tKey.enc key) (by rw [tKey.len _ HK.out]; exact aggKey) (fun W hW => HBD.out W hW) ?_ _ rfl rfl; rfl
        try simp only [Act.put, List.setIfInBounds_toArray, List.set_cons_zero, List.set_cons_succ]
        refine wpAnyH_take (i := 5) (oi := ?oiz12) (v := ?vz12) ?hiz12 (by kernel_rfl) (by kernel_rfl) (by kernel_rfl) ?hQz12 ?hyz12 (by assumption) ?restz12
        case hiz12 => simp only [List.getElem?_toArray, List.getElem?_cons_zero, List.getElem?_cons_succ]; rfl
        case hQz12 => exact fun _ _ _ h => h
        case hyz12 => exact Or.inl ⟨by rfl, by intro w hSw; (try dsimp only at hSw); go_simp; with_reducible rfl⟩
        try simp only [Act.put, List.setIfInBounds_toArray, List.set_cons_zero, List.set_cons_succ]
        refine wpAnyH_done (by kernel_rfl) ?_ _
        have HX1 := Lib.hid (HX.out.trans hHeld)
        have HB1 := Lib.hid (HB.out.ext hHeld)
        clear hHeld
        go_wp2
        go_roundw
        case rel => exact ⟨k + 1, by omega, by go_num, by rw [HT1.out]; intro hm; rcases List.mem_append.1 hm with h | h; exact HT.out h; exact HXY.out (List.mem_singleton.1 h).symm, HB1.out, HX1.out⟩
        case measure => simp [intOf]; omega
    · obtain rfl : k = ks.length := by omega
      have he := HT.out
      rw [List.take_length] at he
      have HE := Lib.hid he
      clear he
      go_wp2
      go_ret
      refine ⟨?_, HX.out⟩
      rw [← HR.out]
      cases hcc : ks.contains key with
      | false => rfl
      | true => exact absurd (List.contains_iff_mem.1 hcc) HE.out
end Go.Proofs.Ytmndkbheehcoaaa
/- The nodes that two maps share: the model. No condition. -/
namespace Go.Proofs.Ytmndkbheehcoaaa
open Go.RowKit
set_option linter.unusedVariables false
set_option linter.unusedSimpArgs false
set_option maxHeartbeats 1000000 in
set_option maxRecDepth 100000 in
theorem specShared_any (v u : Value) (a b : List En) (w : World) (S S' : Nat → Prop) (h : RdL tEnt w S v a) (h' : RdL tEnt w S' u b) :
    Calls Try.prog 32 #[v, u] w fun e w' => e = .returned (.tuple #[.int .i64 (sharR a b).1, .int .i64 (sharR a b).2]) ∧ Ext w w' := by
  have H := Lib.hid h
  have H' := Lib.hid h'
  have hokA := h.choose_spec.choose_spec.2.2.2.2
  have hokB := h'.choose_spec.choose_spec.2.2.2.2
  have hc := l04Ok_any v a w S h
  have hc2 := fun W (hW : Ext w W) => l04Ok_any u b W S' (h'.ext (by decide) hW)
  obtain ⟨A, capa, rfl, _⟩ := h
  obtain ⟨B, capb, rfl, _⟩ := h'
  cases ha : okE a with
  | false =>
    simp only [sharR, ha, Bool.false_and, Bool.false_eq_true, if_false]
    simp only [ha] at hc
    clear ha hc2
    go_enter Try.func32, Try.ntmps32
    go_wp2_with fail
    refine hc.mono ?_
    rintro e w1 ⟨rfl, hx⟩
    have HX := Lib.hid hx
    clear hx
    go_wp2
    go_ret2
    exact ⟨rfl, HX.out⟩
  | true =>
    simp only [ha] at hc
    cases hb : okE b with
    | false =>
      simp only [sharR, ha, hb, Bool.and_false, Bool.false_eq_true, if_false]
      simp only [hb] at hc2
      clear ha hb
      go_enter Try.func32, Try.ntmps32
      go_wp2_with fail
      refine hc.mono ?_
      rintro e w1 ⟨rfl, hx⟩
      have HX := Lib.hid hx
      clear hx
      go_wp2_with fail
      refine (hc2 _ HX.out).mono ?_
      rintro e w2 ⟨rfl, hx⟩
      have HX2 := Lib.hid (HX.out.trans hx)
      clear hx
      go_wp2
      go_ret2
      exact ⟨rfl, HX2.out⟩
    | true =>
      simp only [sharR, ha, hb, Bool.and_true, if_true]
      simp only [hb] at hc2
      obtain ⟨T1, hT1, hl1, hf1, _⟩ := tree_facts ha hokA
      obtain ⟨T2, hT2, hl2, hf2, _⟩ := tree_facts hb hokB
      have h64a := okE_len ha
      have h64b := okE_len hb
      have hn1 := fun W (hW : RdL tEnt W S (.slice A a.length capa) a) => l04Nodes_any a.length _ a (Nat.le_refl _) h64a (good_of ha hokA) W S hW
      have hn2 := fun W (hW : RdL tEnt W S' (.slice B b.length capb) b) => l04Nodes_any b.length _ b (Nat.le_refl _) h64b (good_of hb hokB) W S' hW
      rw [hT1, hT2]
      simp only [hT1] at hn1
      simp only [hT2] at hn2
      have HK1 := Lib.hid T1.key_ok.1
      have HK2 := Lib.hid T2.key_ok.1
      clear ha hb hT1 hT2 hokA hokB
      generalize T1.all = N1 at hn1 hl1 hf1 ⊢
      generalize T2.all = N2 at hn2 hl2 hf2 ⊢
      generalize T1.key = k1 at hn1 HK1
      generalize T2.key = k2 at hn2 HK2
      have HL1 := Lib.hid hl1
      have HL2 := Lib.hid hl2
      have HF1 := Lib.hid (show ∀ k (hk : k < N1.length), N1[k].ok ∧ entB N1[k].n N1[k].v = true from fun k hk => ⟨(hf1 _ (List.getElem_mem hk)).1, (hf1 _ (List.getElem_mem hk)).2.1⟩)
      have HF2 := Lib.hid (show ∀ k (hk : k < N2.length), N2[k].ok ∧ entB N2[k].n N2[k].v = true from fun k hk => ⟨(hf2 _ (List.getElem_mem hk)).1, (hf2 _ (List.getElem_mem hk)).2.1⟩)
      have HLe1 := Lib.hid (show N1.length ≤ 64 by omega)
      have HLe2 := Lib.hid (show N2.length ≤ 64 by omega)
      clear hl1 hl2 hf1 hf2 h64a h64b
      go_enter Try.func32, Try.ntmps32
      go_wp2_with fail
      refine hc.mono ?_
      rintro e w1 ⟨rfl, hx⟩
      have HX1 := Lib.hid hx
      clear hx
      go_wp2_with fail
      refine (hc2 _ HX1.out).mono ?_
      rintro e w2 ⟨rfl, hx⟩
      have HX2 := Lib.hid (HX1.out.trans hx)
      clear hx hc hc2
      go_wp2_with fail
      refine (hn1 _ (H.out.ext (by decide) HX2.out)).mono ?_
      rintro e w3 ⟨v3, rfl, ho, hx⟩
      have HX3 := Lib.hid (HX2.out.trans hx)
      have HO3 := Lib.hid ho
      obtain ⟨A3, n3, c3, rfl⟩ := ho.shape3
      clear hx ho hn1
      go_wp2_with (refine wpl_storeNew aggKey HK1.out rfl rfl _ _ rfl rfl rfl rfl ?_)
      refine (hn2 _ (H'.out.ext (by decide) (HX3.out.alloc _))).mono ?_
      rintro e w4 ⟨v4, rfl, ho, hx⟩
      have HX4 := Lib.hid ((HX3.out.alloc _).trans hx)
      have HO4 := Lib.hid ho
      have HO3b := Lib.hid ((HO3.out.alloc _).ext hx)
      obtain ⟨A4, n4, c4, rfl⟩ := ho.shape3
      clear hx ho hn2 HO3
      go_wp2_with (refine wpl_storeNew aggKey HK2.out rfl rfl _ _ rfl rfl rfl rfl ?_)
      have HRA := Lib.hid (show ∀ W, Ext w4 W → RdL tNd W _ (.slice A3 n3 c3) N1 from fun W hW => HO3b.out.rd.ext (by decide) hW)
      have HRB := Lib.hid (show ∀ W, Ext w4 W → RdL tNd W _ (.slice A4 n4 c4) N2 from fun W hW => HO4.out.rd.ext (by decide) hW)
      obtain rfl : n3 = N1.length := by obtain ⟨_, _, e, _⟩ := HO3b.out.rd; injection e
      obtain rfl : n4 = N2.length := by obtain ⟨_, _, e, _⟩ := HO4.out.rd; injection e
      clear HO3b HO4 H H'
      go_loopw [10, 11] (fun o i wr => ∃ k : Nat, k ≤ N1.length ∧ i = .int .i64 k ∧ Own tKey 27 wr w4.heap.size o (kNs (N1.take k)) ∧ Ext w4 wr) (fun _ i _ => N1.length - (intOf i).toNat)
      case atStart => exact ⟨0, by omega, rfl, by rw [List.take_zero, kNs_zero]; exact Own.empty' tKey (World.size_alloc _ _).symm 27 w4.heap.size (ext_alloc _ _).size, (ext_alloc _ _).alloc _⟩
      case round =>
        obtain ⟨k, hk, rfl, ho, hx⟩ := hrel
        have HX := Lib.hid hx
        have HO := Lib.hid ho
        obtain ⟨C, cn, cc, rfl⟩ := ho.shape3
        clear hx ho
        by_cases hlt : k < N1.length
        · obtain ⟨A', c', e9, h9, h10, h11, h12⟩ := HRA.out wr HX.out
          injection e9 with e91 e92 e93
          subst e91 e93
          obtain ⟨g, o, rfl, hs0, hcell⟩ := h11.elem h12 k hlt
          have hcell : ∀ W, Ext wr W → ∀ j u, (N1[k].enc.toArray)[j]? = some u → W.cell? ⟨g, o + k * 66 + j, none⟩ = some u := fun W hW j u hu => hW.cell (hcell j u (by rw [← List.getElem?_toArray]; exact hu))
          have hfk := HF1.out k hlt
          have ht1 := List.take_succ_eq_append_getElem hlt
          have hkl : (kNs (N1.take k)).length = k := by rw [kNs_len, List.length_take]; omega
          clear h9 h10 h11 h12 hs0
          generalize N1[k] = x at hcell hfk ht1
          have hky := kN_ok x
          have hct := fun W hW => l04NodeKeyAt_any x hfk.1 hfk.2 g (o + k * 66) W (fun W' hW' => hcell W' (Ext.trans (show Ext wr W from hW) hW'))
          rw [show hashL 5 (nodeL x) = kN x by rw [kN]] at hct
          have hi : (0 : Int) ≤ (k : Int) := by omega
          have hi2 : (k : Int) < (N1.length : Int) := by omega
          have HT1 := Lib.hid ht1
          have HKL := Lib.hid hkl
          have HKY := Lib.hid hky
          have hnl : (nums .u8 (kN x)).length = 32 := by rw [nums_length, HKY.out.1]
          have hns : (numsA .u8 (kN x)).size = 32 := sizeN HKY.out.1
          have hle := HLe1.out
          clear hcell hfk ht1 hkl hky
          go_wp2_with fail
          refine (hct _ (Ext.refl _)).mono ?_
          rintro e w5 ⟨rfl, hx⟩
          have HX5 := Lib.hid (HX.out.trans hx)
          have HO5 := Lib.hid (HO.out.ext hx)
          clear hx hct HO
          go_wp2_with (at_builtin; go_loud (rw [fold_fillA (numsA .u8 (kN x)) _ _ (sizeN HKY.out.1) rfl]); go_loud (refine wpl_append rowKeys rfl _ _ rfl (v := .slice C cn cc) rfl (HO5.out.alloc _) _ _ rfl (A := some ⟨w5.heap.size, 0, none⟩) (ys := [kN x]) rfl (rd_one (T := tKey) w5 (kN x) HKY.out _) (by intro y hy; obtain rfl := List.mem_singleton.1 hy; exact HKY.out) (by rw [HKL.out]; simp; omega) (HX5.out.alloc _).size ?_); intro v9 w9 ho1 hg1 hat1; have HX9 := Lib.hid ((HO5.out.alloc _).ext_app (HX5.out.alloc _) hg1); have HO9 := Lib.hid ho1; clear ho1 hg1 hat1)
          go_roundw
          case rel => exact ⟨k + 1, by omega, by go_num, by rw [HT1.out, kNs_snoc]; exact HO9.out, HX9.out⟩
          case measure => simp [intOf]; omega
        · obtain rfl : k = N1.length := by omega
          have hto := List.take_length (l := N1)
          rw [hto] at HO
          have HRD := Lib.hid (show ∀ W, Ext wr W → RdL tKey W _ (.slice C cn cc) (kNs N1) from fun W hW => HO.out.rd.ext (by decide) hW)
          have HXW := Lib.hid (HX4.out.trans HX.out)
          clear hto
          go_wp2
          go_loopw [12, 13] (fun c i wq => ∃ k : Nat, k ≤ N2.length ∧ i = .int .i64 k ∧ c = .int .i64 (cntK (kNs N1) (N2.take k) : Nat) ∧ Ext wr wq) (fun _ i _ => N2.length - (intOf i).toNat)
          case atStart => exact ⟨0, by omega, rfl, by rw [List.take_zero, cntK_zero]; rfl, Ext.refl _⟩
          case round =>
            obtain ⟨j, hj, rfl, rfl, hx⟩ := hrel
            have HQ := Lib.hid hx
            clear hx
            by_cases hltj : j < N2.length
            · obtain ⟨A', c', e9, h9, h10, h11, h12⟩ := HRB.out wr (HX.out.trans HQ.out)
              injection e9 with e91 e92 e93
              subst e91 e93
              obtain ⟨g, o, rfl, hs0, hcell⟩ := h11.elem h12 j hltj
              have hcell : ∀ W, Ext wr W → ∀ i u, (N2[j].enc.toArray)[i]? = some u → W.cell? ⟨g, o + j * 66 + i, none⟩ = some u := fun W hW i u hu => hW.cell (hcell i u (by rw [← List.getElem?_toArray]; exact hu))
              have hfk := HF2.out j hltj
              have ht1 := List.take_succ_eq_append_getElem hltj
              have hsn := cntK_snoc (kNs N1) (N2.take j) N2[j]
              have hbd : cntK (kNs N1) (N2.take j) ≤ 64 := Nat.le_trans (cntK_le _ _) (by rw [List.length_take]; have := HLe2.out; omega)
              clear h9 h10 h11 h12 hs0
              generalize N2[j] = x at hcell hfk ht1 hsn
              have hky := kN_ok x
              have hct := fun W hW => l04NodeKeyAt_any x hfk.1 hfk.2 g (o + j * 66) W (fun W' hW' => hcell W' (Ext.trans (show Ext wr W from hW) hW'))
              rw [show hashL 5 (nodeL x) = kN x by rw [kN]] at hct
              have hhas := fun W hW => l01Has_any _ (kNs N1) (kN x) hky W _ (HRD.out W hW)
              have hi : (0 : Int) ≤ (j : Int) := by omega
              have hi2 : (j : Int) < (N2.length : Int) := by omega
              rw [← ht1] at hsn
              generalize cntK (kNs N1) (N2.take j) = cn9 at hsn hbd ⊢
              have HKY := Lib.hid hky
              have hle := HLe2.out
              clear hcell hfk ht1 hky
              cases hcon : (kNs N1).contains (kN x) with
              | true =>
                rw [hcon, if_pos rfl] at hsn
                simp only [hcon] at hhas
                have HSN := Lib.hid hsn
                clear hcon hsn
                go_wp2_with fail
                refine (hct _ (Ext.refl _)).mono ?_
                rintro e w5 ⟨rfl, hx⟩
                have HX5 := Lib.hid (HQ.out.trans hx)
                clear hx hct
                go_wp2_with fail
                refine (hhas _ HX5.out).mono ?_
                rintro e w6 ⟨rfl, hx⟩
                have HX6 := Lib.hid (HX5.out.trans hx)
                clear hx hhas
                go_wp2
                go_roundw
                case rel => exact ⟨j + 1, by omega, by go_num, by rw [HSN.out]; go_num, HX6.out⟩
                case measure => simp [intOf]; omega
              | false =>
                rw [hcon, if_neg Bool.false_ne_true] at hsn
                simp only [hcon] at hhas
                have HSN := Lib.hid hsn
                clear hcon hsn
                go_wp2_with fail
                refine (hct _ (Ext.refl _)).mono ?_
                rintro e w5 ⟨rfl, hx⟩
                have HX5 := Lib.hid (HQ.out.trans hx)
                clear hx hct
                go_wp2_with fail
                refine (hhas _ HX5.out).mono ?_
                rintro e w6 ⟨rfl, hx⟩
                have HX6 := Lib.hid (HX5.out.trans hx)
                clear hx hhas
                go_wp2
                go_roundw
                case rel => exact ⟨j + 1, by omega, by go_num, by rw [HSN.out], HX6.out⟩
                case measure => simp [intOf]; omega
            · obtain rfl : j = N2.length := by omega
              rw [List.take_length]
              go_wp2
              go_ret2
              exact ⟨rfl, HXW.out.trans HQ.out⟩
end Go.Proofs.Ytmndkbheehcoaaa
/- A map keyed by keys, of bools, that the call makes: a set of keys. No condition. -/
namespace Go.Proofs.Ytmndkbheehcoaaa
open Go.RowKit Go.Maps
set_option linter.unusedVariables false
set_option linter.unusedSimpArgs false

/-- a key as the kit's maps tell it -/
def klit (xs : List Int) : Lit := .string (keyBytes (xs.map (Lit.int .u8)))
theorem keyedKey : Keyed Try.prog 27 := Keyed.of_law (deep_law (m := 3) (by decide) (by kernel_rfl) (by kernel_rfl) (by kernel_rfl))
theorem mapM_opt {α β : Type} {g : α → Option β} {h : α → β} : ∀ {l : List α}, (∀ a ∈ l, g a = some (h a)) → l.mapM g = some (l.map h)
  | [], _ => rfl
  | a :: l, H => by
    rw [List.mapM_cons, H a (by simp), mapM_opt (fun b hb => H b (by simp [hb]))]
    rfl
theorem keyLits_u8 (d : Nat) (n : Int) (h0 : 0 ≤ n) (h1 : n ≤ 255) : Try.prog.keyLits (d + 1) 5 [.int .u8 n] = some [.int .u8 n] := by
  have hu : Try.prog.underlying 5 = some (.int .u8) := by kernel_rfl
  have hw : (Lit.int .u8 n).wf = true := by
    simp only [Lit.wf, Bool.and_eq_true, decide_eq_true_eq]
    exact ⟨by simpa [IntKind.min, IntKind.signed] using h0, by simpa [IntKind.max, IntKind.signed, IntKind.bits] using h1⟩
  unfold Program.keyLits
  rw [hu]
  simp only [true_and]
  rw [if_pos hw]
theorem keyLits_key (d : Nat) (xs : List Int) (h : K32 xs) : Try.prog.keyLits (d + 2) 27 (nums .u8 xs) = some (xs.map (Lit.int .u8)) := by
  have hu : Try.prog.underlying 27 = some (.array 32 5) := by kernel_rfl
  have hc : Try.prog.cellsOf 27 = 32 := by kernel_rfl
  have h8 : Try.prog.cellsOf 5 = 1 := by kernel_rfl
  have hm : (List.range 32).mapM (fun i => Try.prog.keyLits (d + 1) 5 (((nums .u8 xs).drop (i * 1)).take 1)) = some ((List.range 32).map fun i => [Lit.int .u8 (gI xs i)]) := by
    refine mapM_opt fun i hi => ?_
    have hi : i < xs.length := by rw [h.1]; exact List.mem_range.1 hi
    have e : ((nums .u8 xs).drop (i * 1)).take 1 = [.int .u8 (gI xs i)] := by
      have := nums_at .u8 xs i hi
      rw [Nat.mul_one, List.take_one, List.head?_drop, this]
      rfl
    rw [e]
    have hb := h.2 (gI xs i) (by rw [gI_lt hi]; exact List.getElem_mem hi)
    exact keyLits_u8 d _ hb.1 (by have := hb.2; omega)
  unfold Program.keyLits
  rw [hu]
  show (if (nums .u8 xs).length = Try.prog.cellsOf 27 then Option.map List.flatten ((List.range 32).mapM fun i => Try.prog.keyLits (d + 1) 5 (((nums .u8 xs).drop (i * Try.prog.cellsOf 5)).take (Try.prog.cellsOf 5))) else none) = _
  rw [if_pos (by rw [nums_length, h.1, hc]), h8, hm, Option.map_some]
  have e : List.flatten ((List.range 32).map fun i => [Lit.int .u8 (gI xs i)]) = xs.map (Lit.int .u8) := by
    rw [← List.flatMap_def, ← List.map_eq_flatMap]
    refine List.ext_getElem (by simp [h.1]) fun i h1 h2 => ?_
    simp only [List.length_map] at h2
    simp [gI_lt h2]
  rw [e]
theorem keyOf_key (xs : List Int) (h : K32 xs) : keyOf Try.prog 27 (.agg (numsA .u8 xs)) = some (klit xs) := by
  have hu : Try.prog.underlying 27 = some (.array 32 5) := by kernel_rfl
  have hc : Try.prog.cellsOf 27 = 32 := by kernel_rfl
  have hk : Try.prog.keyType 27 = true := by kernel_rfl
  have hz : (decide (1 ≤ Try.prog.types.size)) = true := by kernel_rfl
  have hz := of_decide_eq_true hz
  have hf : (Value.agg (numsA .u8 xs)).formed Try.prog 27 = true := by
    simp only [Value.formed, hu, hc, numsA_size, h.1]; rfl
  have hl := keyLits_key (Try.prog.types.size - 1) xs h
  rw [show Try.prog.types.size - 1 + 2 = Try.prog.types.size + 1 by omega] at hl
  unfold keyOf
  simp only [hu]
  rw [hk, hf]
  rw [if_pos (by rfl)]
  show ((Try.prog.keyLits (Try.prog.types.size + 1) 27 (nums .u8 xs)).map fun ls => Lit.string (keyBytes ls)) = _
  rw [hl, Option.map_some, klit]
theorem klit_inj {a b : List Int} (ha : K32 a) (hb : K32 b) (h : klit a = klit b) : a = b := by
  have h1 := keyOf_key a ha
  have h2 := keyOf_key b hb
  rw [h] at h1
  have e := keyedKey.inj h1 h2
  have e := congrArg Array.toList (Value.agg.inj e)
  exact (List.map_inj_right (fun x y h => by injection h)).1 (show a.map (Value.int .u8) = b.map (Value.int .u8) from e)

/-- the datum of a set of keys -/
def setK (ks : List (List Int)) : DataW Unit := Maps.setOf (.lit (.bool true)) (ks.map klit)
theorem setK_nil : setK [] = .map [] := rfl
theorem setK_snoc (ks : List (List Int)) (k : List Int) : setK (ks ++ [k]) = (setK ks).put (klit k) (.lit (.bool true)) := by
  rw [setK, List.map_append, List.map_cons, List.map_nil, setOf_snoc]; rfl
theorem klit_key (k : List Int) : WideAt.IsKeyLit (klit k) := trivial
theorem setK_isMap (ks : List (List Int)) : IsMap (setK ks) := (tidy_setOf _ _ (fun x hx => by obtain ⟨k, _, rfl⟩ := List.mem_map.1 hx; exact klit_key k)).isMap
theorem atKey_setK (n : Nat) : ∀ (ks : List (List Int)), ks.length = n → (∀ k ∈ ks, K32 k) → ∀ k, K32 k → (setK ks).atKey (klit k) (.lit (.bool false)) = .lit (.bool (ks.contains k)) := by
  induction n with
  | zero =>
    intro ks h0 _ k _
    obtain rfl := List.eq_nil_of_length_eq_zero h0
    rfl
  | succ n ih =>
    intro ks hn hk k hkk
    have hne : ks ≠ [] := by rintro rfl; cases hn
    obtain ⟨l, a, rfl⟩ : ∃ l a, ks = l ++ [a] := ⟨ks.dropLast, ks.getLast hne, (List.dropLast_concat_getLast hne).symm⟩
    have ihl := ih l (by simpa using hn) (fun x hx => hk x (by simp [hx])) k hkk
    rw [setK_snoc]
    by_cases e : k = a
    · subst e
      rw [atKey_put_same (setK_isMap l) (klit_key k)]
      simp
    · rw [atKey_put_other (fun h => e (klit_inj hkk (hk a (by simp)) h)), ihl]
      simp [e]
theorem plainElem_bool_inv {H : Type} {P : Program} {e : TypeId} (he : P.underlying e = some .bool) {v : Value} {z : DataW H × List MemPlace} (h : plainElem P e v = some z) : ∃ x, v = .bool x ∧ z = (.lit (.bool x), []) := by
  unfold plainElem at h
  rw [he] at h
  cases v <;> simp at h
  exact ⟨_, rfl, h.symm⟩

/-- block b of w is a set of keys that the call made -/
def OwnSet (w : World) (b : Nat) (ks : List (List Int)) : Prop := w.ownsMap Try.prog 27 (plainElem (H := Unit) Try.prog 4) b ks.length (setK ks) ∧ ∀ k ∈ ks, K32 k
theorem OwnSet.made (w : World) : OwnSet (w.alloc (.map #[] 0)) w.heap.size [] := ⟨World.ownsMap_made _ _ _ _, fun _ h => by cases h⟩
theorem OwnSet.lt {w : World} {b : Nat} {ks : List (List Int)} (h : OwnSet w b ks) : b < w.heap.size := World.ownsMap.lt h.1
theorem OwnSet.ext {w w' : World} {b : Nat} {ks : List (List Int)} (h : OwnSet w b ks) (hx : Ext w w') : OwnSet w' b ks := by
  refine ⟨?_, h.2⟩
  obtain ⟨es, clock, hb, r⟩ := h.1
  exact ⟨es, clock, (hx.block _ h.lt).trans hb, r⟩
theorem OwnSet.alloc {w : World} {b : Nat} {ks : List (List Int)} (h : OwnSet w b ks) (o : Obj) : OwnSet (w.alloc o) b ks := ⟨h.1.alloc o, h.2⟩
theorem wpl_setPut {P : Program} (hP : P = Try.prog) {w : World} {ops : Array Oper} {rest : List Oper} {o : Oper} {a : Act} {Q : Exit → Act → World → Prop}
    (hg : o.guard = none) (m x v : Operand) (t : TypeId) (hop : o.op = Op.mapUpdate t m x v) (ht : Try.prog.underlying t = some (.map 27 4)) (b : Nat) (ks : List (List Int))
    (hm : a.eval m = .map (some b)) (hown : OwnSet w b ks) (hn : ks.length < 1000000) (k : List Int) (hk : K32 k) (hx : a.eval x = .agg (numsA .u8 k)) (hv : a.eval v = .bool true)
    (hK : ∀ w', OwnSet w' b (ks ++ [k]) → w.grownBy w' (some b) → wpList P ops Q rest (a.put o.dst undef) w') :
    wpList P ops Q (o :: rest) a w := by
  subst hP
  refine wpList_mapUpdate_own w hg m x v t hop 27 4 keyedKey ht _ b ks.length (setK ks) hm hown.1 (by unfold maxLen; omega) _ _ (klit k) hx hv (keyOf_key k hk) (.lit (.bool true)) [] (plainElem_bool (by kernel_rfl) true) fun w' h1 h2 => hK w' ⟨?_, ?_⟩ h2
  · rw [setK_snoc, List.length_append]; exact h1
  · intro k' hk'
    rcases List.mem_append.1 hk' with h | h
    · exact hown.2 _ h
    · obtain rfl := List.mem_singleton.1 h; exact hk
theorem wpl_setHas {P : Program} (hP : P = Try.prog) {w : World} {ops : Array Oper} {rest : List Oper} {o : Oper} {a : Act} {Q : Exit → Act → World → Prop}
    (hg : o.guard = none) (m x : Operand) (t : TypeId) (hop : o.op = Op.lookup t m x false) (ht : Try.prog.underlying t = some (.map 27 4)) (b : Nat) (ks : List (List Int))
    (hm : a.eval m = .map (some b)) (hown : OwnSet w b ks) (k : List Int) (hk : K32 k) (hx : a.eval x = .agg (numsA .u8 k))
    (hK : wpList P ops Q rest (a.put o.dst (.bool (ks.contains k))) w) :
    wpList P ops Q (o :: rest) a w := by
  subst hP
  refine wpList_plain hg fun K' hK' => ?_
  have hz : ∀ W, (zeroValue 4).run Try.prog W = .ok (.bool false) W := fun W => by kernel_rfl
  obtain ⟨v, ps, hrun, hv⟩ := hown.1.lookup keyedKey ht (hz w) (plainElem_bool (by kernel_rfl) false) (keyOf_key k hk)
  obtain ⟨c, rfl, hc⟩ := plainElem_bool_inv (by kernel_rfl) hv
  rw [atKey_setK _ ks rfl hown.2 k hk] at hc
  simp only [Prod.mk.injEq, DataW.lit.injEq, Lit.bool.injEq] at hc
  obtain ⟨rfl, _⟩ := hc
  clear hv
  generalize ks.contains k = c at hrun hK
  unfold Oper.wp
  simp [execOp, hop, hm, hx, hrun, Result.andThen]
  exact hK' _ _ hK
end Go.Proofs.Ytmndkbheehcoaaa
/- The nodes that two maps share: the program. No condition. -/
namespace Go.Proofs.Ytmndkbheehcoaaa
open Go.RowKit
set_option linter.unusedVariables false
set_option linter.unusedSimpArgs false
set_option maxHeartbeats 1000000 in
set_option maxRecDepth 100000 in
theorem implShared_any (v u : Value) (a b : List En) (w : World) (S S' : Nat → Prop) (h : RdL tEnt w S v a) (h' : RdL tEnt w S' u b) :
    Calls Try.prog 33 #[v, u] w fun e w' => e = .returned (.tuple #[.int .i64 (sharR a b).1, .int .i64 (sharR a b).2]) ∧ Ext w w' := by
  have H := Lib.hid h
  have H' := Lib.hid h'
  have hokA := h.choose_spec.choose_spec.2.2.2.2
  have hokB := h'.choose_spec.choose_spec.2.2.2.2
  have hc := validEntries_any v a w S h
  have hc2 := fun W (hW : Ext w W) => validEntries_any u b W S' (h'.ext (by decide) hW)
  obtain ⟨A, capa, rfl, _⟩ := h
  obtain ⟨B, capb, rfl, _⟩ := h'
  cases ha : okE a with
  | false =>
    simp only [sharR, ha, Bool.false_and, Bool.false_eq_true, if_false]
    simp only [ha] at hc
    clear ha hc2
    go_enter Try.func33, Try.ntmps33
    go_wp2_with fail
    refine hc.mono ?_
    rintro e w1 ⟨rfl, hx⟩
    have HX := Lib.hid hx
    clear hx
    go_wp2
    go_ret2
    exact ⟨rfl, HX.out⟩
  | true =>
    simp only [ha] at hc
    cases hb : okE b with
    | false =>
      simp only [sharR, ha, hb, Bool.and_false, Bool.false_eq_true, if_false]
      simp only [hb] at hc2
      clear ha hb
      go_enter Try.func33, Try.ntmps33
      go_wp2_with fail
      refine hc.mono ?_
      rintro e w1 ⟨rfl, hx⟩
      have HX := Lib.hid hx
      clear hx
      go_wp2_with fail
      refine (hc2 _ HX.out).mono ?_
      rintro e w2 ⟨rfl, hx⟩
      have HX2 := Lib.hid (HX.out.trans hx)
      clear hx
      go_wp2
      go_ret2
      exact ⟨rfl, HX2.out⟩
    | true =>
      simp only [sharR, ha, hb, Bool.and_true, if_true]
      simp only [hb] at hc2
      obtain ⟨T1, hT1, hl1, hf1, _⟩ := tree_facts ha hokA
      obtain ⟨T2, hT2, hl2, hf2, _⟩ := tree_facts hb hokB
      have h64a := okE_len ha
      have h64b := okE_len hb
      have hn1 := fun W (hW : RdL tEnt W S (.slice A a.length capa) a) => allNodes_any _ a h64a (good_of ha hokA) W S hW
      have hn2 := fun W (hW : RdL tEnt W S' (.slice B b.length capb) b) => allNodes_any _ b h64b (good_of hb hokB) W S' hW
      rw [hT1, hT2]
      simp only [hT1] at hn1
      simp only [hT2] at hn2
      clear ha hb hT1 hT2 hokA hokB
      generalize T1.all = N1 at hn1 hl1 hf1 ⊢
      generalize T2.all = N2 at hn2 hl2 hf2 ⊢
      have HL1 := Lib.hid hl1
      have HL2 := Lib.hid hl2
      have HF1 := Lib.hid (show ∀ k (hk : k < N1.length), N1[k].ok ∧ entB N1[k].n N1[k].v = true from fun k hk => ⟨(hf1 _ (List.getElem_mem hk)).1, (hf1 _ (List.getElem_mem hk)).2.1⟩)
      have HF2 := Lib.hid (show ∀ k (hk : k < N2.length), N2[k].ok ∧ entB N2[k].n N2[k].v = true from fun k hk => ⟨(hf2 _ (List.getElem_mem hk)).1, (hf2 _ (List.getElem_mem hk)).2.1⟩)
      have HLe1 := Lib.hid (show N1.length ≤ 64 by omega)
      have HLe2 := Lib.hid (show N2.length ≤ 64 by omega)
      have hmm := @run_makeMap Try.prog
      clear hl1 hl2 hf1 hf2 h64a h64b
      go_enter Try.func33, Try.ntmps33
      go_wp2_with fail
      refine hc.mono ?_
      rintro e w1 ⟨rfl, hx⟩
      have HX1 := Lib.hid hx
      clear hx
      go_wp2_with fail
      refine (hc2 _ HX1.out).mono ?_
      rintro e w2 ⟨rfl, hx⟩
      have HX2 := Lib.hid (HX1.out.trans hx)
      clear hx hc hc2
      go_wp2_with fail
      have HM2 := Lib.hid (OwnSet.made w2)
      have HX2b := Lib.hid (HX2.out.alloc (.map #[] 0))
      refine (hn1 _ (H.out.ext (by decide) HX2b.out)).mono ?_
      rintro e w3 ⟨v3, rfl, ho, hx⟩
      have HX3 := Lib.hid (HX2b.out.trans hx)
      have HO3 := Lib.hid ho
      have HM3 := Lib.hid (HM2.out.ext hx)
      obtain ⟨A3, n3, c3, rfl⟩ := ho.shape3
      clear hx ho hn1 hmm HM2
      have HRA := Lib.hid (show ∀ W, w3.grownBy W (some w2.heap.size) → RdL tNd W _ (.slice A3 n3 c3) N1 from fun W hW => HO3.out.rd.grownG (by decide) hW (fun k hk e => by have := hk.1; simp at this; omega))
      obtain rfl : n3 = N1.length := by obtain ⟨_, _, e, _⟩ := HO3.out.rd; injection e
      clear HO3 H
      go_wp2
      go_loopw [24] (fun i wr => ∃ k : Nat, k ≤ N1.length ∧ i = .int .i64 k ∧ OwnSet wr w2.heap.size (kNs (N1.take k)) ∧ w3.grownBy wr (some w2.heap.size)) (fun i _ => N1.length - (intOf i).toNat)
      case atStart => exact ⟨0, by omega, rfl, by rw [List.take_zero, kNs_zero]; exact HM3.out, grown_refl _ _⟩
      case round =>
        obtain ⟨k, hk, rfl, hm, hg0⟩ := hrel
        have HM := Lib.hid hm
        have HG := Lib.hid hg0
        clear hm hg0
        by_cases hlt : k < N1.length
        · obtain ⟨A', c', e9, h9, h10, h11, h12⟩ := HRA.out wr HG.out
          injection e9 with e91 e92 e93
          subst e91 e93
          obtain ⟨g, o, rfl, hs0, hcell⟩ := h11.elem h12 k hlt
          have hfk := HF1.out k hlt
          have ht1 := List.take_succ_eq_append_getElem hlt
          have hkl : (kNs (N1.take k)).length = k := by rw [kNs_len, List.length_take]; omega
          clear h9 h10 h11 h12 hs0
          generalize N1[k] = x at hcell hfk ht1
          have HD := Lib.hid hcell
          have HXO := Lib.hid hfk.1
          have hky := kN_ok x
          have hct := fun W => nodeKey_any x hfk.1 hfk.2 W
          rw [show hashL 5 (nodeL x) = kN x by rw [kN]] at hct
          have hst := Nd.st hfk.1
          have HST := Lib.hid hst
          have hsz := hst.size
          have hi : (0 : Int) ≤ (k : Int) := by omega
          have hi2 : (k : Int) < (N1.length : Int) := by omega
          have HT1 := Lib.hid ht1
          have HKL := Lib.hid hkl
          have HKY := Lib.hid hky
          have hle := HLe1.out
          clear hcell hfk ht1 hkl hky hst
          go_wp2_with (first
            | (refine wpl_load ⟨g, o + k * 66, none⟩ x.enc (by rw [Nd.enc_length HXO.out]; exact aggNodeI) rfl _ rfl rfl (fun j u hu => by rw [Addr.add_lit]; exact HD.out j u hu) ?_)
            | (refine wpl_storeNewB aggNodeI HST.out rfl rfl _ _ rfl rfl rfl rfl ?_)
            | (refine wpl_loadB (Blk.new wr _ _) aggNodeI hsz rfl _ rfl rfl ?_))
          refine (hct _).mono ?_
          rintro e w5 ⟨rfl, hx⟩
          have HG5 := Lib.hid (grown_ext (grown_trans HG.out (World.grownBy_alloc wr _ (some w2.heap.size))) hx)
          have HM5 := Lib.hid ((HM.out.alloc _).ext hx)
          clear hx hct HM HG
          go_wp2_with (at_mapUpdate; refine wpl_setPut rfl rfl _ _ _ _ rfl (by kernel_rfl) w2.heap.size _ rfl HM5.out (by rw [HKL.out]; omega) (kN x) HKY.out rfl rfl ?_; intro w9 hm1 hg1; have HM9 := Lib.hid hm1; have HG9 := Lib.hid (grown_trans HG5.out hg1); clear hm1 hg1)
          go_roundw
          case rel => exact ⟨k + 1, by omega, by go_num, by rw [HT1.out, kNs_snoc]; exact HM9.out, HG9.out⟩
          case measure => simp [intOf]; omega
        · obtain rfl : k = N1.length := by omega
          have hto := List.take_length (l := N1)
          rw [hto] at HM
          have HXW := Lib.hid (HX3.out.grown HG.out (fun k hk => by cases hk; exact HX2.out.size))
          clear hto
          go_wp2_with fail
          refine (hn2 _ (H'.out.ext (by decide) HXW.out)).mono ?_
          rintro e w4 ⟨v4, rfl, ho, hx⟩
          have HX4 := Lib.hid (HXW.out.trans hx)
          have HM4 := Lib.hid (HM.out.ext hx)
          have HRB := Lib.hid (show ∀ W, Ext w4 W → RdL tNd W _ v4 N2 from fun W hW => ho.rd.ext (by decide) hW)
          obtain ⟨A4, n4, c4, rfl⟩ := ho.shape3
          obtain rfl : n4 = N2.length := by obtain ⟨_, _, e, _⟩ := ho.rd; injection e
          clear hx ho hn2 H'
          go_wp2
          go_loopw [7, 35] (fun c i wq => ∃ k : Nat, k ≤ N2.length ∧ i = .int .i64 k ∧ c = .int .i64 (cntK (kNs N1) (N2.take k) : Nat) ∧ Ext w4 wq) (fun _ i _ => N2.length - (intOf i).toNat)
          case atStart => exact ⟨0, by omega, rfl, by rw [List.take_zero, cntK_zero]; rfl, Ext.refl _⟩
          case round =>
            obtain ⟨j, hj, rfl, rfl, hx⟩ := hrel
            have HQ := Lib.hid hx
            clear hx
            by_cases hltj : j < N2.length
            · obtain ⟨A', c', e9, h9, h10, h11, h12⟩ := HRB.out wr HQ.out
              injection e9 with e91 e92 e93
              subst e91 e93
              obtain ⟨g, o, rfl, hs0, hcell⟩ := h11.elem h12 j hltj
              have hfk := HF2.out j hltj
              have ht1 := List.take_succ_eq_append_getElem hltj
              have hsn := cntK_snoc (kNs N1) (N2.take j) N2[j]
              have hbd : cntK (kNs N1) (N2.take j) ≤ 64 := Nat.le_trans (cntK_le _ _) (by rw [List.length_take]; have := HLe2.out; omega)
              clear h9 h10 h11 h12 hs0
              generalize N2[j] = x at hcell hfk ht1 hsn
              have HD := Lib.hid hcell
              have HXO := Lib.hid hfk.1
              have hky := kN_ok x
              have hct := fun W => nodeKey_any x hfk.1 hfk.2 W
              rw [show hashL 5 (nodeL x) = kN x by rw [kN]] at hct
              have hst := Nd.st hfk.1
              have HST := Lib.hid hst
              have hsz := hst.size
              have hi : (0 : Int) ≤ (j : Int) := by omega
              have hi2 : (j : Int) < (N2.length : Int) := by omega
              rw [← ht1] at hsn
              generalize cntK (kNs N1) (N2.take j) = cn9 at hsn hbd ⊢
              have HKY := Lib.hid hky
              have hle := HLe2.out
              clear hcell hfk ht1 hky hst
              obtain ⟨bb, hbb⟩ : ∃ bb, (kNs N1).contains (kN x) = bb := ⟨_, rfl⟩
              have HBB := Lib.hid hbb
              rw [hbb] at hsn
              have HSN := Lib.hid hsn
              clear hbb hsn
              go_wp2_with (first
                | (refine wpl_load ⟨g, o + j * 66, none⟩ x.enc (by rw [Nd.enc_length HXO.out]; exact aggNodeI) rfl _ rfl rfl (fun j u hu => by rw [Addr.add_lit]; exact HD.out j u hu) ?_)
                | (refine wpl_storeNewB aggNodeI HST.out rfl rfl _ _ rfl rfl rfl rfl ?_)
                | (refine wpl_loadB (Blk.new wr _ _) aggNodeI hsz rfl _ rfl rfl ?_))
              refine (hct _).mono ?_
              rintro e w5 ⟨rfl, hx⟩
              have HX5 := Lib.hid ((HQ.out.alloc _).trans hx)
              have HM5 := Lib.hid (HM4.out.ext HX5.out)
              clear hx hct
              cases bb with
              | true =>
                go_wp2_with (at_lookup; refine wpl_setHas rfl rfl _ _ _ rfl (by kernel_rfl) w2.heap.size _ rfl HM5.out (kN x) HKY.out rfl ?_; rw [HBB.out])
                go_roundw
                case rel => exact ⟨j + 1, by omega, by go_num, by rw [HSN.out, if_pos (by trivial)]; go_num, HX5.out⟩
                case measure => simp [intOf]; omega
              | false =>
                go_wp2_with (at_lookup; refine wpl_setHas rfl rfl _ _ _ rfl (by kernel_rfl) w2.heap.size _ rfl HM5.out (kN x) HKY.out rfl ?_; rw [HBB.out])
                go_roundw
                case rel => exact ⟨j + 1, by omega, by go_num, by rw [HSN.out, if_neg (by simp)], HX5.out⟩
                case measure => simp [intOf]; omega
            · obtain rfl : j = N2.length := by omega
              rw [List.take_length]
              go_wp2
              go_ret2
              exact ⟨rfl, HX4.out.trans HQ.out⟩
end Go.Proofs.Ytmndkbheehcoaaa
/- Nodes held against each other by == and !=. No condition. -/
namespace Go.Proofs.Ytmndkbheehcoaaa
open Go.RowKit
set_option linter.unusedVariables false
set_option linter.unusedSimpArgs false

theorem part_sub (t n : Nat) (cs : Array Value) (off : Nat) (W : World) (h1 : (isAgg t).run Try.prog W = .ok true W) (h2 : (sizeOf t).run Try.prog W = .ok n W) : (part t cs off).run Try.prog W = .ok (.agg (cs.extract off (off + n))) W := by
  unfold part
  simp only [Sem.run_bind, h1, Result.andThen_ok, if_true, h2, Sem.run_pure]
theorem part_one (t : Nat) (cs : Array Value) (off : Nat) (v : Value) (W : World) (h1 : (isAgg t).run Try.prog W = .ok false W) (h2 : cs[off]? = some v) : (part t cs off).run Try.prog W = .ok v W := by
  unfold part
  simp only [Sem.run_bind, h1, Result.andThen_ok, Bool.false_eq_true, if_false, h2, Sem.run_pure]
theorem enc_ex0 {x : Nd} (h : x.ok) : x.enc.toArray.extract 0 (0 + 32) = numsA .u8 x.l := by
  apply Array.toList_inj.1
  have hl := nums_length .u8 x.l
  rw [h.1.1] at hl
  simp only [List.extract_toArray, List.extract_eq_take_drop, Nd.enc, numsA, List.drop_zero, Nat.add_sub_cancel_left, List.append_assoc]
  rw [List.take_left' hl]
theorem enc_ex1 {x : Nd} (h : x.ok) : x.enc.toArray.extract 32 (32 + 32) = numsA .u8 x.r := by
  apply Array.toList_inj.1
  have hl := nums_length .u8 x.l
  have hr := nums_length .u8 x.r
  rw [h.1.1] at hl
  rw [h.2.1.1] at hr
  simp only [List.extract_toArray, List.extract_eq_take_drop, Nd.enc, numsA, Nat.add_sub_cancel_left, List.append_assoc]
  rw [List.drop_left' hl, List.take_left' hr]
theorem enc_ex2 {x : Nd} (h : x.ok) : x.enc.toArray.extract 64 (64 + 2) = #[.string x.n, .string x.v] := by
  apply Array.toList_inj.1
  have hl : (nums .u8 x.l ++ nums .u8 x.r).length = 64 := by rw [List.length_append, nums_length, nums_length, h.1.1, h.2.1.1]
  simp only [List.extract_toArray, List.extract_eq_take_drop, Nd.enc, Nat.add_sub_cancel_left]
  rw [List.drop_left' hl]
  rfl
section
variable {P : Program} (w : World)
theorem eqF_cons {d : Nat} {xs ys : Array Value} {f : Field} {fs : List Field} {a b : Value} {r : Bool} (hn : f.name ≠ "_") (ha : (part f.type xs f.offset).run P w = .ok a w) (hb : (part f.type ys f.offset).run P w = .ok b w) (hr : (Op.equalIn d f.type a b).run P w = .ok r w) :
    (Op.eqFields d xs ys (f :: fs)).run P w = if r then (Op.eqFields d xs ys fs).run P w else .ok false w := by
  rw [Op.eqFields, if_pos hn]
  simp only [Sem.run_bind, ha, hb, hr, Result.andThen_ok, Sem.run_ite, Sem.run_pure]
  cases r <;> simp
theorem eqF_nil {d : Nat} {xs ys : Array Value} : (Op.eqFields d xs ys []).run P w = .ok true w := by simp [Op.eqFields]
end
theorem fieldsNd : ∃ f0 f1 f2 : Field, (Try.prog.fieldsOf 31).toList = [f0, f1, f2] ∧ (f0.name ≠ "_" ∧ f0.type = 27 ∧ f0.offset = 0) ∧ (f1.name ≠ "_" ∧ f1.type = 27 ∧ f1.offset = 32) ∧ (f2.name ≠ "_" ∧ f2.type = 29 ∧ f2.offset = 64) := by
  simp only [Program.fieldsOf, Try.underlying31]
  exact ⟨_, _, _, rfl, ⟨by decide, rfl, rfl⟩, ⟨by decide, rfl, rfl⟩, by decide, rfl, rfl⟩
theorem fieldsEn : ∃ f0 f1 : Field, (Try.prog.fieldsOf 29).toList = [f0, f1] ∧ (f0.name ≠ "_" ∧ f0.type = 9 ∧ f0.offset = 0) ∧ (f1.name ≠ "_" ∧ f1.type = 9 ∧ f1.offset = 1) := by
  simp only [Program.fieldsOf, Try.underlying29]
  exact ⟨_, _, rfl, ⟨by decide, rfl, rfl⟩, by decide, rfl, rfl⟩
theorem run_equalEn (d : Nat) (a b : En) (W : World) : (Op.equalIn (d + 1 + 1) 29 (.agg #[.string a.1, .string a.2]) (.agg #[.string b.1, .string b.2])).run Try.prog W = .ok (decide (a = b)) W := by
  rw [run_equalIn_agg (P := Try.prog) W (d + 1) 29 _ _ (by kernel_rfl) (by kernel_rfl)]
  obtain ⟨f0, f1, e, ⟨n0, t0, o0⟩, n1, t1, o1⟩ := fieldsEn
  have s0 := part_one 9 #[.string a.1, .string a.2] 0 (.string a.1) W (by kernel_rfl) rfl
  have s1 := part_one 9 #[.string b.1, .string b.2] 0 (.string b.1) W (by kernel_rfl) rfl
  have s2 := part_one 9 #[.string a.1, .string a.2] 1 (.string a.2) W (by kernel_rfl) rfl
  have s3 := part_one 9 #[.string b.1, .string b.2] 1 (.string b.2) W (by kernel_rfl) rfl
  have q0 := run_equalIn_string (P := Try.prog) W d 9 a.1 b.1 (by kernel_rfl)
  have q1 := run_equalIn_string (P := Try.prog) W d 9 a.2 b.2 (by kernel_rfl)
  rw [← t0] at s0 s1 q0
  rw [← t1] at s2 s3 q1
  rw [← o0] at s0 s1
  rw [← o1] at s2 s3
  rw [e, eqF_cons W n0 s0 s1 q0, eqF_cons W n1 s2 s3 q1, eqF_nil]
  obtain ⟨a1, a2⟩ := a
  obtain ⟨b1, b2⟩ := b
  by_cases h1 : a1 = b1
  · subst h1
    by_cases h2 : a2 = b2
    · subst h2; simp
    · have h3 : (a2.toList == b2.toList) = false := by rw [beq_eq_false_iff_ne]; exact fun e => h2 (toList_inj e)
      simp [h2, h3]
  · have h3 : (a1.toList == b1.toList) = false := by rw [beq_eq_false_iff_ne]; exact fun e => h1 (toList_inj e)
    simp [h1, h3]
theorem run_equalKy (d : Nat) (a b : List Int) (ha : K32 a) (hb : K32 b) (W : World) : (Op.equalIn (d + 1 + 1) 27 (.agg (numsA .u8 a)) (.agg (numsA .u8 b))).run Try.prog W = .ok (decide (a = b)) W := by
  rw [run_equalIn_array (P := Try.prog) W (d + 1) 27 5 32 1 _ _ (by kernel_rfl) (fun w => by kernel_rfl), run_eqArr (P := Try.prog) W d 5 .u8 (by kernel_rfl) .u8 a b (by rw [ha.1, hb.1]) 32 0 (by rw [ha.1])]
  simp only [List.drop_zero]
theorem run_equalNd (d : Nat) (x y : Nd) (hx : x.ok) (hy : y.ok) (W : World) : (Op.equalIn (d + 1 + 1 + 1) 31 (.agg x.enc.toArray) (.agg y.enc.toArray)).run Try.prog W = .ok (decide (x = y)) W := by
  have q0 := run_equalKy d x.l y.l hx.1 hy.1 W
  have q1 := run_equalKy d x.r y.r hx.2.1 hy.2.1 W
  have q2 := run_equalEn d (x.n, x.v) (y.n, y.v) W
  have a0 := part_sub 27 32 x.enc.toArray 0 W (by kernel_rfl) (by kernel_rfl)
  have b0 := part_sub 27 32 y.enc.toArray 0 W (by kernel_rfl) (by kernel_rfl)
  have a1 := part_sub 27 32 x.enc.toArray 32 W (by kernel_rfl) (by kernel_rfl)
  have b1 := part_sub 27 32 y.enc.toArray 32 W (by kernel_rfl) (by kernel_rfl)
  have a2 := part_sub 29 2 x.enc.toArray 64 W (by kernel_rfl) (by kernel_rfl)
  have b2 := part_sub 29 2 y.enc.toArray 64 W (by kernel_rfl) (by kernel_rfl)
  rw [enc_ex0 hx] at a0
  rw [enc_ex0 hy] at b0
  rw [enc_ex1 hx] at a1
  rw [enc_ex1 hy] at b1
  rw [enc_ex2 hx] at a2
  rw [enc_ex2 hy] at b2
  rw [run_equalIn_agg (P := Try.prog) W (d + 1 + 1) 31 _ _ (by kernel_rfl) (by kernel_rfl)]
  obtain ⟨f0, f1, f2, e, ⟨n0, t0, o0⟩, ⟨n1, t1, o1⟩, n2, t2, o2⟩ := fieldsNd
  rw [← t0] at a0 b0 q0
  rw [← t1] at a1 b1 q1
  rw [← t2] at a2 b2 q2
  rw [← o0] at a0 b0
  rw [← o1] at a1 b1
  rw [← o2] at a2 b2
  rw [e, eqF_cons W n0 a0 b0 q0, eqF_cons W n1 a1 b1 q1, eqF_cons W n2 a2 b2 q2, eqF_nil]
  clear q0 q1 q2 a0 b0 a1 b1 a2 b2 e
  obtain ⟨xl, xr, xn, xv⟩ := x
  obtain ⟨yl, yr, yn, yv⟩ := y
  simp only [Nd.mk.injEq, Prod.mk.injEq]
  by_cases h1 : xl = yl <;> by_cases h2 : xr = yr <;> by_cases h3 : xn = yn <;> by_cases h4 : xv = yv <;> simp [h1, h2, h3, h4]
theorem run_eqNd (x y : Nd) (hx : x.ok) (hy : y.ok) (W : World) : (binOp .eql 31 (.agg x.enc.toArray) (.agg y.enc.toArray)).run Try.prog W = .ok (.bool (decide (x = y))) W := by
  rw [run_eql_struct, show (10000 : Nat) = 9997 + 1 + 1 + 1 from rfl, run_equalNd 9997 x y hx hy W]; rfl
theorem run_neqNd (x y : Nd) (hx : x.ok) (hy : y.ok) (W : World) : (binOp .neq 31 (.agg x.enc.toArray) (.agg y.enc.toArray)).run Try.prog W = .ok (.bool (!decide (x = y))) W := by
  rw [run_neq_struct, show (10000 : Nat) = 9997 + 1 + 1 + 1 from rfl, run_equalNd 9997 x y hx hy W]; rfl
end Go.Proofs.Ytmndkbheehcoaaa
/- Two nodes in variables and a code are the results; the node at a place of a path. No condition. -/
namespace Go.Proofs.Ytmndkbheehcoaaa
open Go.RowKit
set_option linter.unusedVariables false
set_option linter.unusedSimpArgs false

theorem results_b1 {P : Program} {w : World} {fn : Func} {c : Tmp} {t g e n : Nat} {cs : Array Value} (hr : fn.results = #[.cell c t]) (tmps : Array Value) (hp : tmps.getD c undef = .pointer (some ⟨g, 0, none⟩)) (ht : Agg P t n) (hn : cs.size = n) (hb : Blk w g e cs) :
    (results fn tmps).run P w = .ok (.agg cs) w := by
  have hl := run_loadB (P := P) hb ht hn
  have hp' : tmps[c]?.getD undef = .pointer (some ⟨g, 0, none⟩) := by simpa using hp
  simp [results, hr, hp', asAddr, hl]
theorem results_bbt {P : Program} {w : World} {fn : Func} {c1 c2 d : Tmp} {t g1 g2 e1 e2 n : Nat} {cs1 cs2 : Array Value} (hr : fn.results = #[.cell c1 t, .cell c2 t, .tmp d]) (tmps : Array Value) (hp1 : tmps.getD c1 undef = .pointer (some ⟨g1, 0, none⟩)) (hp2 : tmps.getD c2 undef = .pointer (some ⟨g2, 0, none⟩)) (ht : Agg P t n) (hn1 : cs1.size = n) (hn2 : cs2.size = n) (hb1 : Blk w g1 e1 cs1) (hb2 : Blk w g2 e2 cs2) {v : Value} (hv : tmps.getD d undef = v) :
    (results fn tmps).run P w = .ok (.tuple #[.agg cs1, .agg cs2, v]) w := by
  have hl1 := run_loadB (P := P) hb1 ht hn1
  have hl2 := run_loadB (P := P) hb2 ht hn2
  have hp1' : tmps[c1]?.getD undef = .pointer (some ⟨g1, 0, none⟩) := by simpa using hp1
  have hp2' : tmps[c2]?.getD undef = .pointer (some ⟨g2, 0, none⟩) := by simpa using hp2
  have hv' : tmps[d]?.getD undef = v := by simpa using hv
  simp [results, hr, hp1', hp2', hv', asAddr, hl1, hl2]
theorem built_zero : Try.prog.built 31 [] = some zeroN.enc.toArray := by kernel_rfl
theorem getD_lt {P : List Nd} {k : Nat} (h : k < P.length) : P.getD k zeroN = P[k] := by rw [List.getD_eq_getElem?_getD, List.getElem?_eq_getElem h]; rfl
theorem getD_ge {P : List Nd} {k : Nat} (h : ¬ k < P.length) : P.getD k zeroN = zeroN := by rw [List.getD_eq_getElem?_getD, List.getElem?_eq_none (by omega)]; rfl
theorem getD_ok {P : List Nd} (h : ∀ x ∈ P, tNd.ok x) (k : Nat) : (P.getD k zeroN).ok := by
  by_cases hk : k < P.length
  · rw [getD_lt hk]; exact h _ (List.getElem_mem hk)
  · rw [getD_ge hk]; exact zeroN_ok
set_option maxHeartbeats 1000000 in
set_option maxRecDepth 100000 in
theorem clashAt_any (v : Value) (P : List Nd) (k : Nat) (w : World) (S : Nat → Prop) (h : RdL tNd w S v P) :
    Calls Try.prog 89 #[v, .int .i64 k] w fun e w' => e = .returned (.agg (P.getD k zeroN).enc.toArray) ∧ Ext w w' := by
  obtain ⟨A, cap, rfl, hcap, hlen, hrd, hok⟩ := h
  have hx := getD_ok hok k
  by_cases hlt : k < P.length
  · obtain ⟨g, o, rfl, hs0, hc⟩ := hrd.elem hok k hlt
    rw [getD_lt hlt] at hx ⊢
    have hn : ∀ j u, P[k].enc[j]? = some u → w.cell? ⟨g, o + k * 66 + j, none⟩ = some u := fun j u hu => hc j u hu
    generalize P[k] = x at hx hn hc
    have hi : (0 : Int) ≤ (k : Int) := by omega
    have hi2 : (k : Int) < (P.length : Int) := by omega
    have HST := Lib.hid (Nd.st hx)
    have HXO := Lib.hid hx
    have HN := Lib.hid hn
    clear hc hx hn hrd hok
    go_enter Try.func89, Try.ntmps89
    go_wp2_with (first
      | (refine wpl_load ⟨g, o + k * 66, none⟩ x.enc (by rw [Nd.enc_length HXO.out]; exact aggNodeI) rfl _ rfl rfl (fun j u hu => by rw [Addr.add_lit]; exact (ext_alloc w _).cell (HN.out j u hu)) ?_)
      | (refine wpl_storeNewB aggNodeI HST.out rfl rfl _ _ rfl rfl rfl rfl ?_))
    refine bodyPost_ret (results_b1 rfl _ rfl aggNodeI HST.out.size (Blk.new w 31 _)) rfl ?_
    exact ⟨rfl, ext_alloc _ _⟩
  · rw [getD_ge hlt]
    have hi2 : ¬ (k : Int) < (P.length : Int) := by omega
    have HST := Lib.hid (Nd.st zeroN_ok)
    clear hx hrd hok
    go_enter Try.func89, Try.ntmps89
    go_wp2_with (first
      | (refine wpl_buildN rfl rfl built_zero ?_)
      | (refine wpl_storeNewB aggNodeI HST.out rfl rfl _ _ rfl rfl rfl rfl ?_))
    refine bodyPost_ret (results_b1 rfl _ rfl aggNodeI HST.out.size (Blk.new w 31 _)) rfl ?_
    exact ⟨rfl, ext_alloc _ _⟩
end Go.Proofs.Ytmndkbheehcoaaa
/- Two maps held against each other. No condition. -/
namespace Go.Proofs.Ytmndkbheehcoaaa
open Go.RowKit
set_option linter.unusedVariables false
set_option linter.unusedSimpArgs false

theorem run_neqEn (x y : En) (hx : tEnt.ok x) (hy : tEnt.ok y) (W : World) : (binOp .neq 29 (.agg (tEnt.enc x).toArray) (.agg (tEnt.enc y).toArray)).run Try.prog W = .ok (.bool (!decide (x = y))) W := by
  show (binOp .neq 29 (.agg #[.string x.1, .string x.2]) (.agg #[.string y.1, .string y.2])).run Try.prog W = _
  rw [run_neq_struct, show (10000 : Nat) = 9998 + 1 + 1 from rfl, run_equalEn 9998 x y W]; rfl
set_option maxHeartbeats 1000000 in
set_option maxRecDepth 100000 in
theorem l04Same_any (v u : Value) (xs ys : List En) (w : World) (S S' : Nat → Prop) (h : RdL tEnt w S v xs) (h' : RdL tEnt w S' u ys) :
    Calls Try.prog 122 #[v, u] w fun e w' => e = .returned (.bool (decide (xs = ys))) ∧ Ext w w' := by
  obtain ⟨A, cap, rfl, hcap, hlen, hrd, hok⟩ := h
  obtain ⟨A', cap', rfl, hcap', hlen', hrd', hok'⟩ := h'
  have Hrd := Lib.hid hrd
  have Hrd' := Lib.hid hrd'
  have Hok := Lib.hid hok
  have Hok' := Lib.hid hok'
  obtain ⟨R, hR⟩ : ∃ R, decide (xs = ys) = R := ⟨_, rfl⟩
  rw [hR]
  have HR := Lib.hid hR
  clear hrd hok hrd' hok' hR
  by_cases hl : xs.length = ys.length
  · have hl1 : ((xs.length : Int) != (ys.length : Int)) = false := by simp [hl]
    have HL := Lib.hid hl
    go_enter Try.func122, Try.ntmps122
    go_wp2
    go_loopw [5] (fun i wr => ∃ k : Nat, k ≤ xs.length ∧ i = .int .i64 k ∧ xs.take k = ys.take k ∧ Ext w wr) (fun i _ => xs.length - (intOf i).toNat)
    case atStart => exact ⟨0, by omega, rfl, by simp, Ext.refl _⟩
    case round =>
      obtain ⟨k, hk, rfl, ht, hx⟩ := hrel
      have HX := Lib.hid hx
      have HT := Lib.hid ht
      clear hx hl1 ht
      by_cases hlt : k < xs.length
      · have hlt' : k < ys.length := by have := HL.out; omega
        obtain ⟨g, o, rfl, hs, hc⟩ := Hrd.out.elem Hok.out k hlt
        obtain ⟨g2, o2, rfl, hs2, hc2⟩ := Hrd'.out.elem Hok'.out k hlt'
        have ht1 := List.take_succ_eq_append_getElem hlt
        have ht2 := List.take_succ_eq_append_getElem hlt'
        have hx0 : (tEnt).ok xs[k] := Hok.out _ (List.getElem_mem hlt)
        have hy0 : (tEnt).ok ys[k] := Hok'.out _ (List.getElem_mem hlt')
        have hD : ∀ W, Ext wr W → ∀ j u, ((tEnt).enc xs[k])[j]? = some u → W.cell? ⟨g, o + k * 2 + j, none⟩ = some u := fun W hW j u hu => hW.cell (HX.out.cell (hc j u hu))
        have hD2 : ∀ W, Ext wr W → ∀ j u, ((tEnt).enc ys[k])[j]? = some u → W.cell? ⟨g2, o2 + k * 2 + j, none⟩ = some u := fun W hW j u hu => hW.cell (HX.out.cell (hc2 j u hu))
        have hNE : xs[k] ≠ ys[k] → xs ≠ ys := fun hne e => hne (by have := congrArg (fun (l : List En) => l[k]?) e; simp only [List.getElem?_eq_getElem hlt, List.getElem?_eq_getElem hlt'] at this; exact Option.some.inj this)
        clear hc hc2
        generalize xs[k] = x at ht1 hx0 hD hNE
        generalize ys[k] = y at ht2 hy0 hD2 hNE
        have HD := Lib.hid hD
        have HD2 := Lib.hid hD2
        have HX0 := Lib.hid hx0
        have HY0 := Lib.hid hy0
        have HT1 := Lib.hid ht1
        have HT2 := Lib.hid ht2
        have hi : (0 : Int) ≤ (k : Int) := by omega
        have hi2 : (k : Int) < (xs.length : Int) := by omega
        have hi3 : (k : Int) < (ys.length : Int) := by omega
        have hq := run_neqEn x y HX0.out HY0.out
        clear hD hD2 hx0 hy0 ht1 ht2
        by_cases hxy : x = y
        · rw [decide_eq_true hxy] at hq
          have HXY := Lib.hid hxy
          clear hxy hNE
          go_wp2_with fail
          refine wp_region_held_drew (S := fun W => Ext wr W) (by kernel_rfl) (Ext.refl _).drew (fun hHeld => ?_)
          refine wpAnyH_take (i := 0) (oi := ?oiz1) (v := ?vz1) ?hiz1 (by kernel_rfl) (by kernel_rfl) (by kernel_rfl) ?hQz1 ?hyz1 (by assumption) ?restz1
          case hiz1 => simp only [List.getElem?_toArray, List.getElem?_cons_zero, List.getElem?_cons_succ]; rfl
          case hQz1 => exact fun _ _ _ h => h
          case hyz1 => exact Or.inl ⟨by rfl, by intro w hSw; (try dsimp only at hSw); go_simp; with_reducible rfl⟩
          try simp only [Act.put, List.setIfInBounds_toArray, List.set_cons_zero, List.set_cons_succ]
          refine wpAnyH_take (i := 1) (oi := ?oiz2) (v := ?vz2) ?hiz2 (by kernel_rfl) (by kernel_rfl) (by kernel_rfl) ?hQz2 ?hyz2 (by assumption) ?restz2
          case hiz2 => simp only [List.getElem?_toArray, List.getElem?_cons_zero, List.getElem?_cons_succ]; rfl
          case hQz2 => exact fun _ _ _ h => h
          case hyz2 => exact Or.inl ⟨by rfl, by intro w hSw; (try dsimp only at hSw); go_simp; with_reducible rfl⟩
          try simp only [Act.put, List.setIfInBounds_toArray, List.set_cons_zero, List.set_cons_succ]
          refine wpAnyH_take (i := 2) (oi := ?oiz3) (v := ?vz3) ?hiz3 (by kernel_rfl) (by kernel_rfl) (by kernel_rfl) ?hQz3 ?hyz3 (by assumption) ?restz3
          case hiz3 => simp only [List.getElem?_toArray, List.getElem?_cons_zero, List.getElem?_cons_succ]; rfl
          case hQz3 => exact fun _ _ _ h => h
          case hyz3 => exact Or.inl ⟨by rfl, by intro w hSw; (try dsimp only at hSw); go_simp; with_reducible rfl⟩
          try simp only [Act.put, List.setIfInBounds_toArray, List.set_cons_zero, List.set_cons_succ]
          refine wpAnyH_take (i := 3) (oi := ?oiz4) (v := (.agg ((tEnt).enc x).toArray)) ?hiz4 (by kernel_rfl) (by kernel_rfl) (by kernel_rfl) ?hQz4 ?hyz4 (by assumption) ?restz4
          case hiz4 => simp only [List.getElem?_toArray, List.getElem?_cons_zero, List.getElem?_cons_succ]; rfl
          case hQz4 => exact fun _ _ _ h => h
          case hyz4 => refine yields_loadS g (o + k * 2) ((tEnt).enc x) (by rw [(tEnt).len _ HX0.out]; exact aggEntryI) (fun W hW => HD.out W hW) ?_ _ rfl rfl; rfl
          try simp only [Act.put, List.setIfInBounds_toArray, List.set_cons_zero, List.set_cons_succ]
          refine wpAnyH_take (i := 4) (oi := ?oiz5) (v := ?vz5) ?hiz5 (by kernel_rfl) (by kernel_rfl) (by kernel_rfl) ?hQz5 ?hyz5 (by assumption) ?restz5
          case hiz5 => simp only [List.getElem?_toArray, List.getElem?_cons_zero, List.getElem?_cons_succ]; rfl
          case hQz5 => exact fun _ _ _ h => h
          case hyz5 => exact Or.inl ⟨by rfl, by intro w hSw; (try dsimp only at hSw); go_simp; with_reducible rfl⟩
          try simp only [Act.put, List.setIfInBounds_toArray, List.set_cons_zero, List.set_cons_succ]
          refine wpAnyH_take (i := 5) (oi := ?oiz6) (v := ?vz6) ?hiz6 (by kernel_rfl) (by kernel_rfl) (by kernel_rfl) ?hQz6 ?hyz6 (by assumption) ?restz6
          case hiz6 => simp only [List.getElem?_toArray, List.getElem?_cons_zero, List.getElem?_cons_succ]; rfl
          case hQz6 => exact fun _ _ _ h => h
          case hyz6 => exact Or.inl ⟨by rfl, by intro w hSw; (try dsimp only at hSw); go_simp; with_reducible rfl⟩
          try simp only [Act.put, List.setIfInBounds_toArray, List.set_cons_zero, List.set_cons_succ]
          refine wpAnyH_take (i := 6) (oi := ?oiz7) (v := ?vz7) ?hiz7 (by kernel_rfl) (by kernel_rfl) (by kernel_rfl) ?hQz7 ?hyz7 (by assumption) ?restz7
          case hiz7 => simp only [List.getElem?_toArray, List.getElem?_cons_zero, List.getElem?_cons_succ]; rfl
          case hQz7 => exact fun _ _ _ h => h
          case hyz7 => exact Or.inl ⟨by rfl, by intro w hSw; (try dsimp only at hSw); go_simp; with_reducible rfl⟩
          try simp only [Act.put, List.setIfInBounds_toArray, List.set_cons_zero, List.set_cons_succ]
          refine wpAnyH_take (i := 7) (oi := ?oiz8) (v := (.agg ((tEnt).enc y).toArray)) ?hiz8 (by kernel_rfl) (by kernel_rfl) (by kernel_rfl) ?hQz8 ?hyz8 (by assumption) ?restz8
          case hiz8 => simp only [List.getElem?_toArray, List.getElem?_cons_zero, List.getElem?_cons_succ]; rfl
          case hQz8 => exact fun _ _ _ h => h
          case hyz8 => refine yields_loadS g2 (o2 + k * 2) ((tEnt).enc y) (by rw [(tEnt).len _ HY0.out]; exact aggEntryI) (fun W hW => HD2.out W hW) ?_ _ rfl rfl; rfl
          try simp only [Act.put, List.setIfInBounds_toArray, List.set_cons_zero, List.set_cons_succ]
          refine wpAnyH_take (i := 8) (oi := ?oiz9) (v := ?vz9) ?hiz9 (by kernel_rfl) (by kernel_rfl) (by kernel_rfl) ?hQz9 ?hyz9 (by assumption) ?restz9
          case hiz9 => simp only [List.getElem?_toArray, List.getElem?_cons_zero, List.getElem?_cons_succ]; rfl
          case hQz9 => exact fun _ _ _ h => h
          case hyz9 => exact Or.inl ⟨by rfl, by intro w hSw; (try dsimp only at hSw); go_simp; with_reducible rfl⟩
          try simp only [Act.put, List.setIfInBounds_toArray, List.set_cons_zero, List.set_cons_succ]
          refine wpAnyH_done (by kernel_rfl) ?_ _
          have HX1 := Lib.hid (HX.out.trans hHeld)
          clear hHeld
          go_wp2
          go_roundw
          case rel => exact ⟨k + 1, by omega, by go_num, by rw [HT1.out, HT2.out, HT.out, HXY.out], HX1.out⟩
          case measure => simp [intOf]; omega
        · rw [decide_eq_false hxy] at hq
          have HNE := Lib.hid (hNE hxy)
          clear hxy hNE
          go_wp2_with fail
          refine wp_region_held_drew (S := fun W => Ext wr W) (by kernel_rfl) (Ext.refl _).drew (fun hHeld => ?_)
          refine wpAnyH_take (i := 0) (oi := ?oiz10) (v := ?vz10) ?hiz10 (by kernel_rfl) (by kernel_rfl) (by kernel_rfl) ?hQz10 ?hyz10 (by assumption) ?restz10
          case hiz10 => simp only [List.getElem?_toArray, List.getElem?_cons_zero, List.getElem?_cons_succ]; rfl
          case hQz10 => exact fun _ _ _ h => h
          case hyz10 => exact Or.inl ⟨by rfl, by intro w hSw; (try dsimp only at hSw); go_simp; with_reducible rfl⟩
          try simp only [Act.put, List.setIfInBounds_toArray, List.set_cons_zero, List.set_cons_succ]
          refine wpAnyH_take (i := 1) (oi := ?oiz11) (v := ?vz11) ?hiz11 (by kernel_rfl) (by kernel_rfl) (by kernel_rfl) ?hQz11 ?hyz11 (by assumption) ?restz11
          case hiz11 => simp only [List.getElem?_toArray, List.getElem?_cons_zero, List.getElem?_cons_succ]; rfl
          case hQz11 => exact fun _ _ _ h => h
          case hyz11 => exact Or.inl ⟨by rfl, by intro w hSw; (try dsimp only at hSw); go_simp; with_reducible rfl⟩
          try simp only [Act.put, List.setIfInBounds_toArray, List.set_cons_zero, List.set_cons_succ]
          refine wpAnyH_take (i := 2) (oi := ?oiz12) (v := ?vz12) ?hiz12 (by kernel_rfl) (by kernel_rfl) (by kernel_rfl) ?hQz12 ?hyz12 (by assumption) ?restz12
          case hiz12 => simp only [List.getElem?_toArray, List.getElem?_cons_zero, List.getElem?_cons_succ]; rfl
          case hQz12 => exact fun _ _ _ h => h
          case hyz12 => exact Or.inl ⟨by rfl, by intro w hSw; (try dsimp only at hSw); go_simp; with_reducible rfl⟩
          try simp only [Act.put, List.setIfInBounds_toArray, List.set_cons_zero, List.set_cons_succ]
          refine wpAnyH_take (i := 3) (oi := ?oiz13) (v := (.agg ((tEnt).enc x).toArray)) ?hiz13 (by kernel_rfl) (by kernel_rfl) (by kernel_rfl) ?hQz13 ?hyz13 (by assumption) ?restz13
          case hiz13 => simp only [List.getElem?_toArray, List.getElem?_cons_zero, List.getElem?_cons_succ]; rfl
          case hQz13 => exact fun _ _ _ h => h
          case hyz13 => refine yields_loadS g (o + k * 2) ((tEnt).enc x) (by rw [(tEnt).len _ HX0.out]; exact aggEntryI) (fun W hW => HD.out W hW) ?_ _ rfl rfl; rfl
          try simp only [Act.put, List.setIfInBounds_toArray, List.set_cons_zero, List.set_cons_succ]
          refine wpAnyH_take (i := 4) (oi := ?oiz14) (v := ?vz14) ?hiz14 (by kernel_rfl) (by kernel_rfl) (by kernel_rfl) ?hQz14 ?hyz14 (by assumption) ?restz14
          case hiz14 => simp only [List.getElem?_toArray, List.getElem?_cons_zero, List.getElem?_cons_succ]; rfl
          case hQz14 => exact fun _ _ _ h => h
          case hyz14 => exact Or.inl ⟨by rfl, by intro w hSw; (try dsimp only at hSw); go_simp; with_reducible rfl⟩
          try simp only [Act.put, List.setIfInBounds_toArray, List.set_cons_zero, List.set_cons_succ]
          refine wpAnyH_take (i := 5) (oi := ?oiz15) (v := ?vz15) ?hiz15 (by kernel_rfl) (by kernel_rfl) (by kernel_rfl) ?hQz15 ?hyz15 (by assumption) ?restz15
          case hiz15 => simp only [List.getElem?_toArray, List.getElem?_cons_zero, List.getElem?_cons_succ]; rfl
          case hQz15 => exact fun _ _ _ h => h
          case hyz15 => exact Or.inl ⟨by rfl, by intro w hSw; (try dsimp only at hSw); go_simp; with_reducible rfl⟩
          try simp only [Act.put, List.setIfInBounds_toArray, List.set_cons_zero, List.set_cons_succ]
          refine wpAnyH_take (i := 6) (oi := ?oiz16) (v := ?vz16) ?hiz16 (by kernel_rfl) (by kernel_rfl) (by kernel_rfl) ?hQz16 ?hyz16 (by assumption) ?restz16
          case hiz16 => simp only [List.getElem?_toArray, List.getElem?_cons_zero, List.getElem?_cons_succ]; rfl
          case hQz16 => exact fun _ _ _ h => h
          case hyz16 => exact Or.inl ⟨by rfl, by intro w hSw; (try dsimp only at hSw); go_simp; with_reducible rfl⟩
          try simp only [Act.put, List.setIfInBounds_toArray, List.set_cons_zero, List.set_cons_succ]
          refine wpAnyH_take (i := 7) (oi := ?oiz17) (v := (.agg ((tEnt).enc y).toArray)) ?hiz17 (by kernel_rfl) (by kernel_rfl) (by kernel_rfl) ?hQz17 ?hyz17 (by assumption) ?restz17
          case hiz17 => simp only [List.getElem?_toArray, List.getElem?_cons_zero, List.getElem?_cons_succ]; rfl
          case hQz17 => exact fun _ _ _ h => h
          case hyz17 => refine yields_loadS g2 (o2 + k * 2) ((tEnt).enc y) (by rw [(tEnt).len _ HY0.out]; exact aggEntryI) (fun W hW => HD2.out W hW) ?_ _ rfl rfl; rfl
          try simp only [Act.put, List.setIfInBounds_toArray, List.set_cons_zero, List.set_cons_succ]
          refine wpAnyH_take (i := 8) (oi := ?oiz18) (v := ?vz18) ?hiz18 (by kernel_rfl) (by kernel_rfl) (by kernel_rfl) ?hQz18 ?hyz18 (by assumption) ?restz18
          case hiz18 => simp only [List.getElem?_toArray, List.getElem?_cons_zero, List.getElem?_cons_succ]; rfl
          case hQz18 => exact fun _ _ _ h => h
          case hyz18 => exact Or.inl ⟨by rfl, by intro w hSw; (try dsimp only at hSw); go_simp; with_reducible rfl⟩
          try simp only [Act.put, List.setIfInBounds_toArray, List.set_cons_zero, List.set_cons_succ]
          refine wpAnyH_done (by kernel_rfl) ?_ _
          have HX1 := Lib.hid (HX.out.trans hHeld)
          clear hHeld
          go_wp2
          go_ret
          exact ⟨by rw [← HR.out, decide_eq_false HNE.out]; rfl, HX1.out⟩
      · obtain rfl : k = xs.length := by omega
        have he := HT.out
        rw [List.take_length, HL.out, List.take_length] at he
        have HE := Lib.hid he
        clear he
        go_wp2
        go_ret
        exact ⟨by rw [← HR.out, decide_eq_true HE.out]; rfl, HX.out⟩
  · have hl1 : ((xs.length : Int) != (ys.length : Int)) = true := by rw [bne_iff_ne]; omega
    go_enter Try.func122, Try.ntmps122
    go_wp2
    go_ret
    exact ⟨by rw [← HR.out, decide_eq_false (fun e => hl (by rw [e]))]; rfl, Ext.refl _⟩
set_option maxHeartbeats 1000000 in
set_option maxRecDepth 100000 in
theorem specSameEntries_any (v u : Value) (xs ys : List En) (w : World) (S S' : Nat → Prop) (h : RdL tEnt w S v xs) (h' : RdL tEnt w S' u ys) :
    Calls Try.prog 60 #[v, u] w fun e w' => e = .returned (.bool (decide (xs = ys))) ∧ Ext w w' := by
  have hc := l04Same_any v u xs ys w S S' h h'
  obtain ⟨A, cap, rfl, _⟩ := h
  obtain ⟨A', cap', rfl, _⟩ := h'
  go_enter Try.func60, Try.ntmps60
  go_wp2_with fail
  refine hc.mono ?_
  rintro e w1 ⟨rfl, hx⟩
  have HX := Lib.hid hx
  clear hx hc
  go_wp2
  go_ret
  exact ⟨rfl, HX.out⟩
end Go.Proofs.Ytmndkbheehcoaaa
/- Changes made one after the other: the reference. No condition. -/
namespace Go.Proofs.Ytmndkbheehcoaaa
open Go.RowKit
set_option linter.unusedVariables false
set_option linter.unusedSimpArgs false

end Go.Proofs.Ytmndkbheehcoaaa
/- Changes made one after the other, as it is asked for: the reference. No condition. -/
namespace Go.Proofs.Ytmndkbheehcoaaa
open Go.RowKit
set_option linter.unusedVariables false
set_option linter.unusedSimpArgs false

end Go.Proofs.Ytmndkbheehcoaaa
/- Changes made one after the other: the program. No condition. -/
namespace Go.Proofs.Ytmndkbheehcoaaa
open Go.RowKit
set_option linter.unusedVariables false
set_option linter.unusedSimpArgs false

set_option maxHeartbeats 4000000 in
set_option maxRecDepth 100000 in
theorem implApply_any (v u : Value) (L : List En) (C : List Chg) (w : World) (S S' : Nat → Prop) (h : RdL tEnt w S v L) (h' : RdL tChg w S' u C) :
    Calls Try.prog 73 #[v, u] w fun e w' => ∃ v', e = .returned (.tuple #[v', .int .i64 (aplR L C).2]) ∧ Own tEnt 29 w' w.heap.size v' (aplR L C).1 ∧ Ext w w' := by
  have H := Lib.hid h
  have H' := Lib.hid h'
  have hc := validEntries_any v L w S h
  have hcc := fun W (hW : Ext w W) => chgContains_any u C W S' (h'.ext (by decide) hW)
  have hclone := fun (h64 : L.length ≤ 64) W (hW : Ext w W) => cloneE_any v L W S (h.ext (by decide) hW) (by omega)
  obtain ⟨A, cap, rfl, hcap, hlen, _⟩ := h
  obtain ⟨A', cap', rfl, hcap', hlen', hrd, hok⟩ := h'
  have Hrd := Lib.hid hrd
  have Hok := Lib.hid hok
  clear hrd hok
  cases hb : okE L with
  | false =>
    simp only [aplR, hb, Bool.false_and, Bool.false_eq_true, if_false]
    simp only [hb] at hc
    clear hb hclone hcc
    go_enter Try.func73, Try.ntmps73
    go_wp2_with fail
    refine hc.mono ?_
    rintro e w1 ⟨rfl, hx⟩
    have HX := Lib.hid hx
    clear hx
    go_wp2
    go_ret2
    exact ⟨_, rfl, Own.nil _ _ _ _, HX.out⟩
  | true =>
    simp only [hb] at hc
    have HLL := Lib.hid hb
    replace hclone := hclone (okE_incs' hb).2
    cases hb2 : okCs C with
    | false =>
      simp only [aplR, hb, hb2, Bool.and_false, Bool.false_eq_true, if_false]
      simp only [hb2] at hcc
      clear hb hb2 hclone
      go_enter Try.func73, Try.ntmps73
      go_wp2_with fail
      refine hc.mono ?_
      rintro e w1 ⟨rfl, hx⟩
      have HX := Lib.hid hx
      clear hx
      go_wp2_with fail
      refine (hcc _ HX.out).mono ?_
      rintro e w2 ⟨rfl, hx⟩
      have HX2 := Lib.hid (HX.out.trans hx)
      clear hx
      go_wp2
      go_ret2
      exact ⟨_, rfl, Own.nil _ _ _ _, HX2.out⟩
    | true =>
      simp only [aplR, hb, hb2, Bool.and_true, if_true]
      simp only [hb2] at hcc
      have HCC := Lib.hid hb2
      obtain ⟨R, hR⟩ : ∃ R, aplF L C = R := ⟨_, rfl⟩
      rw [hR]
      have HR := Lib.hid hR
      clear hb hb2 hR
      go_enter Try.func73, Try.ntmps73
      go_wp2_with fail
      refine hc.mono ?_
      rintro e w1 ⟨rfl, hx⟩
      have HX1 := Lib.hid hx
      clear hx
      go_wp2_with fail
      refine (hcc _ HX1.out).mono ?_
      rintro e w2 ⟨rfl, hx⟩
      have HX2 := Lib.hid (HX1.out.trans hx)
      clear hx
      go_wp2_with fail
      refine (hclone _ HX2.out).mono ?_
      rintro e w3 ⟨v3, rfl, ho, hx⟩
      have HO3 := Lib.hid (ho.le (base' := w.heap.size) HX2.out.size)
      have HX3 := Lib.hid (HX2.out.trans hx)
      clear hx ho hc hcc hclone
      go_wp2_with fail
      go_loopw [6, 23] (fun o i wr => ∃ (k : Nat) (out : List En), k ≤ C.length ∧ i = .int .i64 k ∧ Own tEnt 29 wr w.heap.size o out ∧ okE out = true ∧ aplF out (C.drop k) = R ∧ Ext w wr) (fun _ i _ => C.length - (intOf i).toNat)
      case atStart => exact ⟨0, L, by omega, rfl, HO3.out, HLL.out, by rw [List.drop_zero]; exact HR.out, HX3.out⟩
      case round =>
        clear HR HLL HX3 HO3 HX1 HX2
        obtain ⟨k, out, hk, rfl, ho, hoko, hF, hx⟩ := hrel
        have HX := Lib.hid hx
        have HOKO := Lib.hid hoko
        have HO := Lib.hid ho
        obtain ⟨D, dc, rfl⟩ := ho.shape
        clear hx ho
        by_cases hlt : k < C.length
        · rw [List.drop_eq_getElem_cons hlt, aplF_cons] at hF
          obtain ⟨g, o, rfl, hs0, hc⟩ := Hrd.out.elem Hok.out k hlt
          have hcb := okCs_at HCC.out hlt
          have hcok : tChg.ok C[k] := Hok.out _ (List.getElem_mem hlt)
          generalize C[k] = c at hF hc hcb hcok
          have HF := Lib.hid hF
          have HCB := Lib.hid hcb
          have HD := Lib.hid (show ∀ j u, ([.string c.n, .bool c.ho, .string c.o, .bool c.hn, .string c.nw] : List Value)[j]? = some u → wr.cell? ⟨g, o + k * 5 + j, none⟩ = some u from fun j u hu => HX.out.cell (hc j u hu))
          have hst : St 5 #[.string c.n, .bool c.ho, .string c.o, .bool c.hn, .string c.nw] := ⟨rfl, fun u hu => tChg.one c u (by simpa [tChg] using hu)⟩
          have hi : (0 : Int) ≤ (k : Int) := by omega
          have hi2 : (k : Int) < (C.length : Int) := by omega
          obtain ⟨wb, hwb⟩ : ∃ wb, wb = wr.alloc (.cells #[.string c.n, .bool c.ho, .string c.o, .bool c.hn, .string c.nw] 90) := ⟨_, rfl⟩
          have hxb : Ext wr wb := by rw [hwb]; exact ext_alloc _ _
          have HB8 := Lib.hid (show Blk wb wr.heap.size 90 #[.string c.n, .bool c.ho, .string c.o, .bool c.hn, .string c.nw] by rw [hwb]; exact Blk.new _ _ _)
          have d0a : (wr.alloc (.cells #[.string c.n, .bool c.ho, .string c.o, .bool c.hn, .string c.nw] 90)).cell? ⟨wr.heap.size, 0, none⟩ = some (.string c.n) := by rw [← hwb]; exact HB8.out.at_ 0 (v := .string c.n) rfl
          have HXb := Lib.hid (HX.out.trans hxb)
          have HOb := Lib.hid (HO.out.ext hxb)
          clear hxb
          have hinc := okE_incs' hoko
          have hfind := find_any (.slice D out.length dc) out hinc.1 c.n wb (fun _ => True) (HOb.out.rd.mono (fun _ _ => trivial))
          have hput := fun W (hW : Ext wb W) => put_any (.slice D out.length dc) out (c.n, c.nw) ⟨hcok.1, hcok.2.2⟩ hinc.1 hinc.2 W (fun _ => True) ((HOb.out.rd.mono (fun _ _ => trivial)).ext (by decide) hW)
          have hpi := putI_eq hoko (e := (c.n, c.nw)) (chgB_ent hcb)
          rw [putR, hoko, chgB_ent hcb] at hpi
          simp only [Bool.and_self, if_true] at hpi
          have HPI := Lib.hid hpi
          obtain ⟨q, hq⟩ : ∃ q, posE out c.n = q := ⟨_, rfl⟩
          have HQP := Lib.hid hq
          rw [hq] at hfind
          clear hpi hq
          cases hh : hasE out c.n with
          | false =>
            rw [hh] at hfind
            cases hho : c.ho with
            | true =>
              have HQ := Lib.hid (show (([] : List En), (4 : Int)) = R by rw [← HF.out, aplS_bad (by rw [badC, hh, hho]; rfl)]; rfl)
              have HHO := Lib.hid hho
              clear hF hput hh hho
              go_wp2_with (first
                | (refine wpl_load ⟨g, o + k * 5, none⟩ [.string c.n, .bool c.ho, .string c.o, .bool c.hn, .string c.nw] aggChangeI rfl _ rfl rfl (fun j u hu => by rw [Addr.add_lit]; exact HD.out j u hu) ?_)
                | (refine wpl_storeNewB aggChangeI hst rfl rfl _ _ rfl rfl rfl rfl ?_))
              rw [← hwb]
              clear hwb d0a
              refine hfind.mono ?_
              rintro e w2 ⟨rfl, hx⟩
              have HX2 := Lib.hid (HXb.out.trans hx)
              have HO2 := Lib.hid (HOb.out.ext hx)
              have d0 := (HB8.out.ext hx).at_ 0 (v := .string c.n) rfl
              have d1 := (HB8.out.ext hx).at_ 1 (v := .bool c.ho) rfl
              have d2 := (HB8.out.ext hx).at_ 2 (v := .string c.o) rfl
              have d3 := (HB8.out.ext hx).at_ 3 (v := .bool c.hn) rfl
              have d4 := (HB8.out.ext hx).at_ 4 (v := .string c.nw) rfl
              rw [HHO.out] at d1
              clear hx
              go_wp2
              go_quiet (fail)
              go_wp2
              go_ret2
              exact ⟨_, by rw [← HQ.out]; rfl, by rw [← HQ.out]; exact Own.nil _ _ _ _, HX2.out.drewN _⟩
            | false =>
              have HBAD := Lib.hid (show badC out c = false by rw [badC, hh, hho]; rfl)
              have hhn : c.hn = true := by rcases (chgB_name hcb).2.2 with h | h; rw [hho] at h; cases h; exact h
              have HHO := Lib.hid hho
              have HHN := Lib.hid hhn
              clear hF hh hho hhn
              go_wp2_with (first
                | (refine wpl_load ⟨g, o + k * 5, none⟩ [.string c.n, .bool c.ho, .string c.o, .bool c.hn, .string c.nw] aggChangeI rfl _ rfl rfl (fun j u hu => by rw [Addr.add_lit]; exact HD.out j u hu) ?_)
                | (refine wpl_storeNewB aggChangeI hst rfl rfl _ _ rfl rfl rfl rfl ?_))
              rw [← hwb]
              clear hwb d0a
              refine hfind.mono ?_
              rintro e w2 ⟨rfl, hx⟩
              have HX2 := Lib.hid (HXb.out.trans hx)
              have HO2 := Lib.hid (HOb.out.ext hx)
              have d0 := (HB8.out.ext hx).at_ 0 (v := .string c.n) rfl
              have d1 := (HB8.out.ext hx).at_ 1 (v := .bool c.ho) rfl
              have d2 := (HB8.out.ext hx).at_ 2 (v := .string c.o) rfl
              have d3 := (HB8.out.ext hx).at_ 3 (v := .bool c.hn) rfl
              have d4 := (HB8.out.ext hx).at_ 4 (v := .string c.nw) rfl
              rw [HHO.out] at d1
              rw [HHN.out] at d3
              have HXbx := Lib.hid hx
              clear hx
              by_cases hl : 64 < (putEnd (c.n, c.nw) (putF (c.n, c.nw) out)).length
              · have HQ := Lib.hid (show (([] : List En), (3 : Int)) = R by rw [← HF.out, aplS_lim HBAD.out HHN.out hl]; rfl)
                have hpi := HPI.out
                rw [if_pos hl] at hpi
                simp only [← hpi] at hput
                clear hpi hl
                go_wp2
                go_quiet (fail)
                go_wp2_with fail
                refine (hput _ (HXbx.out.drewN _)).mono ?_
                rintro e w4 ⟨v4, rfl, ho, hx⟩
                have HX4 := Lib.hid ((HX2.out.drewN _).trans hx)
                obtain ⟨A4, n4, c4, rfl⟩ := ho.shape3
                clear ho hx hput
                go_wp2
                go_ret2
                exact ⟨_, by rw [← HQ.out]; rfl, by rw [← HQ.out]; exact Own.nil _ _ _ _, HX4.out⟩
              · have HQ := Lib.hid (show aplF (putEnd (c.n, c.nw) (putF (c.n, c.nw) out)) (C.drop (k + 1)) = R by rw [← HF.out, aplS_put HBAD.out HHN.out hl]; rfl)
                have HOKN := Lib.hid (okE_put HOKO.out HCB.out hl)
                have hpi := HPI.out
                rw [if_neg hl] at hpi
                simp only [← hpi] at hput
                clear hpi hl
                go_wp2
                go_quiet (fail)
                go_wp2_with fail
                refine (hput _ (HXbx.out.drewN _)).mono ?_
                rintro e w4 ⟨v4, rfl, ho, hx⟩
                have HX4 := Lib.hid ((HX2.out.drewN _).trans hx)
                have HO4 := Lib.hid (ho.le (base' := w.heap.size) (HX2.out.drewN _).size)
                obtain ⟨A4, n4, c4, rfl⟩ := ho.shape3
                clear ho hx hput
                go_wp2
                go_roundw
                case rel => exact ⟨k + 1, _, by omega, by go_num, HO4.out, HOKN.out, HQ.out, HX4.out⟩
                case measure => simp [intOf]; omega
          | true =>
            have hlp := hasE_lt' hh
            rw [HQP.out] at hlp
            rw [hh] at hfind
            have HHH := Lib.hid hh
            have hbad : badC out c = ((c.ho != true) || (out[q].2.toList != c.o.toList)) := by rw [badC, hh, HQP.out, gE_lt hlp, Bool.true_and]
            obtain ⟨go, oo, eo, _, hco⟩ := (rd_ent0 HOb.out.rd).elem HO.out.2.2 q hlp
            subst eo
            have HV := Lib.hid (show wb.cell? ⟨go, oo + q * 2 + 1, none⟩ = some (.string out[q].2) from hco 1 _ rfl)
            have hj : (0 : Int) ≤ (q : Int) := by omega
            have hj2 : (q : Int) < (out.length : Int) := by omega
            clear hco hh
            cases hho : c.ho with
            | false =>
              have HQ := Lib.hid (show (([] : List En), (4 : Int)) = R by rw [← HF.out, aplS_bad (by rw [hbad, hho]; rfl)]; rfl)
              have HHO := Lib.hid hho
              clear hF hput hbad hho
              go_wp2_with (first
                | (refine wpl_load ⟨g, o + k * 5, none⟩ [.string c.n, .bool c.ho, .string c.o, .bool c.hn, .string c.nw] aggChangeI rfl _ rfl rfl (fun j u hu => by rw [Addr.add_lit]; exact HD.out j u hu) ?_)
                | (refine wpl_storeNewB aggChangeI hst rfl rfl _ _ rfl rfl rfl rfl ?_))
              rw [← hwb]
              clear hwb d0a
              refine hfind.mono ?_
              rintro e w2 ⟨rfl, hx⟩
              have HX2 := Lib.hid (HXb.out.trans hx)
              have HO2 := Lib.hid (HOb.out.ext hx)
              have d0 := (HB8.out.ext hx).at_ 0 (v := .string c.n) rfl
              have d1 := (HB8.out.ext hx).at_ 1 (v := .bool c.ho) rfl
              have d2 := (HB8.out.ext hx).at_ 2 (v := .string c.o) rfl
              have d3 := (HB8.out.ext hx).at_ 3 (v := .bool c.hn) rfl
              have d4 := (HB8.out.ext hx).at_ 4 (v := .string c.nw) rfl
              rw [HHO.out] at d1
              clear hx
              go_wp2
              go_quiet (fail)
              go_wp2
              go_ret2
              exact ⟨_, by rw [← HQ.out]; rfl, by rw [← HQ.out]; exact Own.nil _ _ _ _, HX2.out.drewN _⟩
            | true =>
              have HHO := Lib.hid hho
              cases hv : (out[q].2.toList == c.o.toList) with
              | false =>
                have hv2 : (out[q].2.toList != c.o.toList) = true := by rw [bne, hv]; rfl
                have HQ := Lib.hid (show (([] : List En), (4 : Int)) = R by rw [← HF.out, aplS_bad (by rw [hbad, hho, hv2]; rfl)]; rfl)
                clear hF hput hbad hv2 hho
                go_wp2_with (first
                  | (refine wpl_load ⟨g, o + k * 5, none⟩ [.string c.n, .bool c.ho, .string c.o, .bool c.hn, .string c.nw] aggChangeI rfl _ rfl rfl (fun j u hu => by rw [Addr.add_lit]; exact HD.out j u hu) ?_)
                  | (refine wpl_storeNewB aggChangeI hst rfl rfl _ _ rfl rfl rfl rfl ?_))
                rw [← hwb]
                clear hwb d0a
                refine hfind.mono ?_
                rintro e w2 ⟨rfl, hx⟩
                have HX2 := Lib.hid (HXb.out.trans hx)
                have HO2 := Lib.hid (HOb.out.ext hx)
                have d0 := (HB8.out.ext hx).at_ 0 (v := .string c.n) rfl
                have d1 := (HB8.out.ext hx).at_ 1 (v := .bool c.ho) rfl
                have d2 := (HB8.out.ext hx).at_ 2 (v := .string c.o) rfl
                have d3 := (HB8.out.ext hx).at_ 3 (v := .bool c.hn) rfl
                have d4 := (HB8.out.ext hx).at_ 4 (v := .string c.nw) rfl
                rw [HHO.out] at d1
                have dv := hx.cell HV.out
                clear hx
                go_wp2
                go_quiet (fail)
                go_wp2
                go_ret2
                exact ⟨_, by rw [← HQ.out]; rfl, by rw [← HQ.out]; exact Own.nil _ _ _ _, HX2.out.drewN _⟩
              | true =>
                have hv2 : (out[q].2.toList != c.o.toList) = false := by rw [bne, hv]; rfl
                have HBAD := Lib.hid (show badC out c = false by rw [hbad, hho, hv2]; rfl)
                cases hhn : c.hn with
                | true =>
                  have HHN := Lib.hid hhn
                  clear hF hbad hv2 hho hhn
                  go_wp2_with (first
                    | (refine wpl_load ⟨g, o + k * 5, none⟩ [.string c.n, .bool c.ho, .string c.o, .bool c.hn, .string c.nw] aggChangeI rfl _ rfl rfl (fun j u hu => by rw [Addr.add_lit]; exact HD.out j u hu) ?_)
                    | (refine wpl_storeNewB aggChangeI hst rfl rfl _ _ rfl rfl rfl rfl ?_))
                  rw [← hwb]
                  clear hwb d0a
                  refine hfind.mono ?_
                  rintro e w2 ⟨rfl, hx⟩
                  have HX2 := Lib.hid (HXb.out.trans hx)
                  have HO2 := Lib.hid (HOb.out.ext hx)
                  have d0 := (HB8.out.ext hx).at_ 0 (v := .string c.n) rfl
                  have d1 := (HB8.out.ext hx).at_ 1 (v := .bool c.ho) rfl
                  have d2 := (HB8.out.ext hx).at_ 2 (v := .string c.o) rfl
                  have d3 := (HB8.out.ext hx).at_ 3 (v := .bool c.hn) rfl
                  have d4 := (HB8.out.ext hx).at_ 4 (v := .string c.nw) rfl
                  rw [HHO.out] at d1
                  rw [HHN.out] at d3
                  have dv := hx.cell HV.out
                  have HXbx := Lib.hid hx
                  clear hx
                  by_cases hl : 64 < (putEnd (c.n, c.nw) (putF (c.n, c.nw) out)).length
                  · have HQ := Lib.hid (show (([] : List En), (3 : Int)) = R by rw [← HF.out, aplS_lim HBAD.out HHN.out hl]; rfl)
                    have hpi := HPI.out
                    rw [if_pos hl] at hpi
                    simp only [← hpi] at hput
                    clear hpi hl
                    go_wp2
                    go_quiet (fail)
                    go_wp2_with fail
                    refine (hput _ (HXbx.out.drewN _)).mono ?_
                    rintro e w4 ⟨v4, rfl, ho, hx⟩
                    have HX4 := Lib.hid ((HX2.out.drewN _).trans hx)
                    obtain ⟨A4, n4, c4, rfl⟩ := ho.shape3
                    clear ho hx hput
                    go_wp2
                    go_ret2
                    exact ⟨_, by rw [← HQ.out]; rfl, by rw [← HQ.out]; exact Own.nil _ _ _ _, HX4.out⟩
                  · have HQ := Lib.hid (show aplF (putEnd (c.n, c.nw) (putF (c.n, c.nw) out)) (C.drop (k + 1)) = R by rw [← HF.out, aplS_put HBAD.out HHN.out hl]; rfl)
                    have HOKN := Lib.hid (okE_put HOKO.out HCB.out hl)
                    have hpi := HPI.out
                    rw [if_neg hl] at hpi
                    simp only [← hpi] at hput
                    clear hpi hl
                    go_wp2
                    go_quiet (fail)
                    go_wp2_with fail
                    refine (hput _ (HXbx.out.drewN _)).mono ?_
                    rintro e w4 ⟨v4, rfl, ho, hx⟩
                    have HX4 := Lib.hid ((HX2.out.drewN _).trans hx)
                    have HO4 := Lib.hid (ho.le (base' := w.heap.size) (HX2.out.drewN _).size)
                    obtain ⟨A4, n4, c4, rfl⟩ := ho.shape3
                    clear ho hx hput
                    go_wp2
                    go_roundw
                    case rel => exact ⟨k + 1, _, by omega, by go_num, HO4.out, HOKN.out, HQ.out, HX4.out⟩
                    case measure => simp [intOf]; omega
                | false =>
                  have HQ := Lib.hid (show aplF (out.filter (notN c.n)) (C.drop (k + 1)) = R by rw [← HF.out, aplS_del HBAD.out hhn]; rfl)
                  have HOKN := Lib.hid (okE_del (s := c.n) HOKO.out)
                  have HDF := Lib.hid (del_filter hinc.1 HHH.out)
                  have HHN := Lib.hid hhn
                  have h64 := hinc.2
                  have hq1 : IntKind.i64.wrap ((q : Int) + 1) = (q : Int) + 1 := by rw [IntKind.wrap_i64]; omega
                  clear hF hput hbad hv2 hho hhn
                  go_wp2_with (first
                    | (refine wpl_load ⟨g, o + k * 5, none⟩ [.string c.n, .bool c.ho, .string c.o, .bool c.hn, .string c.nw] aggChangeI rfl _ rfl rfl (fun j u hu => by rw [Addr.add_lit]; exact HD.out j u hu) ?_)
                    | (refine wpl_storeNewB aggChangeI hst rfl rfl _ _ rfl rfl rfl rfl ?_))
                  rw [← hwb]
                  clear hwb d0a
                  refine hfind.mono ?_
                  rintro e w2 ⟨rfl, hx⟩
                  have HX2 := Lib.hid (HXb.out.trans hx)
                  have HO2 := Lib.hid (HOb.out.ext hx)
                  have d0 := (HB8.out.ext hx).at_ 0 (v := .string c.n) rfl
                  have d1 := (HB8.out.ext hx).at_ 1 (v := .bool c.ho) rfl
                  have d2 := (HB8.out.ext hx).at_ 2 (v := .string c.o) rfl
                  have d3 := (HB8.out.ext hx).at_ 3 (v := .bool c.hn) rfl
                  have d4 := (HB8.out.ext hx).at_ 4 (v := .string c.nw) rfl
                  rw [HHO.out] at d1
                  rw [HHN.out] at d3
                  have dv := hx.cell HV.out
                  clear hx
                  go_wp2
                  go_quiet (fail)
                  go_wp2_with fail
                  refine (sdel_any _ out q _ w.heap.size (HO2.out.drewN _) hlp h64).mono ?_
                  rintro e w4 ⟨v4, rfl, ho, hg4⟩
                  have HX4 := Lib.hid ((HX2.out.drewN _).grown hg4 (fun k hk => (HO2.out.base_le k hk).1))
                  have HO4 := Lib.hid ho
                  obtain ⟨A4, n4, c4, rfl⟩ := ho.shape3
                  rw [HQP.out] at HDF
                  rw [← HDF.out] at HO4
                  clear ho hg4
                  go_wp2
                  go_roundw
                  case rel => exact ⟨k + 1, _, by omega, by go_num, HO4.out, HOKN.out, HQ.out, HX4.out⟩
                  case measure => simp [intOf]; omega
        · obtain rfl : k = C.length := by omega
          rw [List.drop_eq_nil_of_le (Nat.le_refl _), aplF_nil] at hF
          have HQ := Lib.hid hF
          clear hF
          go_wp2
          go_ret2
          exact ⟨_, by rw [← HQ.out]; rfl, by rw [← HQ.out]; exact HO.out, HX.out⟩
end Go.Proofs.Ytmndkbheehcoaaa
/- Whether a byte string is too long for a law. No condition. -/
namespace Go.Proofs.Ytmndkbheehcoaaa
open Go.RowKit
set_option linter.unusedVariables false
set_option linter.unusedSimpArgs false
set_option maxHeartbeats 1000000 in
set_option maxRecDepth 100000 in
theorem f6big_no (A : Option Addr) (n c : Nat) (w : World) (h : ¬ 4096 < n) : Calls Try.prog 34 #[.slice A n c] w fun e w' => e = .returned (.bool false) ∧ w = w' := by
  have h := f6big_any A n c w
  rwa [decide_eq_false (by omega)] at h
set_option maxHeartbeats 1000000 in
set_option maxRecDepth 100000 in
theorem f6big_yes (A : Option Addr) (n c : Nat) (w : World) (h : 4096 < n) : Calls Try.prog 34 #[.slice A n c] w fun e w' => e = .returned (.bool true) ∧ w = w' := by
  have h := f6big_any A n c w
  rwa [decide_eq_true (by omega)] at h
end Go.Proofs.Ytmndkbheehcoaaa
/- Changes held against each other. No condition. -/
namespace Go.Proofs.Ytmndkbheehcoaaa
open Go.RowKit
set_option linter.unusedVariables false
set_option linter.unusedSimpArgs false

theorem st_chg (x : Chg) : St 5 (tChg.enc x).toArray := ⟨rfl, fun u hu => tChg.one x u (by simpa using hu)⟩
theorem fieldsCh : ∃ f0 f1 f2 f3 f4 : Field, (Try.prog.fieldsOf 90).toList = [f0, f1, f2, f3, f4] ∧ (f0.name ≠ "_" ∧ f0.type = 9 ∧ f0.offset = 0) ∧ (f1.name ≠ "_" ∧ f1.type = 4 ∧ f1.offset = 1) ∧ (f2.name ≠ "_" ∧ f2.type = 9 ∧ f2.offset = 2) ∧ (f3.name ≠ "_" ∧ f3.type = 4 ∧ f3.offset = 3) ∧ (f4.name ≠ "_" ∧ f4.type = 9 ∧ f4.offset = 4) := by
  simp only [Program.fieldsOf, Try.underlying90]
  exact ⟨_, _, _, _, _, rfl, ⟨by decide, rfl, rfl⟩, ⟨by decide, rfl, rfl⟩, ⟨by decide, rfl, rfl⟩, ⟨by decide, rfl, rfl⟩, by decide, rfl, rfl⟩
/-- a change is not unlike itself -/
theorem run_equalCh (d : Nat) (x : Chg) (W : World) : (Op.equalIn (d + 1 + 1) 90 (.agg (tChg.enc x).toArray) (.agg (tChg.enc x).toArray)).run Try.prog W = .ok true W := by
  show (Op.equalIn (d + 1 + 1) 90 (.agg #[.string x.n, .bool x.ho, .string x.o, .bool x.hn, .string x.nw]) (.agg #[.string x.n, .bool x.ho, .string x.o, .bool x.hn, .string x.nw])).run Try.prog W = _
  rw [run_equalIn_agg (P := Try.prog) W (d + 1) 90 _ _ (by kernel_rfl) (by kernel_rfl)]
  obtain ⟨f0, f1, f2, f3, f4, e, ⟨n0, t0, o0⟩, ⟨n1, t1, o1⟩, ⟨n2, t2, o2⟩, ⟨n3, t3, o3⟩, n4, t4, o4⟩ := fieldsCh
  have s0 := part_one 9 #[.string x.n, .bool x.ho, .string x.o, .bool x.hn, .string x.nw] 0 (.string x.n) W (by kernel_rfl) rfl
  have s1 := part_one 4 #[.string x.n, .bool x.ho, .string x.o, .bool x.hn, .string x.nw] 1 (.bool x.ho) W (by kernel_rfl) rfl
  have s2 := part_one 9 #[.string x.n, .bool x.ho, .string x.o, .bool x.hn, .string x.nw] 2 (.string x.o) W (by kernel_rfl) rfl
  have s3 := part_one 4 #[.string x.n, .bool x.ho, .string x.o, .bool x.hn, .string x.nw] 3 (.bool x.hn) W (by kernel_rfl) rfl
  have s4 := part_one 9 #[.string x.n, .bool x.ho, .string x.o, .bool x.hn, .string x.nw] 4 (.string x.nw) W (by kernel_rfl) rfl
  have q0 := run_equalIn_string (P := Try.prog) W d 9 x.n x.n (by kernel_rfl)
  have q1 := run_equalIn_bool (P := Try.prog) W d 4 x.ho x.ho (by kernel_rfl)
  have q2 := run_equalIn_string (P := Try.prog) W d 9 x.o x.o (by kernel_rfl)
  have q3 := run_equalIn_bool (P := Try.prog) W d 4 x.hn x.hn (by kernel_rfl)
  have q4 := run_equalIn_string (P := Try.prog) W d 9 x.nw x.nw (by kernel_rfl)
  rw [beq_self_eq_true] at q0 q1 q2 q3 q4
  rw [← t0] at s0 q0
  rw [← t1] at s1 q1
  rw [← t2] at s2 q2
  rw [← t3] at s3 q3
  rw [← t4] at s4 q4
  rw [← o0] at s0
  rw [← o1] at s1
  rw [← o2] at s2
  rw [← o3] at s3
  rw [← o4] at s4
  rw [e, eqF_cons W n0 s0 s0 q0, if_pos rfl, eqF_cons W n1 s1 s1 q1, if_pos rfl, eqF_cons W n2 s2 s2 q2, if_pos rfl, eqF_cons W n3 s3 s3 q3, if_pos rfl, eqF_cons W n4 s4 s4 q4, if_pos rfl, eqF_nil]
theorem run_neqCh (x : Chg) (W : World) : (binOp .neq 90 (.agg (tChg.enc x).toArray) (.agg (tChg.enc x).toArray)).run Try.prog W = .ok (.bool false) W := by
  rw [run_neq_struct, show (10000 : Nat) = 9998 + 1 + 1 from rfl, run_equalCh 9998 x W]; rfl
end Go.Proofs.Ytmndkbheehcoaaa
/- The walk of the law FnChanges. No condition. -/
namespace Go.Proofs.Ytmndkbheehcoaaa
open Go.RowKit
set_option linter.unusedVariables false
set_option linter.unusedSimpArgs false

set_option maxHeartbeats 16000000 in
set_option maxRecDepth 100000 in
theorem FnChanges_any (w : World) (v0 : Value) (x0 : List Int) (S0 : Nat → Prop) (h0 : RdL tByte w S0 v0 x0) (v1 : Value) (x1 : List Int) (S1 : Nat → Prop) (h1 : RdL tByte w S1 v1 x1) :
    Calls Try.prog 11 #[v0, v1] w fun e w' => e = .returned (.bool true) ∧ Ext w w' := by
  obtain ⟨A0, cap0, rfl, _⟩ := id h0
  obtain ⟨A1, cap1, rfl, _⟩ := id h1
  have H0 := Lib.hid h0
  have H1 := Lib.hid h1
  clear h0 h1
  by_cases hb0 : 4096 < x0.length
  · go_enter Try.func11, Try.ntmps11
    go_wp2_with fail
    refine (f6big_yes _ _ _ _ hb0).mono ?_
    rintro e w1 ⟨rfl, rfl⟩
    go_wp2
    go_ret
    exact ⟨rfl, Ext.refl _⟩
  by_cases hb1 : 4096 < x1.length
  · go_enter Try.func11, Try.ntmps11
    go_wp2_with fail
    refine (f6big_no _ _ _ _ hb0).mono ?_
    rintro e w1 ⟨rfl, rfl⟩
    go_wp2_with fail
    refine (f6big_yes _ _ _ _ hb1).mono ?_
    rintro e w1 ⟨rfl, rfl⟩
    go_wp2
    go_ret
    exact ⟨rfl, Ext.refl _⟩
  go_enter Try.func11, Try.ntmps11
  go_wp2_with fail
  refine (f6big_no _ _ _ _ hb0).mono ?_
  rintro e w1 ⟨rfl, rfl⟩
  go_wp2_with fail
  refine (f6big_no _ _ _ _ hb1).mono ?_
  rintro e w1 ⟨rfl, rfl⟩
  clear hb0 hb1
  go_wp2_with fail
  refine (p6Map_any _ x0 8 (by decide) _ _ (H0.out.ext (by decide) (Ext.refl _))).mono ?_
  rintro e w1 ⟨vA, A, rfl, ho, hAk, hAl, hx⟩
  skip
  have XW := Lib.hid hx
  obtain ⟨AA, cA, rfl⟩ := ho.shape
  have OA := Lib.hid ho.rd
  clear ho
  clear hx
  have HAk := Lib.hid hAk
  have HAl := Lib.hid hAl
  have HAo := Lib.hid (show ∀ e ∈ A, tEnt.ok e from OA.out.choose_spec.choose_spec.2.2.2.2)
  clear hAk hAl
  go_wp2_with fail
  refine (p6Other_any _ _ x1 A HAk.out (by have := HAl.out; omega) _ _ _ (H1.out.ext (by decide) XW.out) OA.out).mono ?_
  rintro e w2 ⟨vB, B, rfl, ho, hBk, hBl, hx⟩
  skip
  replace OA := Lib.hid (OA.out.ext (by decide) hx)
  replace XW := Lib.hid (XW.out.trans hx)
  obtain ⟨AB, cB, rfl⟩ := ho.shape
  have OB := Lib.hid ho.rd
  clear ho
  clear hx
  have HBk := Lib.hid hBk
  obtain ⟨D, hch, hDl, hD0, hap, hat, hbad⟩ := chg_facts HAk.out HBk.out (by have := HAl.out; omega)
  have HCH := Lib.hid hch
  have HDL := Lib.hid hDl
  have HAP := Lib.hid hap
  have HAT := Lib.hid hat
  have HSF := Lib.hid (shar_self HAk.out HAo.out)
  obtain ⟨n5, hn5⟩ : ∃ n5, sharR A B = (n5, 0) := ⟨_, by rw [sharR, HAk.out, HBk.out]; rfl⟩
  have HSH := Lib.hid hn5
  have hq1 : (n5 != n5) = false := by simp
  have hq2 : ((D.length : Int) != (D.length : Int)) = false := by simp
  have hq3 : ((A.length : Int) != (A.length : Int)) = false := by simp
  clear hBk hBl hch hDl hap hat hn5
  go_wp2_with fail
  refine (implChangesOf_any _ _ A B _ _ _ OA.out OB.out).mono ?_
  rintro e w3 ⟨vL, he, ho, hx⟩
  skip
  rw [HCH.out] at he ho
  subst he
  dsimp only at ho
  replace OA := Lib.hid (OA.out.ext (by decide) hx)
  replace OB := Lib.hid (OB.out.ext (by decide) hx)
  replace XW := Lib.hid (XW.out.trans hx)
  obtain ⟨AL, cL, rfl⟩ := ho.shape
  have OL := Lib.hid ho.rd
  clear ho
  clear hx
  go_wp2_with fail
  refine (specChangesOf_any _ _ A B _ _ _ OA.out OB.out).mono ?_
  rintro e w4 ⟨vD, he, ho, hx⟩
  skip
  rw [HCH.out] at he ho
  subst he
  dsimp only at ho
  replace OA := Lib.hid (OA.out.ext (by decide) hx)
  replace OB := Lib.hid (OB.out.ext (by decide) hx)
  replace OL := Lib.hid (OL.out.ext (by decide) hx)
  replace XW := Lib.hid (XW.out.trans hx)
  obtain ⟨AD, cD, rfl⟩ := ho.shape
  have OD := Lib.hid ho.rd
  clear ho
  clear hx
  by_cases h0 : D.length = 0
  · have HDEC := Lib.hid (show decide (A = B) = true from decide_eq_true (hD0.1 h0))
    have hz : ((D.length : Int) == 0) = true := by rw [h0]; rfl
    clear hD0 h0 hbad
    go_wp2_with fail
    refine (specSameEntries_any _ _ A B _ _ _ OA.out OB.out).mono ?_
    rintro e w5 ⟨he, hx⟩
    skip
    rw [HDEC.out] at he
    subst he
    replace OA := Lib.hid (OA.out.ext (by decide) hx)
    replace OB := Lib.hid (OB.out.ext (by decide) hx)
    replace OL := Lib.hid (OL.out.ext (by decide) hx)
    replace OD := Lib.hid (OD.out.ext (by decide) hx)
    replace XW := Lib.hid (XW.out.trans hx)
    clear hx
    go_wp2_with fail
    go_loopw [11, 12] (fun o i wr => ∃ k : Nat, k ≤ D.length ∧ i = .int .i64 k ∧ Own tChg 90 wr w5.heap.size o ((D.take k).map turnC) ∧ Ext w5 wr) (fun _ i _ => D.length - (intOf i).toNat)
    case atStart => exact ⟨0, by omega, rfl, by rw [List.take_zero]; exact Own.empty tChg _ 90 _ (Nat.le_refl _), ext_alloc _ _⟩
    case round =>
      obtain ⟨k, hk, rfl, ho, hx⟩ := hrel
      have XL := Lib.hid hx
      have HO := Lib.hid ho
      obtain ⟨C, cn, cc, rfl⟩ := ho.shape3
      clear hx ho
      replace OA := Lib.hid (OA.out.ext (by decide) XL.out)
      replace OB := Lib.hid (OB.out.ext (by decide) XL.out)
      replace OL := Lib.hid (OL.out.ext (by decide) XL.out)
      replace OD := Lib.hid (OD.out.ext (by decide) XL.out)
      replace XW := Lib.hid (XW.out.trans XL.out)
      by_cases hlt : k < D.length
      · have hDK : D.take (k + 1) = D.take k ++ [D[k]] := List.take_succ_eq_append_getElem hlt
        have hTL : ((D.take k).map turnC).length = k := by rw [List.length_map, List.length_take]; omega
        obtain ⟨Ax, cx, ex, _, _, hrdx, hokx⟩ := id OL.out
        obtain ⟨fx, _, hx⟩ := Value.slice.inj ex
        subst fx hx
        obtain ⟨g, o, rfl, _, hcx⟩ := hrdx.elem hokx k hlt
        have hOX : tChg.ok D[k] := hokx _ (List.getElem_mem hlt)
        have hNX : ∀ W, Ext wr W → ∀ j u, (tChg.enc D[k])[j]? = some u → W.cell? ⟨g, o + k * 5 + j, none⟩ = some u := fun W hW j u hu => hW.cell (hcx j u hu)
        clear ex hrdx hokx hcx
        obtain ⟨Ay, cy, ey, _, _, hrdy, hoky⟩ := id OD.out
        obtain ⟨fy, _, hy⟩ := Value.slice.inj ey
        subst fy hy
        obtain ⟨g2, o2, rfl, _, hcy⟩ := hrdy.elem hoky k hlt
        have hOY : tChg.ok D[k] := hoky _ (List.getElem_mem hlt)
        have hNY : ∀ W, Ext wr W → ∀ j u, (tChg.enc D[k])[j]? = some u → W.cell? ⟨g2, o2 + k * 5 + j, none⟩ = some u := fun W hW j u hu => hW.cell (hcy j u hu)
        clear ey hrdy hoky hcy
        generalize D[k] = x at hOX hNX hOY hNY hDK
        have HDK := Lib.hid hDK
        have HTL := Lib.hid hTL
        have HXO := Lib.hid hOX
        have HNX := Lib.hid hNX
        have HNY := Lib.hid hNY
        have HST := Lib.hid (show St 5 (tChg.enc x).toArray from st_chg x)
        have HTO := Lib.hid (show tChg.ok (turnC x) from ⟨hOX.1, hOX.2.2, hOX.2.1⟩)
        have hq := run_neqCh x
        have hi : (0 : Int) ≤ (k : Int) := by omega
        have hi2 : (k : Int) < (D.length : Int) := by omega
        clear hOX hNX hOY hNY hDK hTL
        have XY := Lib.hid (Ext.refl wr)
        go_wp2_with fail
        refine wp_region_held_drew (S := fun W => Ext wr W) (by kernel_rfl) (Ext.refl _).drew (fun hHeld => ?_)
        refine wpAnyH_take (i := 0) (oi := ?oiz1) (v := ?vz1) ?hiz1 (by kernel_rfl) (by kernel_rfl) (by kernel_rfl) ?hQz1 ?hyz1 (by assumption) ?restz1
        case hiz1 => simp only [List.getElem?_toArray, List.getElem?_cons_zero, List.getElem?_cons_succ]; rfl
        case hQz1 => exact fun _ _ _ h => h
        case hyz1 => exact Or.inl ⟨by rfl, by intro w hSw; (try dsimp only at hSw); go_simp; with_reducible rfl⟩
        try simp only [Act.put, List.setIfInBounds_toArray, List.set_cons_zero, List.set_cons_succ]
        refine wpAnyH_take (i := 1) (oi := ?oiz2) (v := ?vz2) ?hiz2 (by kernel_rfl) (by kernel_rfl) (by kernel_rfl) ?hQz2 ?hyz2 (by assumption) ?restz2
        case hiz2 => simp only [List.getElem?_toArray, List.getElem?_cons_zero, List.getElem?_cons_succ]; rfl
        case hQz2 => exact fun _ _ _ h => h
        case hyz2 => exact Or.inl ⟨by rfl, by intro w hSw; (try dsimp only at hSw); go_simp; with_reducible rfl⟩
        try simp only [Act.put, List.setIfInBounds_toArray, List.set_cons_zero, List.set_cons_succ]
        refine wpAnyH_take (i := 2) (oi := ?oiz3) (v := ?vz3) ?hiz3 (by kernel_rfl) (by kernel_rfl) (by kernel_rfl) ?hQz3 ?hyz3 (by assumption) ?restz3
        case hiz3 => simp only [List.getElem?_toArray, List.getElem?_cons_zero, List.getElem?_cons_succ]; rfl
        case hQz3 => exact fun _ _ _ h => h
        case hyz3 => exact Or.inl ⟨by rfl, by intro w hSw; (try dsimp only at hSw); go_simp; with_reducible rfl⟩
        try simp only [Act.put, List.setIfInBounds_toArray, List.set_cons_zero, List.set_cons_succ]
        refine wpAnyH_take (i := 3) (oi := ?oiz4) (v := (.agg (tChg.enc x).toArray)) ?hiz4 (by kernel_rfl) (by kernel_rfl) (by kernel_rfl) ?hQz4 ?hyz4 (by assumption) ?restz4
        case hiz4 => simp only [List.getElem?_toArray, List.getElem?_cons_zero, List.getElem?_cons_succ]; rfl
        case hQz4 => exact fun _ _ _ h => h
        case hyz4 => refine yields_loadS g (o + k * 5) (tChg.enc x) aggChangeI (fun W hW => HNX.out W hW) ?_ _ rfl rfl; rfl
        try simp only [Act.put, List.setIfInBounds_toArray, List.set_cons_zero, List.set_cons_succ]
        refine wpAnyH_take (i := 4) (oi := ?oiz5) (v := ?vz5) ?hiz5 (by kernel_rfl) (by kernel_rfl) (by kernel_rfl) ?hQz5 ?hyz5 (by assumption) ?restz5
        case hiz5 => simp only [List.getElem?_toArray, List.getElem?_cons_zero, List.getElem?_cons_succ]; rfl
        case hQz5 => exact fun _ _ _ h => h
        case hyz5 => exact Or.inl ⟨by rfl, by intro w hSw; (try dsimp only at hSw); go_simp; with_reducible rfl⟩
        try simp only [Act.put, List.setIfInBounds_toArray, List.set_cons_zero, List.set_cons_succ]
        refine wpAnyH_take (i := 5) (oi := ?oiz6) (v := ?vz6) ?hiz6 (by kernel_rfl) (by kernel_rfl) (by kernel_rfl) ?hQz6 ?hyz6 (by assumption) ?restz6
        case hiz6 => simp only [List.getElem?_toArray, List.getElem?_cons_zero, List.getElem?_cons_succ]; rfl
        case hQz6 => exact fun _ _ _ h => h
        case hyz6 => exact Or.inl ⟨by rfl, by intro w hSw; (try dsimp only at hSw); go_simp; with_reducible rfl⟩
        try simp only [Act.put, List.setIfInBounds_toArray, List.set_cons_zero, List.set_cons_succ]
        refine wpAnyH_take (i := 6) (oi := ?oiz7) (v := ?vz7) ?hiz7 (by kernel_rfl) (by kernel_rfl) (by kernel_rfl) ?hQz7 ?hyz7 (by assumption) ?restz7
        case hiz7 => simp only [List.getElem?_toArray, List.getElem?_cons_zero, List.getElem?_cons_succ]; rfl
        case hQz7 => exact fun _ _ _ h => h
        case hyz7 => exact Or.inl ⟨by rfl, by intro w hSw; (try dsimp only at hSw); go_simp; with_reducible rfl⟩
        try simp only [Act.put, List.setIfInBounds_toArray, List.set_cons_zero, List.set_cons_succ]
        refine wpAnyH_take (i := 7) (oi := ?oiz8) (v := (.agg (tChg.enc x).toArray)) ?hiz8 (by kernel_rfl) (by kernel_rfl) (by kernel_rfl) ?hQz8 ?hyz8 (by assumption) ?restz8
        case hiz8 => simp only [List.getElem?_toArray, List.getElem?_cons_zero, List.getElem?_cons_succ]; rfl
        case hQz8 => exact fun _ _ _ h => h
        case hyz8 => refine yields_loadS g2 (o2 + k * 5) (tChg.enc x) aggChangeI (fun W hW => HNY.out W hW) ?_ _ rfl rfl; rfl
        try simp only [Act.put, List.setIfInBounds_toArray, List.set_cons_zero, List.set_cons_succ]
        refine wpAnyH_take (i := 8) (oi := ?oiz9) (v := ?vz9) ?hiz9 (by kernel_rfl) (by kernel_rfl) (by kernel_rfl) ?hQz9 ?hyz9 (by assumption) ?restz9
        case hiz9 => simp only [List.getElem?_toArray, List.getElem?_cons_zero, List.getElem?_cons_succ]; rfl
        case hQz9 => exact fun _ _ _ h => h
        case hyz9 => exact Or.inl ⟨by rfl, by intro w hSw; (try dsimp only at hSw); go_simp; with_reducible rfl⟩
        try simp only [Act.put, List.setIfInBounds_toArray, List.set_cons_zero, List.set_cons_succ]
        refine wpAnyH_done (by kernel_rfl) ?_ _
        generalize World.drew wr = wd at hHeld ⊢
        replace OA := Lib.hid (OA.out.ext (by decide) hHeld)
        replace OB := Lib.hid (OB.out.ext (by decide) hHeld)
        replace OL := Lib.hid (OL.out.ext (by decide) hHeld)
        replace OD := Lib.hid (OD.out.ext (by decide) hHeld)
        replace XL := Lib.hid (XL.out.trans hHeld)
        replace HO := Lib.hid (HO.out.ext hHeld)
        replace XY := Lib.hid (XY.out.trans hHeld)
        replace XW := Lib.hid (XW.out.trans hHeld)
        clear hHeld
        have hc0 : (World.alloc wd (.cells (tChg.enc x).toArray 90)).cell? ⟨wd.heap.size, 0, none⟩ = some (.string x.n) := (Blk.new wd _ _).at_ 0 rfl
        have hc1 : (World.alloc wd (.cells (tChg.enc x).toArray 90)).cell? ⟨wd.heap.size, 1, none⟩ = some (.bool x.ho) := (Blk.new wd _ _).at_ 1 rfl
        have hc2 : (World.alloc wd (.cells (tChg.enc x).toArray 90)).cell? ⟨wd.heap.size, 2, none⟩ = some (.string x.o) := (Blk.new wd _ _).at_ 2 rfl
        have hc3 : (World.alloc wd (.cells (tChg.enc x).toArray 90)).cell? ⟨wd.heap.size, 3, none⟩ = some (.bool x.hn) := (Blk.new wd _ _).at_ 3 rfl
        have hc4 : (World.alloc wd (.cells (tChg.enc x).toArray 90)).cell? ⟨wd.heap.size, 4, none⟩ = some (.string x.nw) := (Blk.new wd _ _).at_ 4 rfl
        have hrd1 := rd_one (T := tChg) (World.alloc wd (.cells (tChg.enc x).toArray 90)) (turnC x) HTO.out 90
        rw [size_alloc] at hrd1
        have HRD1 := Lib.hid hrd1
        clear hrd1
        go_wp2_with (first
          | (refine wpl_load ⟨g2, o2 + k * 5, none⟩ (tChg.enc x) aggChangeI rfl _ rfl rfl (fun j u hu => by rw [Addr.add_lit]; exact HNY.out _ XY.out j u hu) ?_)
          | (refine wpl_storeNewB aggChangeI HST.out rfl rfl _ _ rfl rfl rfl rfl ?_)
          | (at_builtin; go_loud (refine wpl_append rowChg rfl _ _ rfl (v := .slice C cn cc) rfl ((HO.out.alloc (.cells (tChg.enc x).toArray 90)).alloc (.cells (tChg.enc (turnC x)).toArray 90)) _ _ rfl (A := some ⟨wd.heap.size + 1, 0, none⟩) (ys := [turnC x]) rfl HRD1.out (by intro y hy; obtain rfl := List.mem_singleton.1 hy; exact HTO.out) (by have := HDL.out; rw [HTL.out]; simp; omega) ((XL.out.alloc _).alloc _).size ?_); intro v9 w9 ho1 hg1 hat1; have HX9 := Lib.hid (((HO.out.alloc (.cells (tChg.enc x).toArray 90)).alloc (.cells (tChg.enc (turnC x)).toArray 90)).ext_app ((XL.out.alloc _).alloc _) hg1); have HO9 := Lib.hid ho1; clear ho1 hg1 hat1))
        go_roundw
        case rel => exact ⟨k + 1, by omega, by go_num, by rw [HDK.out, List.map_append]; exact HO9.out, HX9.out⟩
        case measure => simp [intOf]; omega
      · obtain rfl : k = D.length := by omega
        rw [List.take_length] at HO
        have OT := Lib.hid HO.out.rd
        clear HO
        go_wp2_with fail
        refine (implApply_any _ _ A D _ _ _ OA.out OD.out).mono ?_
        rintro e w6 ⟨vP, he, ho, hx⟩
        skip
        rw [HAP.out] at he ho
        subst he
        dsimp only at ho
        replace OA := Lib.hid (OA.out.ext (by decide) hx)
        replace OB := Lib.hid (OB.out.ext (by decide) hx)
        replace OL := Lib.hid (OL.out.ext (by decide) hx)
        replace OD := Lib.hid (OD.out.ext (by decide) hx)
        replace XL := Lib.hid (XL.out.trans hx)
        replace OT := Lib.hid (OT.out.ext (by decide) hx)
        replace XW := Lib.hid (XW.out.trans hx)
        obtain ⟨AP, cP, rfl⟩ := ho.shape
        have OP := Lib.hid ho.rd
        clear ho
        clear hx
        go_wp2_with fail
        refine (implApply_any _ _ B (D.map turnC) _ _ _ OB.out OT.out).mono ?_
        rintro e w7 ⟨vQ, he, ho, hx⟩
        skip
        rw [HAT.out] at he ho
        subst he
        dsimp only at ho
        replace OA := Lib.hid (OA.out.ext (by decide) hx)
        replace OB := Lib.hid (OB.out.ext (by decide) hx)
        replace OL := Lib.hid (OL.out.ext (by decide) hx)
        replace OD := Lib.hid (OD.out.ext (by decide) hx)
        replace XL := Lib.hid (XL.out.trans hx)
        replace OT := Lib.hid (OT.out.ext (by decide) hx)
        replace OP := Lib.hid (OP.out.ext (by decide) hx)
        replace XW := Lib.hid (XW.out.trans hx)
        obtain ⟨AQ, cQ, rfl⟩ := ho.shape
        have OQ := Lib.hid ho.rd
        clear ho
        clear hx
        go_wp2_with fail
        refine (implShared_any _ _ A A _ _ _ OA.out OA.out).mono ?_
        rintro e w8 ⟨he, hx⟩
        skip
        rw [HSF.out] at he
        subst he
        replace OA := Lib.hid (OA.out.ext (by decide) hx)
        replace OB := Lib.hid (OB.out.ext (by decide) hx)
        replace OL := Lib.hid (OL.out.ext (by decide) hx)
        replace OD := Lib.hid (OD.out.ext (by decide) hx)
        replace XL := Lib.hid (XL.out.trans hx)
        replace OT := Lib.hid (OT.out.ext (by decide) hx)
        replace OP := Lib.hid (OP.out.ext (by decide) hx)
        replace OQ := Lib.hid (OQ.out.ext (by decide) hx)
        replace XW := Lib.hid (XW.out.trans hx)
        clear hx
        go_wp2_with fail
        refine (implShared_any _ _ A B _ _ _ OA.out OB.out).mono ?_
        rintro e w9 ⟨he, hx⟩
        skip
        rw [HSH.out] at he
        subst he
        replace OA := Lib.hid (OA.out.ext (by decide) hx)
        replace OB := Lib.hid (OB.out.ext (by decide) hx)
        replace OL := Lib.hid (OL.out.ext (by decide) hx)
        replace OD := Lib.hid (OD.out.ext (by decide) hx)
        replace XL := Lib.hid (XL.out.trans hx)
        replace OT := Lib.hid (OT.out.ext (by decide) hx)
        replace OP := Lib.hid (OP.out.ext (by decide) hx)
        replace OQ := Lib.hid (OQ.out.ext (by decide) hx)
        replace XW := Lib.hid (XW.out.trans hx)
        clear hx
        go_wp2_with fail
        refine (specShared_any _ _ A B _ _ _ OA.out OB.out).mono ?_
        rintro e w10 ⟨he, hx⟩
        skip
        rw [HSH.out] at he
        subst he
        replace OA := Lib.hid (OA.out.ext (by decide) hx)
        replace OB := Lib.hid (OB.out.ext (by decide) hx)
        replace OL := Lib.hid (OL.out.ext (by decide) hx)
        replace OD := Lib.hid (OD.out.ext (by decide) hx)
        replace XL := Lib.hid (XL.out.trans hx)
        replace OT := Lib.hid (OT.out.ext (by decide) hx)
        replace OP := Lib.hid (OP.out.ext (by decide) hx)
        replace OQ := Lib.hid (OQ.out.ext (by decide) hx)
        replace XW := Lib.hid (XW.out.trans hx)
        clear hx
        go_wp2_with fail
        refine (specSameEntries_any _ _ B B _ _ _ OP.out OB.out).mono ?_
        rintro e w11 ⟨he, hx⟩
        skip
        rw [decide_eq_true rfl] at he
        subst he
        replace OA := Lib.hid (OA.out.ext (by decide) hx)
        replace OB := Lib.hid (OB.out.ext (by decide) hx)
        replace OL := Lib.hid (OL.out.ext (by decide) hx)
        replace OD := Lib.hid (OD.out.ext (by decide) hx)
        replace XL := Lib.hid (XL.out.trans hx)
        replace OT := Lib.hid (OT.out.ext (by decide) hx)
        replace OP := Lib.hid (OP.out.ext (by decide) hx)
        replace OQ := Lib.hid (OQ.out.ext (by decide) hx)
        replace XW := Lib.hid (XW.out.trans hx)
        clear hx
        go_wp2_with fail
        refine (specSameEntries_any _ _ A A _ _ _ OQ.out OA.out).mono ?_
        rintro e w12 ⟨he, hx⟩
        skip
        rw [decide_eq_true rfl] at he
        subst he
        replace OA := Lib.hid (OA.out.ext (by decide) hx)
        replace OB := Lib.hid (OB.out.ext (by decide) hx)
        replace OL := Lib.hid (OL.out.ext (by decide) hx)
        replace OD := Lib.hid (OD.out.ext (by decide) hx)
        replace XL := Lib.hid (XL.out.trans hx)
        replace OT := Lib.hid (OT.out.ext (by decide) hx)
        replace OP := Lib.hid (OP.out.ext (by decide) hx)
        replace OQ := Lib.hid (OQ.out.ext (by decide) hx)
        replace XW := Lib.hid (XW.out.trans hx)
        clear hx
        go_wp2_with fail
        go_ret
        exact ⟨rfl, XW.out⟩
  · have HDEC := Lib.hid (show decide (A = B) = false from decide_eq_false (fun e => h0 (hD0.2 e)))
    have hz : ((D.length : Int) == 0) = false := by rw [beq_eq_false_iff_ne]; omega
    have HBAD := Lib.hid (hbad h0)
    clear hD0 h0 hbad
    go_wp2_with fail
    refine (specSameEntries_any _ _ A B _ _ _ OA.out OB.out).mono ?_
    rintro e w5 ⟨he, hx⟩
    skip
    rw [HDEC.out] at he
    subst he
    replace OA := Lib.hid (OA.out.ext (by decide) hx)
    replace OB := Lib.hid (OB.out.ext (by decide) hx)
    replace OL := Lib.hid (OL.out.ext (by decide) hx)
    replace OD := Lib.hid (OD.out.ext (by decide) hx)
    replace XW := Lib.hid (XW.out.trans hx)
    clear hx
    go_wp2_with fail
    go_loopw [11, 12] (fun o i wr => ∃ k : Nat, k ≤ D.length ∧ i = .int .i64 k ∧ Own tChg 90 wr w5.heap.size o ((D.take k).map turnC) ∧ Ext w5 wr) (fun _ i _ => D.length - (intOf i).toNat)
    case atStart => exact ⟨0, by omega, rfl, by rw [List.take_zero]; exact Own.empty tChg _ 90 _ (Nat.le_refl _), ext_alloc _ _⟩
    case round =>
      obtain ⟨k, hk, rfl, ho, hx⟩ := hrel
      have XL := Lib.hid hx
      have HO := Lib.hid ho
      obtain ⟨C, cn, cc, rfl⟩ := ho.shape3
      clear hx ho
      replace OA := Lib.hid (OA.out.ext (by decide) XL.out)
      replace OB := Lib.hid (OB.out.ext (by decide) XL.out)
      replace OL := Lib.hid (OL.out.ext (by decide) XL.out)
      replace OD := Lib.hid (OD.out.ext (by decide) XL.out)
      replace XW := Lib.hid (XW.out.trans XL.out)
      by_cases hlt : k < D.length
      · have hDK : D.take (k + 1) = D.take k ++ [D[k]] := List.take_succ_eq_append_getElem hlt
        have hTL : ((D.take k).map turnC).length = k := by rw [List.length_map, List.length_take]; omega
        obtain ⟨Ax, cx, ex, _, _, hrdx, hokx⟩ := id OL.out
        obtain ⟨fx, _, hx⟩ := Value.slice.inj ex
        subst fx hx
        obtain ⟨g, o, rfl, _, hcx⟩ := hrdx.elem hokx k hlt
        have hOX : tChg.ok D[k] := hokx _ (List.getElem_mem hlt)
        have hNX : ∀ W, Ext wr W → ∀ j u, (tChg.enc D[k])[j]? = some u → W.cell? ⟨g, o + k * 5 + j, none⟩ = some u := fun W hW j u hu => hW.cell (hcx j u hu)
        clear ex hrdx hokx hcx
        obtain ⟨Ay, cy, ey, _, _, hrdy, hoky⟩ := id OD.out
        obtain ⟨fy, _, hy⟩ := Value.slice.inj ey
        subst fy hy
        obtain ⟨g2, o2, rfl, _, hcy⟩ := hrdy.elem hoky k hlt
        have hOY : tChg.ok D[k] := hoky _ (List.getElem_mem hlt)
        have hNY : ∀ W, Ext wr W → ∀ j u, (tChg.enc D[k])[j]? = some u → W.cell? ⟨g2, o2 + k * 5 + j, none⟩ = some u := fun W hW j u hu => hW.cell (hcy j u hu)
        clear ey hrdy hoky hcy
        generalize D[k] = x at hOX hNX hOY hNY hDK
        have HDK := Lib.hid hDK
        have HTL := Lib.hid hTL
        have HXO := Lib.hid hOX
        have HNX := Lib.hid hNX
        have HNY := Lib.hid hNY
        have HST := Lib.hid (show St 5 (tChg.enc x).toArray from st_chg x)
        have HTO := Lib.hid (show tChg.ok (turnC x) from ⟨hOX.1, hOX.2.2, hOX.2.1⟩)
        have hq := run_neqCh x
        have hi : (0 : Int) ≤ (k : Int) := by omega
        have hi2 : (k : Int) < (D.length : Int) := by omega
        clear hOX hNX hOY hNY hDK hTL
        have XY := Lib.hid (Ext.refl wr)
        go_wp2_with fail
        refine wp_region_held_drew (S := fun W => Ext wr W) (by kernel_rfl) (Ext.refl _).drew (fun hHeld => ?_)
        refine wpAnyH_take (i := 0) (oi := ?oiz10) (v := ?vz10) ?hiz10 (by kernel_rfl) (by kernel_rfl) (by kernel_rfl) ?hQz10 ?hyz10 (by assumption) ?restz10
        case hiz10 => simp only [List.getElem?_toArray, List.getElem?_cons_zero, List.getElem?_cons_succ]; rfl
        case hQz10 => exact fun _ _ _ h => h
        case hyz10 => exact Or.inl ⟨by rfl, by intro w hSw; (try dsimp only at hSw); go_simp; with_reducible rfl⟩
        try simp only [Act.put, List.setIfInBounds_toArray, List.set_cons_zero, List.set_cons_succ]
        refine wpAnyH_take (i := 1) (oi := ?oiz11) (v := ?vz11) ?hiz11 (by kernel_rfl) (by kernel_rfl) (by kernel_rfl) ?hQz11 ?hyz11 (by assumption) ?restz11
        case hiz11 => simp only [List.getElem?_toArray, List.getElem?_cons_zero, List.getElem?_cons_succ]; rfl
        case hQz11 => exact fun _ _ _ h => h
        case hyz11 => exact Or.inl ⟨by rfl, by intro w hSw; (try dsimp only at hSw); go_simp; with_reducible rfl⟩
        try simp only [Act.put, List.setIfInBounds_toArray, List.set_cons_zero, List.set_cons_succ]
        refine wpAnyH_take (i := 2) (oi := ?oiz12) (v := ?vz12) ?hiz12 (by kernel_rfl) (by kernel_rfl) (by kernel_rfl) ?hQz12 ?hyz12 (by assumption) ?restz12
        case hiz12 => simp only [List.getElem?_toArray, List.getElem?_cons_zero, List.getElem?_cons_succ]; rfl
        case hQz12 => exact fun _ _ _ h => h
        case hyz12 => exact Or.inl ⟨by rfl, by intro w hSw; (try dsimp only at hSw); go_simp; with_reducible rfl⟩
        try simp only [Act.put, List.setIfInBounds_toArray, List.set_cons_zero, List.set_cons_succ]
        refine wpAnyH_take (i := 3) (oi := ?oiz13) (v := (.agg (tChg.enc x).toArray)) ?hiz13 (by kernel_rfl) (by kernel_rfl) (by kernel_rfl) ?hQz13 ?hyz13 (by assumption) ?restz13
        case hiz13 => simp only [List.getElem?_toArray, List.getElem?_cons_zero, List.getElem?_cons_succ]; rfl
        case hQz13 => exact fun _ _ _ h => h
        case hyz13 => refine yields_loadS g (o + k * 5) (tChg.enc x) aggChangeI (fun W hW => HNX.out W hW) ?_ _ rfl rfl; rfl
        try simp only [Act.put, List.setIfInBounds_toArray, List.set_cons_zero, List.set_cons_succ]
        refine wpAnyH_take (i := 4) (oi := ?oiz14) (v := ?vz14) ?hiz14 (by kernel_rfl) (by kernel_rfl) (by kernel_rfl) ?hQz14 ?hyz14 (by assumption) ?restz14
        case hiz14 => simp only [List.getElem?_toArray, List.getElem?_cons_zero, List.getElem?_cons_succ]; rfl
        case hQz14 => exact fun _ _ _ h => h
        case hyz14 => exact Or.inl ⟨by rfl, by intro w hSw; (try dsimp only at hSw); go_simp; with_reducible rfl⟩
        try simp only [Act.put, List.setIfInBounds_toArray, List.set_cons_zero, List.set_cons_succ]
        refine wpAnyH_take (i := 5) (oi := ?oiz15) (v := ?vz15) ?hiz15 (by kernel_rfl) (by kernel_rfl) (by kernel_rfl) ?hQz15 ?hyz15 (by assumption) ?restz15
        case hiz15 => simp only [List.getElem?_toArray, List.getElem?_cons_zero, List.getElem?_cons_succ]; rfl
        case hQz15 => exact fun _ _ _ h => h
        case hyz15 => exact Or.inl ⟨by rfl, by intro w hSw; (try dsimp only at hSw); go_simp; with_reducible rfl⟩
        try simp only [Act.put, List.setIfInBounds_toArray, List.set_cons_zero, List.set_cons_succ]
        refine wpAnyH_take (i := 6) (oi := ?oiz16) (v := ?vz16) ?hiz16 (by kernel_rfl) (by kernel_rfl) (by kernel_rfl) ?hQz16 ?hyz16 (by assumption) ?restz16
        case hiz16 => simp only [List.getElem?_toArray, List.getElem?_cons_zero, List.getElem?_cons_succ]; rfl
        case hQz16 => exact fun _ _ _ h => h
        case hyz16 => exact Or.inl ⟨by rfl, by intro w hSw; (try dsimp only at hSw); go_simp; with_reducible rfl⟩
        try simp only [Act.put, List.setIfInBounds_toArray, List.set_cons_zero, List.set_cons_succ]
        refine wpAnyH_take (i := 7) (oi := ?oiz17) (v := (.agg (tChg.enc x).toArray)) ?hiz17 (by kernel_rfl) (by kernel_rfl) (by kernel_rfl) ?hQz17 ?hyz17 (by assumption) ?restz17
        case hiz17 => simp only [List.getElem?_toArray, List.getElem?_cons_zero, List.getElem?_cons_succ]; rfl
        case hQz17 => exact fun _ _ _ h => h
        case hyz17 => refine yields_loadS g2 (o2 + k * 5) (tChg.enc x) aggChangeI (fun W hW => HNY.out W hW) ?_ _ rfl rfl; rfl
        try simp only [Act.put, List.setIfInBounds_toArray, List.set_cons_zero, List.set_cons_succ]
        refine wpAnyH_take (i := 8) (oi := ?oiz18) (v := ?vz18) ?hiz18 (by kernel_rfl) (by kernel_rfl) (by kernel_rfl) ?hQz18 ?hyz18 (by assumption) ?restz18
        case hiz18 => simp only [List.getElem?_toArray, List.getElem?_cons_zero, List.getElem?_cons_succ]; rfl
        case hQz18 => exact fun _ _ _ h => h
        case hyz18 => exact Or.inl ⟨by rfl, by intro w hSw; (try dsimp only at hSw); go_simp; with_reducible rfl⟩
        try simp only [Act.put, List.setIfInBounds_toArray, List.set_cons_zero, List.set_cons_succ]
        refine wpAnyH_done (by kernel_rfl) ?_ _
        generalize World.drew wr = wd at hHeld ⊢
        replace OA := Lib.hid (OA.out.ext (by decide) hHeld)
        replace OB := Lib.hid (OB.out.ext (by decide) hHeld)
        replace OL := Lib.hid (OL.out.ext (by decide) hHeld)
        replace OD := Lib.hid (OD.out.ext (by decide) hHeld)
        replace XL := Lib.hid (XL.out.trans hHeld)
        replace HO := Lib.hid (HO.out.ext hHeld)
        replace XY := Lib.hid (XY.out.trans hHeld)
        replace XW := Lib.hid (XW.out.trans hHeld)
        clear hHeld
        have hc0 : (World.alloc wd (.cells (tChg.enc x).toArray 90)).cell? ⟨wd.heap.size, 0, none⟩ = some (.string x.n) := (Blk.new wd _ _).at_ 0 rfl
        have hc1 : (World.alloc wd (.cells (tChg.enc x).toArray 90)).cell? ⟨wd.heap.size, 1, none⟩ = some (.bool x.ho) := (Blk.new wd _ _).at_ 1 rfl
        have hc2 : (World.alloc wd (.cells (tChg.enc x).toArray 90)).cell? ⟨wd.heap.size, 2, none⟩ = some (.string x.o) := (Blk.new wd _ _).at_ 2 rfl
        have hc3 : (World.alloc wd (.cells (tChg.enc x).toArray 90)).cell? ⟨wd.heap.size, 3, none⟩ = some (.bool x.hn) := (Blk.new wd _ _).at_ 3 rfl
        have hc4 : (World.alloc wd (.cells (tChg.enc x).toArray 90)).cell? ⟨wd.heap.size, 4, none⟩ = some (.string x.nw) := (Blk.new wd _ _).at_ 4 rfl
        have hrd1 := rd_one (T := tChg) (World.alloc wd (.cells (tChg.enc x).toArray 90)) (turnC x) HTO.out 90
        rw [size_alloc] at hrd1
        have HRD1 := Lib.hid hrd1
        clear hrd1
        go_wp2_with (first
          | (refine wpl_load ⟨g2, o2 + k * 5, none⟩ (tChg.enc x) aggChangeI rfl _ rfl rfl (fun j u hu => by rw [Addr.add_lit]; exact HNY.out _ XY.out j u hu) ?_)
          | (refine wpl_storeNewB aggChangeI HST.out rfl rfl _ _ rfl rfl rfl rfl ?_)
          | (at_builtin; go_loud (refine wpl_append rowChg rfl _ _ rfl (v := .slice C cn cc) rfl ((HO.out.alloc (.cells (tChg.enc x).toArray 90)).alloc (.cells (tChg.enc (turnC x)).toArray 90)) _ _ rfl (A := some ⟨wd.heap.size + 1, 0, none⟩) (ys := [turnC x]) rfl HRD1.out (by intro y hy; obtain rfl := List.mem_singleton.1 hy; exact HTO.out) (by have := HDL.out; rw [HTL.out]; simp; omega) ((XL.out.alloc _).alloc _).size ?_); intro v9 w9 ho1 hg1 hat1; have HX9 := Lib.hid (((HO.out.alloc (.cells (tChg.enc x).toArray 90)).alloc (.cells (tChg.enc (turnC x)).toArray 90)).ext_app ((XL.out.alloc _).alloc _) hg1); have HO9 := Lib.hid ho1; clear ho1 hg1 hat1))
        go_roundw
        case rel => exact ⟨k + 1, by omega, by go_num, by rw [HDK.out, List.map_append]; exact HO9.out, HX9.out⟩
        case measure => simp [intOf]; omega
      · obtain rfl : k = D.length := by omega
        rw [List.take_length] at HO
        have OT := Lib.hid HO.out.rd
        clear HO
        go_wp2_with fail
        refine (implApply_any _ _ A D _ _ _ OA.out OD.out).mono ?_
        rintro e w6 ⟨vP, he, ho, hx⟩
        skip
        rw [HAP.out] at he ho
        subst he
        dsimp only at ho
        replace OA := Lib.hid (OA.out.ext (by decide) hx)
        replace OB := Lib.hid (OB.out.ext (by decide) hx)
        replace OL := Lib.hid (OL.out.ext (by decide) hx)
        replace OD := Lib.hid (OD.out.ext (by decide) hx)
        replace XL := Lib.hid (XL.out.trans hx)
        replace OT := Lib.hid (OT.out.ext (by decide) hx)
        replace XW := Lib.hid (XW.out.trans hx)
        obtain ⟨AP, cP, rfl⟩ := ho.shape
        have OP := Lib.hid ho.rd
        clear ho
        clear hx
        go_wp2_with fail
        refine (implApply_any _ _ B (D.map turnC) _ _ _ OB.out OT.out).mono ?_
        rintro e w7 ⟨vQ, he, ho, hx⟩
        skip
        rw [HAT.out] at he ho
        subst he
        dsimp only at ho
        replace OA := Lib.hid (OA.out.ext (by decide) hx)
        replace OB := Lib.hid (OB.out.ext (by decide) hx)
        replace OL := Lib.hid (OL.out.ext (by decide) hx)
        replace OD := Lib.hid (OD.out.ext (by decide) hx)
        replace XL := Lib.hid (XL.out.trans hx)
        replace OT := Lib.hid (OT.out.ext (by decide) hx)
        replace OP := Lib.hid (OP.out.ext (by decide) hx)
        replace XW := Lib.hid (XW.out.trans hx)
        obtain ⟨AQ, cQ, rfl⟩ := ho.shape
        have OQ := Lib.hid ho.rd
        clear ho
        clear hx
        go_wp2_with fail
        refine (implShared_any _ _ A A _ _ _ OA.out OA.out).mono ?_
        rintro e w8 ⟨he, hx⟩
        skip
        rw [HSF.out] at he
        subst he
        replace OA := Lib.hid (OA.out.ext (by decide) hx)
        replace OB := Lib.hid (OB.out.ext (by decide) hx)
        replace OL := Lib.hid (OL.out.ext (by decide) hx)
        replace OD := Lib.hid (OD.out.ext (by decide) hx)
        replace XL := Lib.hid (XL.out.trans hx)
        replace OT := Lib.hid (OT.out.ext (by decide) hx)
        replace OP := Lib.hid (OP.out.ext (by decide) hx)
        replace OQ := Lib.hid (OQ.out.ext (by decide) hx)
        replace XW := Lib.hid (XW.out.trans hx)
        clear hx
        go_wp2_with fail
        refine (implShared_any _ _ A B _ _ _ OA.out OB.out).mono ?_
        rintro e w9 ⟨he, hx⟩
        skip
        rw [HSH.out] at he
        subst he
        replace OA := Lib.hid (OA.out.ext (by decide) hx)
        replace OB := Lib.hid (OB.out.ext (by decide) hx)
        replace OL := Lib.hid (OL.out.ext (by decide) hx)
        replace OD := Lib.hid (OD.out.ext (by decide) hx)
        replace XL := Lib.hid (XL.out.trans hx)
        replace OT := Lib.hid (OT.out.ext (by decide) hx)
        replace OP := Lib.hid (OP.out.ext (by decide) hx)
        replace OQ := Lib.hid (OQ.out.ext (by decide) hx)
        replace XW := Lib.hid (XW.out.trans hx)
        clear hx
        go_wp2_with fail
        refine (specShared_any _ _ A B _ _ _ OA.out OB.out).mono ?_
        rintro e w10 ⟨he, hx⟩
        skip
        rw [HSH.out] at he
        subst he
        replace OA := Lib.hid (OA.out.ext (by decide) hx)
        replace OB := Lib.hid (OB.out.ext (by decide) hx)
        replace OL := Lib.hid (OL.out.ext (by decide) hx)
        replace OD := Lib.hid (OD.out.ext (by decide) hx)
        replace XL := Lib.hid (XL.out.trans hx)
        replace OT := Lib.hid (OT.out.ext (by decide) hx)
        replace OP := Lib.hid (OP.out.ext (by decide) hx)
        replace OQ := Lib.hid (OQ.out.ext (by decide) hx)
        replace XW := Lib.hid (XW.out.trans hx)
        clear hx
        go_wp2_with fail
        refine (specSameEntries_any _ _ B B _ _ _ OP.out OB.out).mono ?_
        rintro e w11 ⟨he, hx⟩
        skip
        rw [decide_eq_true rfl] at he
        subst he
        replace OA := Lib.hid (OA.out.ext (by decide) hx)
        replace OB := Lib.hid (OB.out.ext (by decide) hx)
        replace OL := Lib.hid (OL.out.ext (by decide) hx)
        replace OD := Lib.hid (OD.out.ext (by decide) hx)
        replace XL := Lib.hid (XL.out.trans hx)
        replace OT := Lib.hid (OT.out.ext (by decide) hx)
        replace OP := Lib.hid (OP.out.ext (by decide) hx)
        replace OQ := Lib.hid (OQ.out.ext (by decide) hx)
        replace XW := Lib.hid (XW.out.trans hx)
        clear hx
        go_wp2_with fail
        refine (specSameEntries_any _ _ A A _ _ _ OQ.out OA.out).mono ?_
        rintro e w12 ⟨he, hx⟩
        skip
        rw [decide_eq_true rfl] at he
        subst he
        replace OA := Lib.hid (OA.out.ext (by decide) hx)
        replace OB := Lib.hid (OB.out.ext (by decide) hx)
        replace OL := Lib.hid (OL.out.ext (by decide) hx)
        replace OD := Lib.hid (OD.out.ext (by decide) hx)
        replace XL := Lib.hid (XL.out.trans hx)
        replace OT := Lib.hid (OT.out.ext (by decide) hx)
        replace OP := Lib.hid (OP.out.ext (by decide) hx)
        replace OQ := Lib.hid (OQ.out.ext (by decide) hx)
        replace XW := Lib.hid (XW.out.trans hx)
        clear hx
        go_wp2_with fail
        refine (implApply_any _ _ B D _ _ _ OB.out OD.out).mono ?_
        rintro e w13 ⟨vR, he, ho, hx⟩
        skip
        rw [HBAD.out] at he ho
        subst he
        dsimp only at ho
        replace OA := Lib.hid (OA.out.ext (by decide) hx)
        replace OB := Lib.hid (OB.out.ext (by decide) hx)
        replace OL := Lib.hid (OL.out.ext (by decide) hx)
        replace OD := Lib.hid (OD.out.ext (by decide) hx)
        replace XL := Lib.hid (XL.out.trans hx)
        replace OT := Lib.hid (OT.out.ext (by decide) hx)
        replace OP := Lib.hid (OP.out.ext (by decide) hx)
        replace OQ := Lib.hid (OQ.out.ext (by decide) hx)
        replace XW := Lib.hid (XW.out.trans hx)
        obtain ⟨AR, cR, rfl⟩ := ho.shape
        have OR := Lib.hid ho.rd
        clear ho
        clear hx
        go_wp2_with fail
        go_ret
        exact ⟨rfl, XW.out⟩
end Go.Proofs.Ytmndkbheehcoaaa
