/- What the walk of the law FnProvedNames needs, part 7 of 9. No condition. -/
import Derived.BigFrame
import Derived.Laws.BytesArg
import Derived.Test.YtmndkbheehcoaaaPFnProvedNames6
/- What a map's tree is like: each entry once, names in order, priorities that fall: plainly. No condition. -/
namespace Go.Proofs.Ytmndkbheehcoaaa
open Go.RowKit
set_option linter.unusedVariables false
set_option linter.unusedSimpArgs false

/-! the order of keys -/
theorem cmpL_nil (b : List Int) : cmpL [] b = 0 := by rw [cmpL]; intro x a y b' h; cases h
theorem cmpL_nil' (a : List Int) : cmpL a [] = 0 := by rw [cmpL]; intro x a' y b' _ h; cases h
theorem cmpL_cons (x y : Int) (a b : List Int) : cmpL (x :: a) (y :: b) = if x = y then cmpL a b else if x < y then -1 else 1 := by rw [cmpL]
theorem cmpL_neg (a : List Int) : ∀ b : List Int, cmpL b a = - cmpL a b := by
  induction a with
  | nil => intro b; rw [cmpL_nil, cmpL_nil']; rfl
  | cons x r ih =>
    intro b
    cases b with
    | nil => rw [cmpL_nil, cmpL_nil']; rfl
    | cons y s =>
      rw [cmpL_cons, cmpL_cons]
      by_cases h : x = y
      · rw [if_pos h, if_pos h.symm, ih]
      · rw [if_neg h, if_neg (Ne.symm h)]
        by_cases h2 : x < y
        · rw [if_pos h2, if_neg (by omega)]; rfl
        · rw [if_neg h2, if_pos (by omega)]
theorem cmpL_trans (a : List Int) : ∀ b c : List Int, a.length = b.length → b.length = c.length → cmpL a b ≤ 0 → cmpL b c ≤ 0 → cmpL a c ≤ 0 := by
  induction a with
  | nil => intro b c _ _ _ _; rw [cmpL_nil]; decide
  | cons x r ih =>
    intro b c h1 h2 h3 h4
    match b, c, h1, h2 with
    | y :: s, z :: t, h1, h2 =>
      rw [cmpL_cons] at h3 h4 ⊢
      by_cases e1 : x = y
      · rw [if_pos e1] at h3
        subst e1
        by_cases e2 : x = z
        · rw [if_pos e2] at h4 ⊢
          exact ih s t (by simpa using h1) (by simpa using h2) h3 h4
        · rw [if_neg e2] at h4 ⊢
          exact h4
      · rw [if_neg e1] at h3
        have hxy : x < y := by
          by_cases q : x < y
          · exact q
          · rw [if_neg q] at h3; omega
        by_cases e2 : y = z
        · subst e2
          rw [if_neg e1, if_pos hxy]; decide
        · rw [if_neg e2] at h4
          have hyz : y < z := by
            by_cases q : y < z
            · exact q
            · rw [if_neg q] at h4; omega
          rw [if_neg (by omega), if_pos (by omega)]; decide
theorem topI_max (ps : List (List Int)) (hps : ∀ p ∈ ps, p.length = 32) (k : Nat) : k ≤ ps.length → ∀ i, i < k → cmpL (gK ps i) (gK ps (topI ps k)) ≤ 0 := by
  have hl : ∀ i, i < ps.length → (gK ps i).length = 32 := fun i hi => by rw [gK_lt hi]; exact hps _ (List.getElem_mem hi)
  induction k with
  | zero => intro _ i hi; omega
  | succ k ih =>
    intro hk i hi
    have ht : topI ps k < ps.length := by
      rcases Nat.eq_zero_or_pos k with h0 | h0
      · subst h0; rw [topI_zero]; omega
      · have := topI_lt ps k h0; omega
    rw [topI_succ]
    by_cases hc : 0 < cmpL (gK ps k) (gK ps (topI ps k))
    · rw [if_pos hc]
      by_cases e : i = k
      · subst e; rw [cmpL_self]; decide
      · have h1 := ih (by omega) i (by omega)
        refine cmpL_trans _ (gK ps (topI ps k)) _ (by rw [hl i (by omega), hl _ ht]) (by rw [hl _ ht, hl k (by omega)]) h1 ?_
        have := cmpL_neg (gK ps (topI ps k)) (gK ps k)
        omega
    · rw [if_neg hc]
      by_cases e : i = k
      · subst e; omega
      · exact ih (by omega) i (by omega)
theorem topE_max (L : List En) (i : Nat) (hi : i < L.length) : cmpL (prioL (gE L i).1) (prioL (gE L (topE L)).1) ≤ 0 := by
  have h := topI_max (prios L) (fun p hp => (prios_ok L p hp).1) L.length (by rw [prios_length]; exact Nat.le_refl _) i hi
  have ht := topE_lt (L := L) (by omega)
  rw [gE_lt hi, gE_lt ht]
  rw [prios_at L i hi] at h
  have h2 : gK (prios L) (topI (prios L) L.length) = prioL L[topE L].1 := prios_at L (topE L) ht
  rw [h2] at h
  exact h
/-! the entries of a tree, from the left to the right -/
def Tr.ino : Tr → List En
  | .leaf => []
  | .node x l r => l.ino ++ (x.n, x.v) :: r.ino
theorem trF_ino (f : Nat) : ∀ (L : List En), L.length ≤ f → (trF f L).ino = L := by
  induction f with
  | zero =>
    intro L h
    obtain rfl : L = [] := List.eq_nil_of_length_eq_zero (by omega)
    rw [trF_zero]; rfl
  | succ f ih =>
    intro L h
    by_cases h0 : L.length = 0
    · obtain rfl : L = [] := List.eq_nil_of_length_eq_zero h0
      rw [trF_nil _ _ h0]; rfl
    · have ht := topE_lt (L := L) (by omega)
      rw [trF_cons _ _ h0]
      simp only [Tr.ino]
      rw [ih _ (by rw [List.length_take]; omega), ih _ (by rw [List.length_drop]; omega), gE_lt ht]
      rw [← List.drop_eq_getElem_cons ht, List.take_append_drop]
theorem Tr.all_len (T : Tr) : T.all.length = T.ino.length := by
  induction T with
  | leaf => rfl
  | node x l r il ir => simp only [Tr.all, Tr.ino, List.length_cons, List.length_append, il, ir]; omega
theorem Tr.all_ino (T : Tr) : ∀ x ∈ T.all, (x.n, x.v) ∈ T.ino := by
  induction T with
  | leaf => intro x hx; simp [Tr.all] at hx
  | node y l r il ir =>
    intro x hx
    simp only [Tr.all, List.mem_cons, List.mem_append] at hx
    simp only [Tr.ino, List.mem_append, List.mem_cons]
    rcases hx with rfl | hx | hx
    · exact .inr (.inl rfl)
    · exact .inl (il x hx)
    · exact .inr (.inr (ir x hx))
/-- no node stands above one of a greater priority -/
def Tr.heap : Tr → Prop
  | .leaf => True
  | .node x l r => (∀ e ∈ l.ino ++ r.ino, cmpL (prioL e.1) (prioL x.n) ≤ 0) ∧ l.heap ∧ r.heap
theorem trF_heap (f : Nat) : ∀ (L : List En), L.length ≤ f → (trF f L).heap := by
  induction f with
  | zero => intro L h; rw [trF_zero]; trivial
  | succ f ih =>
    intro L h
    by_cases h0 : L.length = 0
    · rw [trF_nil _ _ h0]; trivial
    · have ht := topE_lt (L := L) (by omega)
      rw [trF_cons _ _ h0]
      refine ⟨fun e he => ?_, ih _ (by rw [List.length_take]; omega), ih _ (by rw [List.length_drop]; omega)⟩
      rw [trF_ino _ _ (by rw [List.length_take]; omega), trF_ino _ _ (by rw [List.length_drop]; omega), List.mem_append] at he
      have hm : e ∈ L := by
        rcases he with he | he
        · exact List.mem_of_mem_take he
        · exact List.mem_of_mem_drop he
      obtain ⟨i, hi, rfl⟩ := List.getElem_of_mem hm
      have := topE_max L i hi
      rwa [gE_lt hi] at this
theorem Tr.heap_top {x : Nd} {l r : Tr} (h : (Tr.node x l r).heap) : ∀ y ∈ (Tr.node x l r).all, cmpL (prioL y.n) (prioL x.n) ≤ 0 := by
  intro y hy
  simp only [Tr.all, List.mem_cons, List.mem_append] at hy
  rcases hy with rfl | hy | hy
  · rw [cmpL_self]; decide
  · exact h.1 _ (List.mem_append.2 (.inl (l.all_ino y hy)))
  · exact h.1 _ (List.mem_append.2 (.inr (r.all_ino y hy)))
/-- priorities fall along a list of nodes -/
def falls : List Nd → Prop
  | x :: y :: r => cmpL (prioL y.n) (prioL x.n) ≤ 0 ∧ falls (y :: r)
  | _ => True
theorem falls_cons {x : Nd} {M : List Nd} (h : falls M) (hx : ∀ y ∈ M, cmpL (prioL y.n) (prioL x.n) ≤ 0) : falls (x :: M) := by
  cases M with
  | nil => trivial
  | cons y r => exact ⟨hx y (by simp), h⟩
theorem falls_at {M : List Nd} (h : falls M) (i : Nat) (hi : i + 1 < M.length) : cmpL (prioL M[i + 1].n) (prioL M[i].n) ≤ 0 := by
  induction M generalizing i with
  | nil => simp at hi
  | cons x r ih =>
    match r, h, i, hi, ih with
    | y :: s, h, 0, hi, _ => exact h.1
    | y :: s, h, i + 1, hi, ih => exact ih h.2 i (by simpa using hi)
theorem way_falls (s : ByteArray) (T : Tr) (h : T.heap) : falls (T.way s) := by
  induction T with
  | leaf => trivial
  | node x l r il ir =>
    rw [Tr.way_node]
    cases h1 : ltB s x.n with
    | true =>
      simp only [ltB_asymm h1, Bool.false_eq_true, if_false, if_true, List.append_nil]
      exact falls_cons (il h.2.1) fun y hy => h.1 _ (List.mem_append.2 (.inl (l.all_ino y (Tr.sel_sub _ _ _ y hy))))
    | false =>
      simp only [Bool.false_eq_true, if_false, List.nil_append]
      cases h2 : ltB x.n s with
      | true =>
        simp only [if_true]
        exact falls_cons (ir h.2.2) fun y hy => h.1 _ (List.mem_append.2 (.inr (r.all_ino y (Tr.sel_sub _ _ _ y hy))))
      | false =>
        simp only [Bool.false_eq_true, if_false]
        trivial
/-- how deep the names of a tree lie -/
theorem way_pos (s : ByteArray) (x : Nd) (l r : Tr) : 1 ≤ ((Tr.node x l r).way s).length := by rw [Tr.way_node, List.length_cons]; omega
theorem way_pos' (s : ByteArray) (T : Tr) (h : T.all ≠ []) : 1 ≤ (T.way s).length := by
  cases T with
  | leaf => exact absurd rfl h
  | node x l r => exact way_pos s x l r
theorem way_top (x : Nd) (l r : Tr) : ((Tr.node x l r).way x.n).length = 1 := by
  rw [Tr.way_node, ltB_irrefl]; rfl
theorem way_low (x : Nd) (l r : Tr) (hp : (Tr.node x l r).ino.Pairwise ltE) (y : Nd) (hy : y ∈ l.all ++ r.all) : 2 ≤ ((Tr.node x l r).way y.n).length := by
  simp only [Tr.ino] at hp
  rw [List.pairwise_append] at hp
  obtain ⟨_, hr, hlr⟩ := hp
  rw [List.pairwise_cons] at hr
  rw [Tr.way_node]
  rcases List.mem_append.1 hy with hy | hy
  · have h1 : ltB y.n x.n = true := hlr _ (l.all_ino y hy) (x.n, x.v) (by simp)
    rw [h1, ltB_asymm h1]
    have := way_pos' y.n l (fun e => by rw [e] at hy; cases hy)
    simp only [if_true, Bool.false_eq_true, if_false, List.append_nil, List.length_cons]
    omega
  · have h1 : ltB x.n y.n = true := hr.1 _ (r.all_ino y hy)
    rw [h1, ltB_asymm h1]
    have := way_pos' y.n r (fun e => by rw [e] at hy; cases hy)
    simp only [if_true, Bool.false_eq_true, if_false, List.nil_append, List.length_cons]
    omega
/-- what is asked of the tree of a map -/
theorem tree_facts {L : List En} (h : okE L = true) (hok : ∀ e ∈ L, tEnt.ok e) : ∃ T, trF L.length L = T ∧ T.all.length = L.length ∧ (∀ x ∈ T.all, x.ok ∧ entB x.n x.v = true ∧ nameB x.n = true ∧ hasE L x.n = true) ∧ T.ino = L ∧ T.heap := by
  have hi := trF_ino L.length L (Nat.le_refl _)
  have hh := trF_heap L.length L (Nat.le_refl _)
  have ho := (trF L.length L).all_ok (trF_ok _ _ (good_of h hok))
  refine ⟨_, rfl, by rw [Tr.all_len, hi], fun x hx => ?_, hi, hh⟩
  have h1 := ho x hx
  have h2 := (trF L.length L).all_ino x hx
  rw [hi] at h2
  obtain ⟨i, hil, he⟩ := List.getElem_of_mem h2
  have hp := posE_hit (okE_incs h).1 i hil (s := x.n) (by rw [gE_lt hil, he])
  refine ⟨h1.1, h1.2, ?_, ?_⟩
  · have h3 := h1.2
    rw [entB_eq, Bool.and_eq_true] at h3
    exact h3.1
  · rw [hasE_eq, hp, decide_eq_true]
    exact ⟨hil, by rw [gE_lt hil, he]⟩
theorem depth_facts {L : List En} (h : okE L = true) (hok : ∀ e ∈ L, tEnt.ok e) {x : Nd} {l r : Tr} (hT : trF L.length L = .node x l r) (i : Nat) (hi : i < (Tr.node x l r).all.length) :
    ∃ d : Int, depR L (Tr.node x l r).all[i].n = (d, 0) ∧ 1 ≤ d ∧ d ≤ L.length ∧ decide (d = 1) = decide (i = 0) := by
  obtain ⟨T, hT2, hl, hall, hino, hheap⟩ := tree_facts h hok
  rw [hT] at hT2
  subst hT2
  have hx := hall _ (List.getElem_mem hi)
  refine ⟨(((Tr.node x l r).way (Tr.node x l r).all[i].n).length : Nat), ?_, ?_, ?_, ?_⟩
  · rw [depR, h, hx.2.2.1, hx.2.2.2, hT]; rfl
  · have := way_pos (Tr.node x l r).all[i].n x l r
    omega
  · have h1 : ((Tr.node x l r).way (Tr.node x l r).all[i].n).length ≤ (Tr.node x l r).all.length := Tr.sel_le _ _ _
    omega
  · cases i with
    | zero =>
      have h2 : (Tr.node x l r).all[0] = x := rfl
      rw [h2, way_top]; rfl
    | succ i =>
      have h2 : (Tr.node x l r).all[i + 1] ∈ l.all ++ r.all := by
        have h3 : (Tr.node x l r).all[i + 1] = (l.all ++ r.all)[i]'(by simpa [Tr.all] using hi) := rfl
        rw [h3]; exact List.getElem_mem _
      have h4 := way_low x l r (by rw [hino]; exact (incs_pair.1 (okE_incs h).1).2) _ h2
      rw [decide_eq_false (by omega), decide_eq_false (by omega)]
theorem Tr.key_nil {T : Tr} (h : T.all.length = 0) : T.key = emptyL := by
  cases T with
  | leaf => rfl
  | node x l r => simp [Tr.all] at h
theorem Tr.node_of {T : Tr} (h : 0 < T.all.length) : ∃ x l r, T = .node x l r := by
  cases T with
  | leaf => simp [Tr.all] at h
  | node x l r => exact ⟨x, l, r, rfl⟩
theorem prio_size {s : ByteArray} (h : prioR s = (prioL s, 0)) : s.size ≤ 24 := by
  unfold prioR at h
  cases hn : nameB s with
  | false => rw [hn] at h; injection h with h1 h2; cases h2
  | true => rw [nameB_eq] at hn; simp at hn; omega
/-- the i-th node: how deep it lies, and its priority -/
theorem node_facts {L : List En} (h : okE L = true) (hok : ∀ e ∈ L, tEnt.ok e) {T : Tr} (hT : trF L.length L = T) {x : Nd} {l r : Tr} (hx : T = .node x l r) {NL : List Nd} (hN : T.all = NL) (i : Nat) (hi : i < NL.length) :
    NL[i].ok ∧ entB NL[i].n NL[i].v = true ∧ prioR NL[i].n = (prioL NL[i].n, 0) ∧ nodeKR NL[i] = (hashL 5 (nodeL NL[i]), 0) ∧ cmpL (prioL NL[i].n) (prioL x.n) ≤ 0 ∧ ∃ d : Int, depR L NL[i].n = (d, 0) ∧ 1 ≤ d ∧ d ≤ L.length ∧ decide (d = 1) = decide (i = 0) := by
  subst hN
  obtain ⟨T', hT', hl, hall, hino, hheap⟩ := tree_facts h hok
  rw [hT] at hT'
  subst hT'
  have h1 := hall _ (List.getElem_mem hi)
  have hd := depth_facts h hok (hT.trans hx) i (by rw [← hx]; exact hi)
  subst hx
  refine ⟨h1.1, h1.2.1, by rw [prioR, h1.2.2.1]; rfl, by rw [nodeKR, h1.2.1]; rfl, Tr.heap_top hheap _ (List.getElem_mem hi), hd⟩
theorem way_facts {L : List En} (h : okE L = true) (hok : ∀ e ∈ L, tEnt.ok e) {T : Tr} (hT : trF L.length L = T) (hne : 0 < T.all.length) {s : ByteArray} (hs : nameB s = true) {PL : List Nd} (hP : T.way s = PL) :
    provR L s = (PL, 0) ∧ 1 ≤ PL.length ∧ PL.length ≤ L.length ∧ ∀ i (hi : i + 1 < PL.length), PL[i].ok ∧ PL[i + 1].ok ∧ prioR PL[i].n = (prioL PL[i].n, 0) ∧ prioR PL[i + 1].n = (prioL PL[i + 1].n, 0) ∧ ¬ cmpL (prioL PL[i].n) (prioL PL[i + 1].n) < 0 := by
  subst hP
  obtain ⟨T', hT', hl, hall, hino, hheap⟩ := tree_facts h hok
  rw [hT] at hT'
  subst hT'
  have hsub : ∀ y ∈ T.way s, y ∈ T.all := fun y hy => Tr.sel_sub _ _ _ y hy
  refine ⟨?_, ?_, ?_, fun i hi => ?_⟩
  · rw [provR, h, hs, hT]; rfl
  · exact way_pos' s T (fun e => by rw [e] at hne; exact absurd hne (by decide))
  · rw [← hl]; exact Tr.sel_le _ _ _
  · have h1 := hall _ (hsub _ (List.getElem_mem (Nat.lt_of_succ_lt hi)))
    have h2 := hall _ (hsub _ (List.getElem_mem hi))
    have h3 := falls_at (way_falls s T hheap) i hi
    have h4 := cmpL_neg (prioL (T.way s)[i].n) (prioL (T.way s)[i + 1].n)
    exact ⟨h1.1, h2.1, by rw [prioR, h1.2.2.1]; rfl, by rw [prioR, h2.2.2.1]; rfl, by omega⟩
end Go.Proofs.Ytmndkbheehcoaaa
/- Two paths that are both taken, and differ, show two unlike nodes with one key; drawn changes of a path. No condition. -/
namespace Go.Proofs.Ytmndkbheehcoaaa
open Go.RowKit
set_option linter.unusedVariables false
set_option linter.unusedSimpArgs false

set_option maxHeartbeats 1000000 in
set_option maxRecDepth 100000 in
theorem p6Spoilt_any (v : Value) (code : List Int) (u : Value) (L : List Nd) (hvs : ∀ x ∈ L, x.v.size ≤ 1000) (h64 : L.length ≤ 100) (w : World) (S S' : Nat → Prop) (h : RdL tByte w S v code) (h' : RdL tNd w S' u L) :
    Calls Try.prog 54 #[v, u] w fun e w' => ∃ v' BL, e = .returned v' ∧ RdL tNd w' (fun k => w.heap.size ≤ k) v' BL ∧ Ext w w' := by
  have H' := Lib.hid h'
  obtain ⟨A, cap, rfl, _⟩ := h'
  go_enter Try.func54, Try.ntmps54
  go_wp2_with fail
  refine (l00From_any v code _ _ h).mono ?_
  rintro e w1 ⟨rfl, hs, hx⟩
  go_wp2_with fail
  refine (l04Spoilt_any w.heap.size 0 (by decide) _ L hvs h64 _ hs _ (H'.out.ext (by decide) hx)).mono ?_
  rintro e w2 ⟨v2, BL, rfl, hr, hg⟩
  have HR := Lib.hid (hr.mono (S' := fun k => w.heap.size ≤ k) fun k hk => Nat.le_trans hx.size hk)
  have HX := Lib.hid (grown_new hx hg (Nat.le_refl _))
  obtain ⟨A2, c2, rfl, _⟩ := hr
  clear hs hx hg h
  go_wp2
  go_ret
  exact ⟨_, BL, rfl, HR.out, HX.out⟩
/-- the key of a node; that of the empty map where it is none -/
def keyN (x : Nd) : List Int := if entB x.n x.v then hashL 5 (nodeL x) else emptyL
theorem keyN_ok (x : Nd) : K32 (keyN x) := by unfold keyN; split; exact hashL_ok _ _; exact emptyL_ok
theorem zeroN_no : entB zeroN.n zeroN.v = false := by
  cases h : entB zeroN.n zeroN.v with
  | false => rfl
  | true => exact absurd (entB_le h).1 (by decide)
theorem keyN_zero : keyN zeroN = emptyL := by rw [keyN, zeroN_no]; rfl
theorem part_key (s : ByteArray) (P : List Nd) : ∀ (Q : List Nd) (due : List Int), okNs P = true → okNs Q = true → (ckF s due P).2.2 = true → (ckF s due Q).2.2 = true → keyN (P.getD (partN P Q) zeroN) = keyN (Q.getD (partN P Q) zeroN) := by
  have hk : ∀ {x : Nd} {r : List Nd}, okNs (x :: r) = true → keyN x = hashL 5 (nodeL x) ∧ okNs r = true := by
    intro x r h
    have h0 := okNs_at h (k := 0) (by simp)
    simp only [List.getElem_cons_zero] at h0
    refine ⟨by rw [keyN, h0]; rfl, okNs_good fun p hp => ?_⟩
    have := okNs_at h (k := p + 1) (by simpa using hp)
    simpa using this
  induction P with
  | nil =>
    intro Q due _ hQ h1 h2
    have hd : due = emptyL := by rw [ckF_nil] at h1; simpa using h1
    cases Q with
    | nil => rfl
    | cons y r =>
      have e0 : partN [] (y :: r) = 0 := by simp [partN]
      rw [e0]
      show keyN zeroN = keyN y
      rw [keyN_zero, (hk hQ).1]
      by_cases h3 : hashL 5 (nodeL y) = due
      · rw [h3, hd]
      · rw [ckF_cons, ckS_bad _ _ h3] at h2; cases h2
  | cons x p ih =>
    intro Q due hP hQ h1 h2
    have hx : hashL 5 (nodeL x) = due := by
      by_cases h3 : hashL 5 (nodeL x) = due
      · exact h3
      · rw [ckF_cons, ckS_bad _ _ h3] at h1; cases h1
    cases Q with
    | nil =>
      have hd : due = emptyL := by rw [ckF_nil] at h2; simpa using h2
      have e0 : partN (x :: p) [] = 0 := by simp [partN]
      rw [e0]
      show keyN x = keyN zeroN
      rw [keyN_zero, (hk hP).1, hx, hd]
    | cons y q =>
      have hy : hashL 5 (nodeL y) = due := by
        by_cases h3 : hashL 5 (nodeL y) = due
        · exact h3
        · rw [ckF_cons, ckS_bad _ _ h3] at h2; cases h2
      by_cases hxy : x = y
      · subst hxy
        have e0 : partN (x :: p) (x :: q) = partN p q + 1 := by rw [partN, if_pos rfl]
        rw [e0]
        show keyN (p.getD (partN p q) zeroN) = keyN (q.getD (partN p q) zeroN)
        by_cases hn : x.n = s
        · rw [ckF_cons, ckS_hit _ _ hx hn] at h1 h2
          have e1 : p = [] := List.isEmpty_iff.1 h1
          have e2 : q = [] := List.isEmpty_iff.1 h2
          subst e1 e2
          rfl
        · rw [ckF_cons, ckS_on _ _ hx hn] at h1 h2
          exact ih q _ (hk hP).2 (hk hQ).2 h1 h2
      · have e0 : partN (x :: p) (y :: q) = 0 := by rw [partN, if_neg hxy]
        rw [e0]
        show keyN x = keyN y
        rw [(hk hP).1, (hk hQ).1, hx, hy]
theorem part_ne (P : List Nd) : ∀ (Q : List Nd), full P → full Q → P ≠ Q → P.getD (partN P Q) zeroN ≠ Q.getD (partN P Q) zeroN := by
  induction P with
  | nil =>
    intro Q _ fq hne
    cases Q with
    | nil => exact absurd rfl hne
    | cons y r =>
      have e0 : partN [] (y :: r) = 0 := by simp [partN]
      rw [e0]
      exact fun e => fq 0 (by simp) e.symm
  | cons x p ih =>
    intro Q fp fq hne
    cases Q with
    | nil =>
      have e0 : partN (x :: p) [] = 0 := by simp [partN]
      rw [e0]
      exact fp 0 (by simp)
    | cons y q =>
      by_cases hxy : x = y
      · subst hxy
        have e0 : partN (x :: p) (x :: q) = partN p q + 1 := by rw [partN, if_pos rfl]
        rw [e0]
        exact ih q (fun i hi => fp (i + 1) (by simpa using hi)) (fun i hi => fq (i + 1) (by simpa using hi)) (fun e => hne (by rw [e]))
      · have e0 : partN (x :: p) (y :: q) = 0 := by rw [partN, if_neg hxy]
        rw [e0]
        exact hxy
/-- the key of a node, as it is asked for, and the code -/
theorem nodeKR_or (x : Nd) : (nodeKR x = (keyN x, 0)) ∨ (nodeKR x = (List.replicate 32 0, 1) ∧ keyN x = emptyL) := by
  cases h : entB x.n x.v with
  | true => exact .inl (by rw [nodeKR, keyN, h]; rfl)
  | false => exact .inr ⟨by rw [nodeKR, h]; rfl, by rw [keyN, h]; rfl⟩
/-- what a changed path leads to -/
theorem names_all {A : List En} (h : okE A = true) (hok : ∀ e ∈ A, tEnt.ok e) {s : ByteArray} (hs : nameB s = true) {T : Tr} (hT : trF A.length A = T) :
    chkR T.key s (T.way s) = (hasE A s, valE A s, 0) ∧ (getR A s = (valE A s, if hasE A s then 0 else 6)) ∧ (∀ x ∈ T.way s, x.v.size ≤ 1000) ∧ (T.way s).length ≤ 64 ∧
      ∀ B : List Nd, (chkR T.key s B).2.2 = 1 ∧ (clR A s B).2.2 = 1 ∨ ((chkR T.key s B).2.2 = 8 ∨ (chkR T.key s B).2.2 = 3) ∧ (clR A s B).2.2 = 4 ∨
        (chkR T.key s B).2.2 = 0 ∧ ((chkR T.key s B).1 = hasE A s ∧ (chkR T.key s B).2.1 = valE A s ∧ (clR A s B).2.2 = 6 ∨
          ¬ ((chkR T.key s B).1 = hasE A s ∧ (chkR T.key s B).2.1 = valE A s) ∧ (clR A s B).2.2 = 0 ∧ (clR A s B).1 ≠ (clR A s B).2.1 ∧ keyN (clR A s B).1 = keyN (clR A s B).2.1) := by
  have hw := own_ck h s
  rw [hT] at hw
  obtain ⟨T', hT', hl, hall, hino, hheap⟩ := tree_facts h hok
  rw [hT] at hT'
  subst hT'
  have hsub : ∀ y ∈ T.way s, y ∈ T.all := fun y hy => Tr.sel_sub _ _ _ y hy
  have hlen : (T.way s).length ≤ 64 := by
    have h1 : (T.way s).length ≤ T.all.length := Tr.sel_le _ _ _
    have h2 := (okE_incs h).2
    omega
  have hoW : okNs (T.way s) = true := okNs_good fun p hp => (hall _ (hsub _ (List.getElem_mem hp))).2.1
  have hfW : full (T.way s) := okNs_full hoW
  refine ⟨by rw [chkR, hs, hoW, hw]; simp; omega, ?_, fun x hx => ?_, hlen, fun B => ?_⟩
  · rw [getR, h, hs, valE]
    cases hasE A s <;> rfl
  · have := entB_le (hall x (hsub x hx)).2.1
    omega
  · cases hB : okNs B with
    | false =>
      refine .inl ⟨?_, ?_⟩
      · rw [chkR, hs, hB]; rfl
      · rw [clR_bad (by rw [h, hs, hB]; rfl)]
    | true =>
      have hall2 : (okE A && nameB s && okNs B) = true := by rw [h, hs, hB]; rfl
      by_cases h64 : 64 < B.length
      · have e1 : chkR T.key s B = (false, ⟨#[]⟩, 3) := by rw [chkR, hs, hB]; simp [h64]
        refine .inr (.inl ⟨.inr (by rw [e1]), ?_⟩)
        rw [clR_off hall2 (by rw [hT, e1]; simp)]
      · cases h3 : (ckF s T.key B).2.2 with
        | false =>
          have e1 : chkR T.key s B = (false, ⟨#[]⟩, 8) := by rw [chkR, hs, hB]; simp [h64, h3]
          refine .inr (.inl ⟨.inl (by rw [e1]), ?_⟩)
          rw [clR_off hall2 (by rw [hT, e1]; simp)]
        | true =>
          have e1 : chkR T.key s B = ((ckF s T.key B).1, (ckF s T.key B).2.1, 0) := by rw [chkR, hs, hB]; simp [h64, h3]
          have e2 : (chkR T.key s B).2.2 = 0 := by rw [e1]
          refine .inr (.inr ⟨e2, ?_⟩)
          by_cases hq : (chkR T.key s B).1 = hasE A s ∧ (chkR T.key s B).2.1 = valE A s
          · refine .inl ⟨hq.1, hq.2, ?_⟩
            rw [clR_none hall2 (by rw [hT]; exact e2) (by rw [hT]; exact hq.1) (by rw [hT]; exact hq.2)]
          · refine .inr ⟨hq, ?_⟩
            rw [clR_hit hall2 (by rw [hT]; exact e2) (by rw [hT]; exact hq), hT]
            have hne : T.way s ≠ B := by
              have := own_ne h s (P := B) (c1 := (ckF s T.key B).1) (c2 := (ckF s T.key B).2.1) (c3 := (ckF s T.key B).2.2) (by rw [hT]) (by rw [e1] at hq; exact hq)
              rw [hT] at this
              exact this
            exact ⟨rfl, part_ne _ _ hfW (okNs_full hB) hne, part_key s _ _ T.key hoW hB (by rw [hw]) h3⟩
end Go.Proofs.Ytmndkbheehcoaaa
/- Whether a byte string is too long for a law. No condition. -/
namespace Go.Proofs.Ytmndkbheehcoaaa
open Go.RowKit
set_option linter.unusedVariables false
set_option linter.unusedSimpArgs false
set_option maxHeartbeats 1000000 in
set_option maxRecDepth 100000 in
theorem f6big_no (A : Option Addr) (n c : Nat) (w : World) (h : ¬ 4096 < n) : Calls Try.prog 34 #[.slice A n c] w fun e w' => e = .returned (.bool false) ∧ w = w' := by
  have h := f6big_any A n c w
  rwa [decide_eq_false (by omega)] at h
set_option maxHeartbeats 1000000 in
set_option maxRecDepth 100000 in
theorem f6big_yes (A : Option Addr) (n c : Nat) (w : World) (h : 4096 < n) : Calls Try.prog 34 #[.slice A n c] w fun e w' => e = .returned (.bool true) ∧ w = w' := by
  have h := f6big_any A n c w
  rwa [decide_eq_true (by omega)] at h
end Go.Proofs.Ytmndkbheehcoaaa
/- Two variables of a struct's type, made and filled at once. No condition. -/
namespace Go.Proofs.Ytmndkbheehcoaaa
open Go.RowKit Go.BigFrame
set_option linter.unusedVariables false
set_option linter.unusedSimpArgs false

theorem setRow_alloc2 (w : World) (cs cs' : Array Value) (t : TypeId) (o : Obj) : ((w.alloc (.cells cs t)).alloc o).setRow w.heap.size cs' = (w.alloc (.cells cs' t)).alloc o := by
  unfold World.setRow World.alloc
  congr 1
  apply Array.ext
  · simp
  · intro i h1 h2
    simp only [Array.getElem_modify, Array.getElem_push, Array.size_push]
    by_cases h : i < w.heap.size
    · have hne : w.heap.size ≠ i := by omega
      simp [h, hne, Nat.lt_succ_of_lt h]
    · by_cases h3 : w.heap.size = i
      · subst h3
        simp
      · simp [h3, h]
        split
        · omega
        · rfl
theorem wpl_two {P : Program} {ops : Array Oper} {rest : List Oper} {o1 o2 o3 o4 : Oper} {a : Act} {w : World} {Q : Exit → Act → World → Prop} {t n : Nat} {Z cs1 cs2 : Array Value} (ht : Agg P t n) (hs1 : St n cs1) (hs2 : St n cs2) (hz : (P.info? t).map (·.zero) = some (some (.agg Z))) (hZ : Z.size = n)
    (g1 : o1.guard = none) (p1 : o1.op = .alloc t) (g2 : o2.guard = none) (p2 : o2.op = .alloc t) (g3 : o3.guard = none) (x3 y3 : Operand) (p3 : o3.op = .store t x3 y3) (d3 : o3.dst = none) (g4 : o4.guard = none) (x4 y4 : Operand) (p4 : o4.op = .store t x4 y4) (d4 : o4.dst = none)
    (e3 : ((a.put o1.dst (.pointer (some ⟨w.heap.size, 0, none⟩))).put o2.dst (.pointer (some ⟨w.heap.size + 1, 0, none⟩))).eval x3 = .pointer (some ⟨w.heap.size, 0, none⟩))
    (f3 : ((a.put o1.dst (.pointer (some ⟨w.heap.size, 0, none⟩))).put o2.dst (.pointer (some ⟨w.heap.size + 1, 0, none⟩))).eval y3 = .agg cs1)
    (e4 : ((a.put o1.dst (.pointer (some ⟨w.heap.size, 0, none⟩))).put o2.dst (.pointer (some ⟨w.heap.size + 1, 0, none⟩))).eval x4 = .pointer (some ⟨w.heap.size + 1, 0, none⟩))
    (f4 : ((a.put o1.dst (.pointer (some ⟨w.heap.size, 0, none⟩))).put o2.dst (.pointer (some ⟨w.heap.size + 1, 0, none⟩))).eval y4 = .agg cs2)
    (h : wpList P ops Q rest ((a.put o1.dst (.pointer (some ⟨w.heap.size, 0, none⟩))).put o2.dst (.pointer (some ⟨w.heap.size + 1, 0, none⟩))) ((w.alloc (.cells cs1 t)).alloc (.cells cs2 t))) :
    wpList P ops Q (o1 :: o2 :: o3 :: o4 :: rest) a w := by
  have hsz : (w.alloc (.cells Z t)).heap.size = w.heap.size + 1 := by simp
  have hsz1 : (w.alloc (.cells cs1 t)).heap.size = w.heap.size + 1 := by simp
  refine wpl_alloc Z hz g1 p1 ?_
  refine wpl_alloc Z hz g2 p2 ?_
  rw [hsz]
  refine wpl_storeB ((Blk.new w t Z).alloc _) ht hs1 hZ g3 x3 y3 p3 e3 f3 d3 ?_
  rw [setRow_alloc2]
  refine wpl_storeB (g := w.heap.size + 1) (e := t) (cur := Z) (by have := Blk.new (w.alloc (.cells cs1 t)) t Z; rwa [hsz1] at this) ht hs2 hZ g4 x4 y4 p4 e4 f4 d4 ?_
  have := setRow_alloc (w.alloc (.cells cs1 t)) Z cs2 t
  rw [hsz1] at this
  rw [this]
  exact h
/-- the same load where a guard lets it by -/
theorem wpl_loadBW {P : Program} {ops : Array Oper} {rest : List Oper} {o : Oper} {a : Act} {w : World} {Q : Exit → Act → World → Prop} {t g e n : Nat} {cs : Array Value} (hb : Blk w g e cs) (ht : Agg P t n) (hn : cs.size = n) (hw : Region.wanted o (yielded ops a.tmps) = true) (x : Operand) (ho : o.op = .load t x) (hx : a.eval x = .pointer (some ⟨g, 0, none⟩))
    (h : wpList P ops Q rest (a.put o.dst (.agg cs)) w) : wpList P ops Q (o :: rest) a w := by
  refine wpList_want hw fun K hK => ?_
  unfold Oper.wp execOp
  simp only [ho, hx, Instr.loadAt, Instr.sureAddr, Sem.run_bind, Sem.run_pure, Result.andThen_ok, run_loadB hb ht hn]
  exact hK _ _ h
end Go.Proofs.Ytmndkbheehcoaaa
/- The texts that mark entries. No condition. -/
namespace Go.Proofs.Ytmndkbheehcoaaa
open Go.RowKit
set_option linter.unusedVariables false
set_option linter.unusedSimpArgs false

theorem convS {A : Option Addr} {cap : Nat} {xs : List Int} {w : World} {S : Nat → Prop} (h : RdL tByte w S (.slice A xs.length cap) xs) : (convert 56 9 (.slice A xs.length cap)).run Try.prog w = .ok (.string (strOfNums xs)) w := by
  obtain ⟨A', cap', e, hcap, hlen, hrd, hok⟩ := h
  obtain ⟨rfl, _, rfl⟩ := Value.slice.inj e
  rw [flat_bytes] at hrd
  rcases Nat.eq_zero_or_pos xs.length with h0 | h0
  · obtain rfl : xs = [] := List.eq_nil_of_length_eq_zero h0
    rw [run_convert_bytes_string w _ _ _ A _ cap Try.underlying56 Try.underlying5 Try.underlying9]
    cases A <;> simp [Conv.bytesToString, loadCells] <;> rfl
  · obtain ⟨g, o, rfl, _, hc⟩ := hrd.2 h0
    exact run_convert_bytes_arg w _ _ Try.underlying56 Try.underlying5 g o xs.length cap xs rfl (fun i hi => hc i _ (nums_at _ _ _ hi)) _ Try.underlying9
/-- the digits of n ahead of s -/
def digs (n : Nat) (s : ByteArray) : ByteArray := if n = 0 then s else digs (n / 10) (strOfNums [(48 + (n % 10 : Nat) : Int)] ++ s)
termination_by n
decreasing_by omega
theorem digs_zero (s : ByteArray) : digs 0 s = s := by rw [digs]; rfl
theorem digs_pos {n : Nat} (h : 0 < n) (s : ByteArray) : digs n s = digs (n / 10) (strOfNums [(48 + (n % 10 : Nat) : Int)] ++ s) := by rw [digs, if_neg (by omega)]
/-- the text of a mark -/
@[irreducible] def mtxt (m : Int) : ByteArray := ⟨#[109]⟩ ++ digs m.toNat ⟨#[]⟩
theorem mtxt_eq (m : Int) : mtxt m = ⟨#[109]⟩ ++ digs m.toNat ⟨#[]⟩ := by rw [mtxt]
set_option maxHeartbeats 1000000 in
set_option maxRecDepth 100000 in
theorem markText_any (m : Int) (h0 : 0 < m) (h1 : m ≤ 1000000000000000) (w : World) :
    Calls Try.prog 94 #[.int .i64 m] w fun e w' => e = .returned (.string (mtxt m)) ∧ Ext w w' := by
  obtain ⟨M, rfl⟩ : ∃ M : Nat, m = (M : Int) := ⟨m.toNat, by omega⟩
  have HT := Lib.hid (mtxt_eq (M : Int))
  go_enter Try.func94, Try.ntmps94
  go_wp2
  go_loopw [0, 3] (fun q s wr => ∃ (k : Nat) (S : ByteArray), k ≤ M ∧ q = .int .i64 k ∧ s = .string S ∧ digs k S = digs M ⟨#[]⟩ ∧ S.size + k ≤ M ∧ Ext w wr) (fun q _ _ => (intOf q).toNat)
  case atStart => exact ⟨M, _, by omega, rfl, rfl, rfl, by show 0 + M ≤ M; omega, Ext.refl _⟩
  case round =>
    obtain ⟨k, S, hk, rfl, rfl, hd, hz, hx⟩ := hrel
    have HX := Lib.hid hx
    have HD := Lib.hid hd
    clear hx hd
    by_cases hp : 0 < k
    · have hcv : ∀ (W : World) (v : Int), v = 48 + ((k % 10 : Nat) : Int) → (convert 56 9 (.slice (some ⟨W.heap.size, 0, none⟩) 1 1)).run Try.prog (W.alloc (.cells #[.int .u8 v] 5)) = .ok (.string (strOfNums [(48 + (k % 10 : Nat) : Int)])) (W.alloc (.cells #[.int .u8 v] 5)) := by
        rintro W v rfl
        exact convS (xs := [(48 + (k % 10 : Nat) : Int)]) (Own.of_blk8 (base := 0) (e := 5) (Blk.new W 5 _) (Nat.zero_le _) (by simp) (by intro y hy; simp at hy; subst hy; omega)).rd
      have HC := Lib.hid hcv
      have hs1 : (strOfNums [48 + (k : Int) % 10]).size = 1 := strOfNums_size _
      have hcc : ((k % 10 : Nat) : Int) = (k : Int) % 10 := by omega
      have he : digs (k / 10) (strOfNums [48 + (k : Int) % 10] ++ S) = digs M ⟨#[]⟩ := by
        rw [← HD.out, digs_pos hp, hcc]
      have hz2 : (strOfNums [48 + (k : Int) % 10] ++ S).size + k / 10 ≤ M := by
        rw [ByteArray.size_append, hs1]; omega
      have HE := Lib.hid he
      have HZ := Lib.hid hz2
      clear he hz2
      go_wp2
      go_roundw
      case rel => exact ⟨k / 10, _, by omega, by go_num, rfl, HE.out, HZ.out, HX.out.alloc _⟩
      case measure => simp [intOf]; omega
    · obtain rfl : k = 0 := by omega
      go_wp2
      go_ret
      exact ⟨by rw [HT.out]; simp; rw [← HD.out, digs_zero], HX.out⟩
end Go.Proofs.Ytmndkbheehcoaaa
/- A node is read from its bytes. No condition. -/
namespace Go.Proofs.Ytmndkbheehcoaaa
open Go.RowKit
set_option linter.unusedVariables false
set_option linter.unusedSimpArgs false

theorem strOf_strL (s : ByteArray) : strOfNums (strL s) = s := by
  unfold strL
  have h : ∀ l : List UInt8, (l.map fun b => (b.toNat : Int)).map (fun n => UInt8.ofNat n.toNat) = l := by
    intro l
    rw [List.map_map]
    conv => rhs; rw [← List.map_id l]
    refine List.map_congr_left fun b _ => ?_
    simp
  apply ByteArray.ext
  apply Array.toList_inj.1
  exact h s.data.toList
theorem conv_at {A : Option Addr} {cap : Nat} {xs : List Int} {w : World} {g o : Nat} (hA : A = some ⟨g, o, none⟩) (hc : ∀ j u, (nums .u8 xs)[j]? = some u → w.cell? ⟨g, o + j, none⟩ = some u) : (convert 56 9 (.slice A xs.length cap)).run Try.prog w = .ok (.string (strOfNums xs)) w := by
  subst hA
  rcases Nat.eq_zero_or_pos xs.length with h0 | h0
  · obtain rfl : xs = [] := List.eq_nil_of_length_eq_zero h0
    rw [run_convert_bytes_string w _ _ _ (some ⟨g, o, none⟩) _ cap Try.underlying56 Try.underlying5 Try.underlying9]
    simp [Conv.bytesToString, loadCells]
    rfl
  · exact run_convert_bytes_arg w _ _ Try.underlying56 Try.underlying5 g o xs.length cap xs rfl (fun i hi => hc i _ (nums_at _ _ _ hi)) _ Try.underlying9
/-- what is read of a node's bytes -/
structure NdRd (w : World) (x : Nd) (g o cap : Nat) : Prop where
  l : ∀ W, Ext w W → ∀ j u, (nums .u8 x.l)[j]? = some u → W.cell? ⟨g, o + j, none⟩ = some u
  r : ∀ W, Ext w W → ∀ j u, (nums .u8 x.r)[j]? = some u → W.cell? ⟨g, o + 32 + j, none⟩ = some u
  c : ∀ W, Ext w W → W.cell? ⟨g, o + 64, none⟩ = some (.int .u8 x.n.size)
  n : ∀ W, Ext w W → ∀ q, (convert 56 9 (.slice (some ⟨g, o + 65, none⟩) x.n.size q)).run Try.prog W = .ok (.string x.n) W
  v : ∀ W, Ext w W → ∀ q, (convert 56 9 (.slice (some ⟨g, o + (65 + x.n.size), none⟩) x.v.size q)).run Try.prog W = .ok (.string x.v) W
theorem ndRd_of {w : World} {S : Nat → Prop} {x : Nd} (hok : x.ok) (he : entB x.n x.v = true) {A : Option Addr} {cap : Nat} (h : RdL tByte w S (.slice A (nodeL x).length cap) (nodeL x)) : ∃ g o, A = some ⟨g, o, none⟩ ∧ NdRd w x g o cap := by
  have hl := nodeL_length hok
  have hn := entB_le he
  obtain ⟨A', c', e, h1, h2, h3, h4⟩ := h
  injection e with e1 e2 e3
  subst e1 e3
  obtain ⟨g, o, rfl, hs, hc⟩ := h3.2 (by omega)
  rw [flat_bytes, nodeL_eq, show (x.n.size : Int) % 256 = x.n.size by omega] at hc
  have hll : (nums .u8 x.l).length = 32 := by rw [nums_length, hok.1.1]
  have hrl : (nums .u8 x.r).length = 32 := by rw [nums_length, hok.2.1.1]
  have hnl : (nums .u8 (strL x.n)).length = x.n.size := by rw [nums_length, strL_length]
  have hvl : (nums .u8 (strL x.v)).length = x.v.size := by rw [nums_length, strL_length]
  have h1l : (nums .u8 [(x.n.size : Int)]).length = 1 := rfl
  simp only [nums_append] at hc
  refine ⟨g, o, rfl, ⟨fun W hW j u hu => hW.cell (hc j u ?_), fun W hW j u hu => ?_, fun W hW => hW.cell (hc 64 _ ?_), fun W hW q => ?_, fun W hW q => ?_⟩⟩
  · have hj := (List.getElem?_eq_some_iff.1 hu).1
    rw [List.getElem?_append_left (by simp only [List.length_append, hll]; omega), List.getElem?_append_left (by simp only [List.length_append, hll]; omega), List.getElem?_append_left (by simp only [List.length_append, hll]; omega), List.getElem?_append_left hj]
    exact hu
  · have hj := (List.getElem?_eq_some_iff.1 hu).1
    rw [Nat.add_assoc]
    refine hW.cell (hc (32 + j) u ?_)
    rw [List.getElem?_append_left (by simp only [List.length_append, hll, hrl]; omega), List.getElem?_append_left (by simp only [List.length_append, hll, hrl]; omega), List.getElem?_append_left (by simp only [List.length_append, hll, hrl]; omega), List.getElem?_append_right (by omega), hll, Nat.add_sub_cancel_left]
    exact hu
  · rw [List.getElem?_append_left (by simp only [List.length_append, hll, hrl, h1l, hnl]; omega), List.getElem?_append_left (by simp only [List.length_append, hll, hrl, h1l]; omega), List.getElem?_append_right (by simp only [List.length_append, hll, hrl]; omega)]
    simp only [List.length_append, hll, hrl]
    rfl
  · have := conv_at (cap := q) (xs := strL x.n) (w := W) (g := g) (o := o + 65) rfl (fun j u hu => by
      have hj := (List.getElem?_eq_some_iff.1 hu).1
      rw [Nat.add_assoc]
      refine hW.cell (hc (65 + j) u ?_)
      rw [List.getElem?_append_left (by simp only [List.length_append, hll, hrl, h1l, hnl]; rw [hnl] at hj; omega), List.getElem?_append_right (by simp only [List.length_append, hll, hrl, h1l]; omega)]
      have e : 65 + j - (nums .u8 x.l ++ nums .u8 x.r ++ nums .u8 [(x.n.size : Int)]).length = j := by simp only [List.length_append, hll, hrl, h1l]; omega
      rw [e]; exact hu)
    rw [strL_length, strOf_strL] at this
    exact this
  · have := conv_at (cap := q) (xs := strL x.v) (w := W) (g := g) (o := o + (65 + x.n.size)) rfl (fun j u hu => by
      have hj := (List.getElem?_eq_some_iff.1 hu).1
      rw [Nat.add_assoc]
      refine hW.cell (hc (65 + x.n.size + j) u ?_)
      rw [List.getElem?_append_right (by simp only [List.length_append, hll, hrl, hnl, h1l]; omega)]
      have e : 65 + x.n.size + j - (nums .u8 x.l ++ nums .u8 x.r ++ nums .u8 [(x.n.size : Int)] ++ nums .u8 (strL x.n)).length = j := by simp only [List.length_append, hll, hrl, hnl, h1l]; omega
      rw [e]; exact hu)
    rw [strL_length, strOf_strL] at this
    exact this
theorem results_bt {P : Program} {w : World} {fn : Func} {c d : Tmp} {t g e n : Nat} {cs : Array Value} (hr : fn.results = #[.cell c t, .tmp d]) (tmps : Array Value) (hp : tmps.getD c undef = .pointer (some ⟨g, 0, none⟩)) (ht : Agg P t n) (hn : cs.size = n) (hb : Blk w g e cs) {v : Value} (hv : tmps.getD d undef = v) :
    (results fn tmps).run P w = .ok (.tuple #[.agg cs, v]) w := by
  have hl := run_loadB (P := P) hb ht hn
  have hp' : tmps[c]?.getD undef = .pointer (some ⟨g, 0, none⟩) := by simpa using hp
  have hv' : tmps[d]?.getD undef = v := by simpa using hv
  simp [results, hr, hp', hv', asAddr, hl]
set_option maxHeartbeats 1000000 in
set_option maxRecDepth 100000 in
theorem readNode_any (x : Nd) (hok : x.ok) (he : entB x.n x.v = true) (v : Value) (w : World) (S : Nat → Prop) (h : RdL tByte w S v (nodeL x)) :
    Calls Try.prog 44 #[v] w fun e w' => e = .returned (.tuple #[.agg x.enc.toArray, .int .i64 0]) ∧ Ext w w' := by
  have hl := nodeL_length hok
  have hn := entB_le he
  have hvE := fun W => validEntry_any x.n x.v hok.2.2.1 hok.2.2.2 W
  simp only [he] at hvE
  obtain ⟨A, cap, rfl, hcap, hlen, _⟩ := id h
  obtain ⟨g, o, rfl, hR⟩ := ndRd_of hok he h
  have HR := Lib.hid hR
  have HST := Lib.hid (Nd.st hok)
  have HOK := Lib.hid hok
  have hsz := HST.out.size
  have c64 : ∀ z, (w.alloc z).cell? ⟨g, o + 64, none⟩ = some (.int .u8 x.n.size) := fun z => HR.out.c _ (ext_alloc _ _)
  rw [hl] at hcap ⊢
  obtain ⟨N, hN⟩ : ∃ N, x.n.size = N := ⟨_, rfl⟩
  obtain ⟨V, hV⟩ : ∃ V, x.v.size = V := ⟨_, rfl⟩
  rw [hN] at hn c64 hcap ⊢
  rw [hV] at hn hcap ⊢
  have HN := Lib.hid hN
  have HV := Lib.hid hV
  clear hN hV h hR hl hlen hok he
  have hn0 : (0 : Int) ≤ (N : Int) := by omega
  have hnb : (N : Int) ≤ 255 := by omega
  have i1 : ¬ (((65 + N + V : Nat)) : Int) < 65 := by omega
  have i2 : (64 : Int) < ((65 + N + V : Nat) : Int) := by omega
  have i3 : ¬ (((65 + N + V : Nat)) : Int) < 65 + (N : Int) := by omega
  have j1 : (32 : Int) ≤ ((65 + N + V : Nat) : Int) := by omega
  have j2 : ((65 + N + V : Nat) : Int) ≤ (cap : Int) := by omega
  have j3 : (65 : Int) ≤ 65 + (N : Int) := by omega
  have j4 : 65 + (N : Int) ≤ (cap : Int) := by omega
  have j5 : 65 + (N : Int) ≤ ((65 + N + V : Nat) : Int) := by omega
  have j1p : (32 : Int) ≤ 65 + (N : Int) + (V : Int) := by omega
  have j6 : (0 : Int) ≤ 65 + (N : Int) := by omega
  have j5p : 65 + (N : Int) ≤ 65 + (N : Int) + (V : Int) := by omega
  have k1 : ¬ cap = 32 := by omega
  have k2 : ¬ cap = 65 := by omega
  go_enter Try.func44, Try.ntmps44
  go_wp2_with fail
  generalize hwz : (w.alloc (Obj.cells Try.zeroCells31 31)) = wz
  have HXZ := Lib.hid (show Ext w wz by rw [← hwz]; exact ext_alloc _ _)
  have BZ := Lib.hid (show Blk wz w.heap.size 31 Try.zeroCells31 by rw [← hwz]; exact Blk.new _ _ _)
  clear hwz c64
  have HL := Lib.hid (fun W (hW : Ext wz W) => HR.out.l W (HXZ.out.trans hW))
  have HRR := Lib.hid (fun W (hW : Ext wz W) => HR.out.r W (HXZ.out.trans hW))
  have et : (65 + (N : Int)).toNat = 65 + N := by omega
  have hcn : ∀ W, Ext wz W → ∀ q, (convert 56 9 (.slice (some ⟨g, o + 65, none⟩) ((65 + (N : Int)).toNat - 65) q)).run Try.prog W = .ok (.string x.n) W := fun W hW q => by rw [et, Nat.add_sub_cancel_left, ← HN.out]; exact HR.out.n W (HXZ.out.trans hW) q
  have hcv0 : ∀ W, Ext wz W → ∀ q, (convert 56 9 (.slice (some ⟨g, o + (65 + (N : Int)).toNat, none⟩) (65 + N + V - (65 + (N : Int)).toNat) q)).run Try.prog W = .ok (.string x.v) W := fun W hW q => by rw [et, Nat.add_sub_cancel_left, ← HN.out, ← HV.out]; exact HR.out.v W (HXZ.out.trans hW) q
  have hcv1 : V = 0 → ∀ W, ∀ q, (convert 56 9 (.slice (some ⟨g, o, none⟩) (65 + N + V - (65 + (N : Int)).toNat) q)).run Try.prog W = .ok (.string x.v) W := fun h0 W q => by
    have e1 : x.v = strOfNums (strL x.v) := (strOf_strL x.v).symm
    have e2 : strL x.v = [] := List.eq_nil_of_length_eq_zero (by rw [strL_length, HV.out, h0])
    rw [et, Nat.add_sub_cancel_left, e1, e2, h0]
    exact conv_at (xs := []) (g := g) (o := o) rfl (fun j u hu => by cases hu)
  have ha1 : ∀ W, (Instr.arrayAt 27 (.slice (some ⟨g, o, none⟩) (65 + N + V) cap)).run Try.prog W = .ok (.pointer (some ⟨g, o, none⟩)) W := fun W => by
    have W7 : ¬ 65 + N + V < 32 := by omega
    simp [Instr.arrayAt, run_underlying (show Try.prog.underlying 27 = some (.array 32 5) by kernel_rfl), W7]
  have ha2 : ∀ W, (Instr.arrayAt 27 (.slice (some ⟨g, o + 32, none⟩) (65 + N + V - 32) (cap - 32))).run Try.prog W = .ok (.pointer (some ⟨g, o + 32, none⟩)) W := fun W => by
    have W7 : ¬ 65 + N + V - 32 < 32 := by omega
    simp [Instr.arrayAt, run_underlying (show Try.prog.underlying 27 = some (.array 32 5) by kernel_rfl), W7]
  obtain ⟨Z, hZ, hcv⟩ : ∃ Z, (if cap = (65 + (N : Int)).toNat then (some ⟨g, o, none⟩ : Option Addr) else some ⟨g, o + (65 + (N : Int)).toNat, none⟩) = Z ∧ ∀ W, Ext wz W → ∀ q, (convert 56 9 (.slice Z (65 + N + V - (65 + (N : Int)).toNat) q)).run Try.prog W = .ok (.string x.v) W := by
    by_cases kc : cap = (65 + (N : Int)).toNat
    · rw [if_pos kc]; exact ⟨_, rfl, fun W _ q => hcv1 (by omega) W q⟩
    · rw [if_neg kc]; exact ⟨_, rfl, hcv0⟩
  clear et hcv0 hcv1
  refine wp_region_held_drew (S := fun W => Ext wz W) (by kernel_rfl) (Ext.refl _).drew (fun hHeld => ?_)
  refine wpAnyH_take (i := 0) (oi := ?oiz1) (v := ?vz1) ?hiz1 (by kernel_rfl) (by kernel_rfl) (by kernel_rfl) ?hQz1 ?hyz1 (by assumption) ?restz1
  case hiz1 => simp only [List.getElem?_toArray, List.getElem?_cons_zero, List.getElem?_cons_succ]; rfl
  case hQz1 => exact fun _ _ _ h => h
  case hyz1 => exact Or.inl ⟨by rfl, by intro w hSw; (try dsimp only at hSw); go_simp; with_reducible rfl⟩
  try simp only [Act.put, List.setIfInBounds_toArray, List.set_cons_zero, List.set_cons_succ]
  refine wpAnyH_take (i := 1) (oi := ?oiz2) (v := ?vz2) ?hiz2 (by kernel_rfl) (by kernel_rfl) (by kernel_rfl) ?hQz2 ?hyz2 (by assumption) ?restz2
  case hiz2 => simp only [List.getElem?_toArray, List.getElem?_cons_zero, List.getElem?_cons_succ]; rfl
  case hQz2 => exact fun _ _ _ h => h
  case hyz2 => exact Or.inl ⟨by rfl, by intro w hSw; (try dsimp only at hSw); go_simp; with_reducible rfl⟩
  try simp only [Act.put, List.setIfInBounds_toArray, List.set_cons_zero, List.set_cons_succ]
  refine wpAnyH_take (i := 2) (oi := ?oiz3) (v := (.agg (nums .u8 x.l).toArray)) ?hiz3 (by kernel_rfl) (by kernel_rfl) (by kernel_rfl) ?hQz3 ?hyz3 (by assumption) ?restz3
  case hiz3 => simp only [List.getElem?_toArray, List.getElem?_cons_zero, List.getElem?_cons_succ]; rfl
  case hQz3 => exact fun _ _ _ h => h
  case hyz3 => refine yields_loadS g o (nums .u8 x.l) (by rw [nums_length, HOK.out.1.1]; exact aggKey) (fun W hW => HL.out W hW) ?_ _ rfl rfl; rfl
  try simp only [Act.put, List.setIfInBounds_toArray, List.set_cons_zero, List.set_cons_succ]
  refine wpAnyH_take (i := 3) (oi := ?oiz4) (v := ?vz4) ?hiz4 (by kernel_rfl) (by kernel_rfl) (by kernel_rfl) ?hQz4 ?hyz4 (by assumption) ?restz4
  case hiz4 => simp only [List.getElem?_toArray, List.getElem?_cons_zero, List.getElem?_cons_succ]; rfl
  case hQz4 => exact fun _ _ _ h => h
  case hyz4 => exact Or.inl ⟨by rfl, by intro w hSw; (try dsimp only at hSw); go_simp; with_reducible rfl⟩
  try simp only [Act.put, List.setIfInBounds_toArray, List.set_cons_zero, List.set_cons_succ]
  refine wpAnyH_take (i := 4) (oi := ?oiz5) (v := ?vz5) ?hiz5 (by kernel_rfl) (by kernel_rfl) (by kernel_rfl) ?hQz5 ?hyz5 (by assumption) ?restz5
  case hiz5 => simp only [List.getElem?_toArray, List.getElem?_cons_zero, List.getElem?_cons_succ]; rfl
  case hQz5 => exact fun _ _ _ h => h
  case hyz5 => exact Or.inl ⟨by rfl, by intro w hSw; (try dsimp only at hSw); go_simp; with_reducible rfl⟩
  try simp only [Act.put, List.setIfInBounds_toArray, List.set_cons_zero, List.set_cons_succ]
  refine wpAnyH_take (i := 5) (oi := ?oiz6) (v := ?vz6) ?hiz6 (by kernel_rfl) (by kernel_rfl) (by kernel_rfl) ?hQz6 ?hyz6 (by assumption) ?restz6
  case hiz6 => simp only [List.getElem?_toArray, List.getElem?_cons_zero, List.getElem?_cons_succ]; rfl
  case hQz6 => exact fun _ _ _ h => h
  case hyz6 => exact Or.inl ⟨by rfl, by intro w hSw; (try dsimp only at hSw); go_simp; with_reducible rfl⟩
  try simp only [Act.put, List.setIfInBounds_toArray, List.set_cons_zero, List.set_cons_succ]
  refine wpAnyH_take (i := 6) (oi := ?oiz7) (v := (.agg (nums .u8 x.r).toArray)) ?hiz7 (by kernel_rfl) (by kernel_rfl) (by kernel_rfl) ?hQz7 ?hyz7 (by assumption) ?restz7
  case hiz7 => simp only [List.getElem?_toArray, List.getElem?_cons_zero, List.getElem?_cons_succ]; rfl
  case hQz7 => exact fun _ _ _ h => h
  case hyz7 => refine yields_loadS g (o + 32) (nums .u8 x.r) (by rw [nums_length, HOK.out.2.1.1]; exact aggKey) (fun W hW => HRR.out W hW) ?_ _ rfl rfl; rfl
  try simp only [Act.put, List.setIfInBounds_toArray, List.set_cons_zero, List.set_cons_succ]
  refine wpAnyH_take (i := 7) (oi := ?oiz8) (v := ?vz8) ?hiz8 (by kernel_rfl) (by kernel_rfl) (by kernel_rfl) ?hQz8 ?hyz8 (by assumption) ?restz8
  case hiz8 => simp only [List.getElem?_toArray, List.getElem?_cons_zero, List.getElem?_cons_succ]; rfl
  case hQz8 => exact fun _ _ _ h => h
  case hyz8 => exact Or.inl ⟨by rfl, by intro w hSw; (try dsimp only at hSw); go_simp; with_reducible rfl⟩
  try simp only [Act.put, List.setIfInBounds_toArray, List.set_cons_zero, List.set_cons_succ]
  refine wpAnyH_take (i := 8) (oi := ?oiz9) (v := ?vz9) ?hiz9 (by kernel_rfl) (by kernel_rfl) (by kernel_rfl) ?hQz9 ?hyz9 (by assumption) ?restz9
  case hiz9 => simp only [List.getElem?_toArray, List.getElem?_cons_zero, List.getElem?_cons_succ]; rfl
  case hQz9 => exact fun _ _ _ h => h
  case hyz9 => exact Or.inl ⟨by rfl, by intro w hSw; (try dsimp only at hSw); go_simp; with_reducible rfl⟩
  try simp only [Act.put, List.setIfInBounds_toArray, List.set_cons_zero, List.set_cons_succ]
  refine wpAnyH_take (i := 9) (oi := ?oiz10) (v := ?vz10) ?hiz10 (by kernel_rfl) (by kernel_rfl) (by kernel_rfl) ?hQz10 ?hyz10 (by assumption) ?restz10
  case hiz10 => simp only [List.getElem?_toArray, List.getElem?_cons_zero, List.getElem?_cons_succ]; rfl
  case hQz10 => exact fun _ _ _ h => h
  case hyz10 => exact Or.inl ⟨by rfl, by intro w hSw; (try dsimp only at hSw); go_simp; with_reducible rfl⟩
  try simp only [Act.put, List.setIfInBounds_toArray, List.set_cons_zero, List.set_cons_succ]
  refine wpAnyH_take (i := 10) (oi := ?oiz11) (v := (.string x.n)) ?hiz11 (by kernel_rfl) (by kernel_rfl) (by kernel_rfl) ?hQz11 ?hyz11 (by assumption) ?restz11
  case hiz11 => simp only [List.getElem?_toArray, List.getElem?_cons_zero, List.getElem?_cons_succ]; rfl
  case hQz11 => exact fun _ _ _ h => h
  case hyz11 => exact Or.inl ⟨by rfl, by intro w hSw; (try dsimp only at hSw); have hcq := hcn w hSw; go_simp; (try with_reducible rfl)⟩
  try simp only [Act.put, List.setIfInBounds_toArray, List.set_cons_zero, List.set_cons_succ]
  refine wpAnyH_take (i := 11) (oi := ?oiz12) (v := ?vz12) ?hiz12 (by kernel_rfl) (by kernel_rfl) (by kernel_rfl) ?hQz12 ?hyz12 (by assumption) ?restz12
  case hiz12 => simp only [List.getElem?_toArray, List.getElem?_cons_zero, List.getElem?_cons_succ]; rfl
  case hQz12 => exact fun _ _ _ h => h
  case hyz12 => exact Or.inl ⟨by rfl, by intro w hSw; (try dsimp only at hSw); go_simp; with_reducible rfl⟩
  try simp only [Act.put, List.setIfInBounds_toArray, List.set_cons_zero, List.set_cons_succ]
  refine wpAnyH_take (i := 12) (oi := ?oiz13) (v := ?vz13) ?hiz13 (by kernel_rfl) (by kernel_rfl) (by kernel_rfl) ?hQz13 ?hyz13 (by assumption) ?restz13
  case hiz13 => simp only [List.getElem?_toArray, List.getElem?_cons_zero, List.getElem?_cons_succ]; rfl
  case hQz13 => exact fun _ _ _ h => h
  case hyz13 => exact Or.inl ⟨by rfl, by intro w hSw; (try dsimp only at hSw); go_simp; with_reducible rfl⟩
  try simp only [Act.put, List.setIfInBounds_toArray, List.set_cons_zero, List.set_cons_succ]
  refine wpAnyH_take (i := 13) (oi := ?oiz14) (v := ?vz14) ?hiz14 (by kernel_rfl) (by kernel_rfl) (by kernel_rfl) ?hQz14 ?hyz14 (by assumption) ?restz14
  case hiz14 => simp only [List.getElem?_toArray, List.getElem?_cons_zero, List.getElem?_cons_succ]; rfl
  case hQz14 => exact fun _ _ _ h => h
  case hyz14 => exact Or.inl ⟨by rfl, by intro w hSw; (try dsimp only at hSw); go_simp; with_reducible rfl⟩
  try simp only [Act.put, List.setIfInBounds_toArray, List.set_cons_zero, List.set_cons_succ]
  refine wpAnyH_take (i := 14) (oi := ?oiz15) (v := (.string x.v)) ?hiz15 (by kernel_rfl) (by kernel_rfl) (by kernel_rfl) ?hQz15 ?hyz15 (by assumption) ?restz15
  case hiz15 => simp only [List.getElem?_toArray, List.getElem?_cons_zero, List.getElem?_cons_succ]; rfl
  case hQz15 => exact fun _ _ _ h => h
  case hyz15 => exact Or.inl ⟨by rfl, by intro w hSw; (try dsimp only at hSw); have hcq := hcv w hSw; go_simp; (try with_reducible rfl)⟩
  try simp only [Act.put, List.setIfInBounds_toArray, List.set_cons_zero, List.set_cons_succ]
  refine wpAnyH_take (i := 15) (oi := ?oiz16) (v := ?vz16) ?hiz16 (by kernel_rfl) (by kernel_rfl) (by kernel_rfl) ?hQz16 ?hyz16 (by assumption) ?restz16
  case hiz16 => simp only [List.getElem?_toArray, List.getElem?_cons_zero, List.getElem?_cons_succ]; rfl
  case hQz16 => exact fun _ _ _ h => h
  case hyz16 => exact Or.inl ⟨by rfl, by intro w hSw; (try dsimp only at hSw); go_simp; with_reducible rfl⟩
  try simp only [Act.put, List.setIfInBounds_toArray, List.set_cons_zero, List.set_cons_succ]
  refine wpAnyH_take (i := 16) (oi := ?oiz17) (v := (.agg x.enc.toArray)) ?hiz17 (by kernel_rfl) (by kernel_rfl) (by kernel_rfl) ?hQz17 ?hyz17 (by assumption) ?restz17
  case hiz17 => simp only [List.getElem?_toArray, List.getElem?_cons_zero, List.getElem?_cons_succ]; rfl
  case hQz17 => exact fun _ _ _ h => h
  case hyz17 => refine yields_build ?_ rfl (built_node x HOK.out); rfl
  try simp only [Act.put, List.setIfInBounds_toArray, List.set_cons_zero, List.set_cons_succ]
  generalize hw9 : wz.drew = w9 at hHeld ⊢
  have HX9 := Lib.hid (show Ext wz w9 by rw [← hw9]; exact (Ext.refl _).drew)
  clear hw9
  refine wpAnyH_ready (rs := [17]) (by kernel_rfl) (by simp) (AllReadyH.cons (o := ?oy1817) ?hy1817 (fun K hK => ?sy1817) AllReadyH.nil)
  case hy1817 => simp only [List.getElem?_toArray, List.getElem?_cons_zero, List.getElem?_cons_succ]; rfl
  refine stp_alloc zNd.toArray (by kernel_rfl) rfl rfl ?_
  have hH2 := hHeld.alloc (.cells zNd.toArray 31)
  refine hK.out _ _ hH2 (fun _ => ?_)
  clear hK K hH2
  try simp only [Act.put, List.setIfInBounds_toArray, List.set_cons_zero, List.set_cons_succ]
  refine wpAnyH_ready (rs := [18]) (by kernel_rfl) (by simp) (AllReadyH.cons (o := ?oy1918) ?hy1918 (fun K hK => ?sy1918) AllReadyH.nil)
  case hy1918 => simp only [List.getElem?_toArray, List.getElem?_cons_zero, List.getElem?_cons_succ]; rfl
  refine stp_storeP (Blk.new w9 31 _) aggNodeI HST.out (by simp [zNd]) rfl _ _ rfl rfl rfl rfl ?_
  have hH3 := hHeld.alloc (.cells x.enc.toArray 31)
  rw [splice_all _ _ (by rw [Array.length_toList, HST.out.size]; rfl), setRow_alloc, Array.toArray_toList]
  refine hK.out _ _ hH3 (fun _ => ?_)
  clear hK K hH3 hHeld
  try simp only [Act.put, List.setIfInBounds_toArray, List.set_cons_zero, List.set_cons_succ]
  refine wpAnyH_done (by kernel_rfl) ?_ _
  have B5 := Lib.hid (Blk.new w9 31 x.enc.toArray)
  have XW := Lib.hid ((HXZ.out.trans HX9.out).alloc (.cells x.enc.toArray 31))
  have B2 := Lib.hid ((BZ.out.ext HX9.out).alloc (.cells x.enc.toArray 31))
  generalize w9.alloc (.cells x.enc.toArray 31) = w10 at B5 B2 XW ⊢
  clear HL HRR hcn hcv ha1 ha2 hZ
  go_wp2_with (refine wpl_loadP (off := 64) (sub := #[.string x.n, .string x.v]) B5.out aggEntryI rfl (Nd.ent HOK.out) rfl _ rfl rfl ?_)
  refine (hvE _).mono ?_
  rintro e w11 ⟨rfl, hx⟩
  replace B5 := Lib.hid (B5.out.ext hx)
  replace B2 := Lib.hid (B2.out.ext hx)
  replace XW := Lib.hid (XW.out.trans hx)
  clear hx
  go_wp2_with (first | (refine wpl_loadB B5.out aggNodeI hsz rfl _ rfl rfl ?_) | (refine wpl_storeB B2.out aggNodeI HST.out rfl rfl _ _ rfl rfl rfl rfl ?_))
  refine bodyPost_ret (results_bt rfl _ rfl aggNodeI hsz (B2.out.setRow _) rfl) rfl ?_
  exact ⟨rfl, XW.out.setRow (Nat.le_refl _) _⟩
end Go.Proofs.Ytmndkbheehcoaaa
/- The bytes of a node, a hash, and two keys compared, as they are asked for. No condition. -/
namespace Go.Proofs.Ytmndkbheehcoaaa
open Go.RowKit
set_option linter.unusedVariables false
set_option linter.unusedSimpArgs false

set_option maxHeartbeats 1000000 in
set_option maxRecDepth 100000 in
theorem mapNodeBytes_any (x : Nd) (hok : x.ok) (he : entB x.n x.v = true) (w : World) :
    Calls Try.prog 43 #[.agg x.enc.toArray] w fun e w' => ∃ v', e = .returned (.tuple #[v', .int .i64 0]) ∧ Own tByte 5 w' w.heap.size v' (nodeL x) ∧ Ext w w' := by
  have hc := fun W => validEntry_any x.n x.v hok.2.2.1 hok.2.2.2 W
  simp only [he] at hc
  have hsz := (Nd.st hok).size
  go_enter Try.func43, Try.ntmps43
  go_wp2_with (refine wpl_loadP (off := 64) (sub := #[.string x.n, .string x.v]) (Blk.new w _ _) aggEntryI rfl (Nd.ent hok) rfl _ rfl rfl ?_)
  refine (hc _).mono ?_
  rintro e w1 ⟨rfl, hx⟩
  have B0 := Lib.hid ((Blk.new w 31 x.enc.toArray).ext hx)
  have XW := Lib.hid ((ext_alloc w _).trans hx)
  clear hx hc
  go_wp2_with (refine wpl_loadB B0.out aggNodeI hsz rfl _ rfl rfl ?_)
  refine (nodeBytes_any x hok he _).mono ?_
  rintro e w2 ⟨v2, rfl, ho, hx⟩
  have HO := Lib.hid (ho.le (base' := w.heap.size) XW.out.size)
  replace XW := Lib.hid (XW.out.trans hx)
  obtain ⟨A2, n2, q2, rfl⟩ := ho.shape3
  clear ho hx
  go_wp2
  go_ret2
  exact ⟨_, rfl, HO.out, XW.out⟩
set_option maxHeartbeats 1000000 in
set_option maxRecDepth 100000 in
theorem specHashOf_any (tag : Int) (ht : 0 ≤ tag ∧ tag ≤ 255) (v : Value) (xs : List Int) (w : World) (S : Nat → Prop) (h : RdL tByte w S v xs) (hl : xs.length ≤ 4096) :
    Calls Try.prog 45 #[.int .u8 tag, v] w fun e w' => e = .returned (.tuple #[.agg (numsA .u8 (hashL tag xs)), .int .i64 0]) ∧ Ext w w' := by
  have hk := (hashL_ok tag xs).1
  have H := Lib.hid h
  obtain ⟨A, cap, rfl, _⟩ := h
  have hl2 : ¬ (4096 : Int) < (xs.length : Int) := by omega
  go_enter Try.func45, Try.ntmps45
  go_wp2_with fail
  refine (l01Hash_any tag ht _ xs _ _ (H.out.ext (by decide) (ext_alloc _ _)) (by omega)).mono ?_
  rintro e w1 ⟨rfl, hx⟩
  have B1 := Lib.hid ((Blk.new w 27 _).ext hx)
  have XW := Lib.hid ((ext_alloc w _).trans hx)
  clear hx
  go_wp2_with (refine wpl_storeN B1.out aggKey hk rfl rfl _ _ rfl rfl rfl rfl ?_)
  refine bodyPost_ret (results_blk2 rfl _ rfl aggKey hk (B1.out.setRow _) rfl) rfl ?_
  exact ⟨rfl, XW.out.setRow (Nat.le_refl _) _⟩
set_option maxHeartbeats 1000000 in
set_option maxRecDepth 100000 in
theorem specCompareKeys_any (a b : List Int) (ha : K32 a) (hb : K32 b) (w : World) :
    Calls Try.prog 47 #[.agg (numsA .u8 a), .agg (numsA .u8 b)] w fun e w' => e = .returned (.int .i64 (cmpL a b)) ∧ Ext w w' := by
  have h1 := ha.1
  have h2 := hb.1
  go_enter Try.func47, Try.ntmps47
  go_wp2_with (first
    | (refine wpl_loadN ((Blk.new w 27 (numsA .u8 a)).alloc _) aggKey h1 rfl _ rfl rfl ?_)
    | (refine wpl_loadN (Blk.new' (g := w.heap.size + 1) (w := w.alloc _) (by simp) 27 (numsA .u8 b)) aggKey h2 rfl _ rfl rfl ?_))
  refine (l01Compare_any a b ha hb _).mono ?_
  rintro e w1 ⟨rfl, hx⟩
  have XW := Lib.hid (((ext_alloc w _).alloc _).trans hx)
  clear hx
  go_wp2
  go_ret
  exact ⟨rfl, XW.out⟩
end Go.Proofs.Ytmndkbheehcoaaa
/- A path that is looked at: the reference. No condition. -/
namespace Go.Proofs.Ytmndkbheehcoaaa
open Go.RowKit
set_option linter.unusedVariables false
set_option linter.unusedSimpArgs false

set_option maxHeartbeats 1000000 in
set_option maxRecDepth 100000 in
theorem l04Check_any (root : List Int) (hroot : K32 root) (s : ByteArray) (v : Value) (L : List Nd) (hN : okNs L = true) (w : World) (S : Nat → Prop) (h : RdL tNd w S v L) :
    Calls Try.prog 80 #[.agg (numsA .u8 root), .string s, v] w fun e w' => e = .returned (.tuple #[.bool (ckF s root L).1, .string (ckF s root L).2.1, .bool (ckF s root L).2.2]) ∧ Ext w w' := by
  obtain ⟨A, cap, rfl, hcap, hlen, hrd, hok⟩ := h
  have Hrd := Lib.hid hrd
  have Hok := Lib.hid hok
  have HEN := Lib.hid (fun k (hk : k < L.length) => okNs_at hN hk)
  have hr1 := hroot.1
  obtain ⟨R, hR⟩ : ∃ R, ckF s root L = R := ⟨_, rfl⟩
  rw [hR]
  have HR := Lib.hid hR
  clear hrd hok hN hR
  go_enter Try.func80, Try.ntmps80
  go_wp2_with (first
    | (refine wpl_loadN (Blk.new w 27 (numsA .u8 root)) aggKey hr1 rfl _ rfl rfl ?_)
    | (refine wpl_storeN (Blk.new' (g := w.heap.size + 1) (w := w.alloc _) (by simp) 27 _) aggKey hr1 rfl rfl _ _ rfl rfl rfl rfl ?_))
  go_loopw [10] (fun i wr => ∃ (k : Nat) (due : List Int), k ≤ L.length ∧ i = .int .i64 k ∧ K32 due ∧ ckF s due (L.drop k) = R ∧ Blk wr (w.heap.size + 1) 27 (numsA .u8 due) ∧ Ext w wr) (fun i _ => L.length - (intOf i).toNat)
  case atStart => exact ⟨0, root, by omega, rfl, hroot, by rw [List.drop_zero]; exact HR.out, (Blk.new' (g := w.heap.size + 1) (w := w.alloc _) (by simp) 27 _).setRow _, ((ext_alloc _ _).alloc _).setRow (by omega) _⟩
  case round =>
    obtain ⟨k, due, hk, rfl, hK, hF, hB, hx⟩ := hrel
    have HX := Lib.hid hx
    have HK := Lib.hid hK
    have HF := Lib.hid hF
    have HB := Lib.hid hB
    clear hx hK hF hB HR hroot
    by_cases hlt : k < L.length
    · obtain ⟨g, o, rfl, hs0, hc⟩ := Hrd.out.elem Hok.out k hlt
      have HD := Lib.hid (List.drop_eq_getElem_cons hlt)
      have hxo : L[k].ok := Hok.out _ (List.getElem_mem hlt)
      have hxe := HEN.out k hlt
      have hn : ∀ W, Ext wr W → ∀ j u, L[k].enc.toArray[j]? = some u → W.cell? ⟨g, o + k * 66 + j, none⟩ = some u := fun W hW j u hu => hW.cell (HX.out.cell (hc j u (by rwa [List.getElem?_toArray] at hu)))
      generalize L[k] = x at HD hxo hxe hn hc
      rw [HD.out, ckF_cons] at HF
      have HXO := Lib.hid hxo
      have HXE := Lib.hid hxe
      have HN := Lib.hid hn
      have HXL := Lib.hid hxo.1
      have HXR := Lib.hid hxo.2.1
      have HKN := Lib.hid (hashL_ok 5 (nodeL x))
      have hi : (0 : Int) ≤ (k : Int) := by omega
      have hi2 : (k : Int) < (L.length : Int) := by omega
      clear hc hxo hxe hn
      by_cases hkey : hashL 5 (nodeL x) = due
      · have hneq : ∀ W, (binOp .neq 27 (.agg (numsA .u8 (hashL 5 (nodeL x)))) (.agg (numsA .u8 due))).run Try.prog W = .ok (.bool false) W := fun W => by
          have := run_neqKey _ due HKN.out HK.out W
          rw [decide_eq_true hkey] at this
          exact this
        have HKEY := Lib.hid hkey
        clear hkey
        go_wp2_with fail
        refine wp_region_held_drew (S := fun W => Ext wr W) (by kernel_rfl) (Ext.refl _).drew (fun hHeld => ?_)
        refine wpAnyH_take (i := 0) (oi := ?oiz1) (v := ?vz1) ?hiz1 (by kernel_rfl) (by kernel_rfl) (by kernel_rfl) ?hQz1 ?hyz1 (by assumption) ?restz1
        case hiz1 => simp only [List.getElem?_toArray, List.getElem?_cons_zero, List.getElem?_cons_succ]; rfl
        case hQz1 => exact fun _ _ _ h => h
        case hyz1 => exact Or.inl ⟨by rfl, by intro w hSw; (try dsimp only at hSw); go_simp; with_reducible rfl⟩
        try simp only [Act.put, List.setIfInBounds_toArray, List.set_cons_zero, List.set_cons_succ]
        refine wpAnyH_take (i := 2) (oi := ?oiz2) (v := (.agg (numsA .u8 due))) ?hiz2 (by kernel_rfl) (by kernel_rfl) (by kernel_rfl) ?hQz2 ?hyz2 (by assumption) ?restz2
        case hiz2 => simp only [List.getElem?_toArray, List.getElem?_cons_zero, List.getElem?_cons_succ]; rfl
        case hQz2 => exact fun _ _ _ h => h
        case hyz2 => refine yields_loadB HB.out aggKey (sizeN HK.out.1) ?_ _ rfl rfl; rfl
        try simp only [Act.put, List.setIfInBounds_toArray, List.set_cons_zero, List.set_cons_succ]
        refine wpAnyH_ready (rs := [1]) (by kernel_rfl) (by simp) (AllReadyH.cons (o := ?oy31) ?hy31 (fun K hK => ?sy31) AllReadyH.nil)
        case hy31 => simp only [List.getElem?_toArray, List.getElem?_cons_zero, List.getElem?_cons_succ]; rfl
        go_simp
        refine (l04NodeKeyAt_any x HXO.out HXE.out g (o + k * 66) _ (fun W hW => HN.out W (hHeld.trans hW))).mono ?_
        rintro e w1 ⟨rfl, hx⟩
        have hH2 := hHeld.trans hx
        refine hK.out _ _ hH2 (fun _ => ?_)
        clear hHeld hK K
        have hHeld := hH2
        clear hH2
        try simp only [Act.put, List.setIfInBounds_toArray, List.set_cons_zero, List.set_cons_succ]
        refine wpAnyH_take (i := 3) (oi := ?oiz4) (v := ?vz4) ?hiz4 (by kernel_rfl) (by kernel_rfl) (by kernel_rfl) ?hQz4 ?hyz4 (by assumption) ?restz4
        case hiz4 => simp only [List.getElem?_toArray, List.getElem?_cons_zero, List.getElem?_cons_succ]; rfl
        case hQz4 => exact fun _ _ _ h => h
        case hyz4 => exact Or.inl ⟨by rfl, by intro w hSw; (try dsimp only at hSw); go_simp; with_reducible rfl⟩
        try simp only [Act.put, List.setIfInBounds_toArray, List.set_cons_zero, List.set_cons_succ]
        refine wpAnyH_done (by kernel_rfl) ?_ _
        have HX1 := Lib.hid (HX.out.trans hHeld)
        have HB1 := Lib.hid (HB.out.ext hHeld)
        have c64 := HN.out w1 hHeld 64 _ (Nd.at64 HXO.out)
        have c65 := HN.out w1 hHeld 65 _ (Nd.at65 HXO.out)
        have c65b : w1.cell? ⟨g, o + k * 66 + 64 + 1, none⟩ = some (.string x.v) := c65
        have HN1 := Lib.hid (fun W hW => HN.out W (hHeld.trans hW))
        clear hHeld HB
        have hlast : ((L.drop (k + 1)).isEmpty = true ∧ ((k : Int) == (L.length : Int) - 1) = true) ∨ ((L.drop (k + 1)).isEmpty = false ∧ ((k : Int) == (L.length : Int) - 1) = false) := by
          by_cases e : k + 1 = L.length
          · exact .inl ⟨by rw [List.isEmpty_iff, List.drop_eq_nil_of_le (by omega)], by rw [beq_iff_eq]; omega⟩
          · refine .inr ⟨?_, by rw [beq_eq_false_iff_ne]; omega⟩
            rw [List.isEmpty_eq_false_iff]
            intro e2
            have := congrArg List.length e2
            rw [List.length_drop, List.length_nil] at this
            omega
        by_cases hname : x.n = s
        · have hn2 : (x.n.toList == s.toList) = true := by rw [hname, beq_self_eq_true]
          have HQ := Lib.hid (show ((L.drop (k + 1)).isEmpty, x.v, (L.drop (k + 1)).isEmpty) = R by rw [← HF.out, ckS_hit _ _ HKEY.out hname])
          have m1 : IntKind.i64.wrap ((L.length : Int) - 1) = (L.length : Int) - 1 := by rw [IntKind.wrap_i64]; omega
          clear hname
          rcases hlast with ⟨e1, e2⟩ | ⟨e1, e2⟩
          all_goals
            rw [e1] at HQ
            clear e1
            go_wp2
            go_quiet (fail)
            go_wp2
            go_ret3
            exact ⟨by rw [← HQ.out]; rfl, HX1.out.drewN _⟩
        · have hn2 : (x.n.toList == s.toList) = false := by rw [beq_eq_false_iff_ne]; exact fun e => hname (toList_inj e)
          have HQ := Lib.hid (show ckF s (if ltB s x.n then x.l else x.r) (L.drop (k + 1)) = R by rw [← HF.out, ckS_on _ _ HKEY.out hname])
          have hlt2 := ltB_eq s x.n
          clear hname hlast
          cases hl : ltB s x.n with
          | true =>
            rw [hl] at hlt2 HQ
            go_wp2_with (first
              | (refine wpl_load ⟨g, o + k * 66, none⟩ (nums .u8 x.l) (by rw [nums_length, HXL.out.1]; exact aggKey) rfl _ rfl rfl (fun j u hu => by rw [Addr.add_lit]; have := HN1.out _ (Ext.refl _) (0 + j) u (Nd.left HXO.out j u (by rwa [numsA, List.getElem?_toArray])); rwa [Nat.zero_add] at this) ?_)
              | (refine wpl_storeN HB1.out aggKey HXL.out.1 (sizeN HK.out.1) rfl _ _ rfl rfl rfl rfl ?_))
            go_roundw
            case rel => exact ⟨k + 1, x.l, by omega, by go_num, HXL.out, HQ.out, HB1.out.setRow _, HX1.out.setRow (by omega) _⟩
            case measure => simp [intOf]; omega
          | false =>
            rw [hl] at hlt2 HQ
            go_wp2_with (first
              | (refine wpl_load ⟨g, o + k * 66 + 32, none⟩ (nums .u8 x.r) (by rw [nums_length, HXR.out.1]; exact aggKey) rfl _ rfl rfl (fun j u hu => by rw [Addr.add_lit, Nat.add_assoc]; exact HN1.out _ (Ext.refl _) (32 + j) u (Nd.right HXO.out j u (by rwa [numsA, List.getElem?_toArray]))) ?_)
              | (refine wpl_storeN HB1.out aggKey HXR.out.1 (sizeN HK.out.1) rfl _ _ rfl rfl rfl rfl ?_))
            go_roundw
            case rel => exact ⟨k + 1, x.r, by omega, by go_num, HXR.out, HQ.out, HB1.out.setRow _, HX1.out.setRow (by omega) _⟩
            case measure => simp [intOf]; omega
      · have hneq : ∀ W, (binOp .neq 27 (.agg (numsA .u8 (hashL 5 (nodeL x)))) (.agg (numsA .u8 due))).run Try.prog W = .ok (.bool true) W := fun W => by
          have := run_neqKey _ due HKN.out HK.out W
          rw [decide_eq_false hkey] at this
          exact this
        have HQ := Lib.hid (show (false, (⟨#[]⟩ : ByteArray), false) = R by rw [← HF.out, ckS_bad _ _ hkey])
        clear hkey
        go_wp2_with fail
        refine wp_region_held_drew (S := fun W => Ext wr W) (by kernel_rfl) (Ext.refl _).drew (fun hHeld => ?_)
        refine wpAnyH_take (i := 0) (oi := ?oiz5) (v := ?vz5) ?hiz5 (by kernel_rfl) (by kernel_rfl) (by kernel_rfl) ?hQz5 ?hyz5 (by assumption) ?restz5
        case hiz5 => simp only [List.getElem?_toArray, List.getElem?_cons_zero, List.getElem?_cons_succ]; rfl
        case hQz5 => exact fun _ _ _ h => h
        case hyz5 => exact Or.inl ⟨by rfl, by intro w hSw; (try dsimp only at hSw); go_simp; with_reducible rfl⟩
        try simp only [Act.put, List.setIfInBounds_toArray, List.set_cons_zero, List.set_cons_succ]
        refine wpAnyH_take (i := 2) (oi := ?oiz6) (v := (.agg (numsA .u8 due))) ?hiz6 (by kernel_rfl) (by kernel_rfl) (by kernel_rfl) ?hQz6 ?hyz6 (by assumption) ?restz6
        case hiz6 => simp only [List.getElem?_toArray, List.getElem?_cons_zero, List.getElem?_cons_succ]; rfl
        case hQz6 => exact fun _ _ _ h => h
        case hyz6 => refine yields_loadB HB.out aggKey (sizeN HK.out.1) ?_ _ rfl rfl; rfl
        try simp only [Act.put, List.setIfInBounds_toArray, List.set_cons_zero, List.set_cons_succ]
        refine wpAnyH_ready (rs := [1]) (by kernel_rfl) (by simp) (AllReadyH.cons (o := ?oy71) ?hy71 (fun K hK => ?sy71) AllReadyH.nil)
        case hy71 => simp only [List.getElem?_toArray, List.getElem?_cons_zero, List.getElem?_cons_succ]; rfl
        go_simp
        refine (l04NodeKeyAt_any x HXO.out HXE.out g (o + k * 66) _ (fun W hW => HN.out W (hHeld.trans hW))).mono ?_
        rintro e w1 ⟨rfl, hx⟩
        have hH2 := hHeld.trans hx
        refine hK.out _ _ hH2 (fun _ => ?_)
        clear hHeld hK K
        have hHeld := hH2
        clear hH2
        try simp only [Act.put, List.setIfInBounds_toArray, List.set_cons_zero, List.set_cons_succ]
        refine wpAnyH_take (i := 3) (oi := ?oiz8) (v := ?vz8) ?hiz8 (by kernel_rfl) (by kernel_rfl) (by kernel_rfl) ?hQz8 ?hyz8 (by assumption) ?restz8
        case hiz8 => simp only [List.getElem?_toArray, List.getElem?_cons_zero, List.getElem?_cons_succ]; rfl
        case hQz8 => exact fun _ _ _ h => h
        case hyz8 => exact Or.inl ⟨by rfl, by intro w hSw; (try dsimp only at hSw); go_simp; with_reducible rfl⟩
        try simp only [Act.put, List.setIfInBounds_toArray, List.set_cons_zero, List.set_cons_succ]
        refine wpAnyH_done (by kernel_rfl) ?_ _
        have HX1 := Lib.hid (HX.out.trans hHeld)
        have HB1 := Lib.hid (HB.out.ext hHeld)
        have c64 := HN.out w1 hHeld 64 _ (Nd.at64 HXO.out)
        have c65 := HN.out w1 hHeld 65 _ (Nd.at65 HXO.out)
        have c65b : w1.cell? ⟨g, o + k * 66 + 64 + 1, none⟩ = some (.string x.v) := c65
        have HN1 := Lib.hid (fun W hW => HN.out W (hHeld.trans hW))
        clear hHeld HB
        go_wp2
        go_ret3
        exact ⟨by rw [← HQ.out]; rfl, HX1.out⟩
    · obtain rfl : k = L.length := by omega
      rw [List.drop_eq_nil_of_le (Nat.le_refl _), ckF_nil] at HF
      by_cases hd : due = emptyL
      · have heql : ∀ W, (binOp .eql 27 (.agg (numsA .u8 due)) (.agg (numsA .u8 emptyL))).run Try.prog W = .ok (.bool true) W := fun W => by
          have := run_eqKey due emptyL HK.out emptyL_ok W
          rw [decide_eq_true hd] at this
          exact this
        rw [decide_eq_true hd] at HF
        clear hd
        go_wp2_with fail
        refine wp_region_held_drew (S := fun W => Ext wr W) (by kernel_rfl) (Ext.refl _).drew (fun hHeld => ?_)
        refine wpAnyH_take (i := 0) (oi := ?oiz9) (v := (.agg (numsA .u8 due))) ?hiz9 (by kernel_rfl) (by kernel_rfl) (by kernel_rfl) ?hQz9 ?hyz9 (by assumption) ?restz9
        case hiz9 => simp only [List.getElem?_toArray, List.getElem?_cons_zero, List.getElem?_cons_succ]; rfl
        case hQz9 => exact fun _ _ _ h => h
        case hyz9 => refine yields_loadB HB.out aggKey (sizeN HK.out.1) ?_ _ rfl rfl; rfl
        try simp only [Act.put, List.setIfInBounds_toArray, List.set_cons_zero, List.set_cons_succ]
        refine wpAnyH_ready (rs := [1]) (by kernel_rfl) (by simp) (AllReadyH.cons (o := ?oy101) ?hy101 (fun K hK => ?sy101) AllReadyH.nil)
        case hy101 => simp only [List.getElem?_toArray, List.getElem?_cons_zero, List.getElem?_cons_succ]; rfl
        go_simp
        refine (l04Empty_any _).mono ?_
        rintro e w1 ⟨rfl, hx⟩
        have hH2 := hHeld.trans hx
        refine hK.out _ _ hH2 (fun _ => ?_)
        clear hHeld hK K
        have hHeld := hH2
        clear hH2
        try simp only [Act.put, List.setIfInBounds_toArray, List.set_cons_zero, List.set_cons_succ]
        refine wpAnyH_take (i := 2) (oi := ?oiz11) (v := ?vz11) ?hiz11 (by kernel_rfl) (by kernel_rfl) (by kernel_rfl) ?hQz11 ?hyz11 (by assumption) ?restz11
        case hiz11 => simp only [List.getElem?_toArray, List.getElem?_cons_zero, List.getElem?_cons_succ]; rfl
        case hQz11 => exact fun _ _ _ h => h
        case hyz11 => exact Or.inl ⟨by rfl, by intro w hSw; (try dsimp only at hSw); go_simp; with_reducible rfl⟩
        try simp only [Act.put, List.setIfInBounds_toArray, List.set_cons_zero, List.set_cons_succ]
        refine wpAnyH_take (i := 3) (oi := ?oiz12) (v := ?vz12) ?hiz12 (by kernel_rfl) (by kernel_rfl) (by kernel_rfl) ?hQz12 ?hyz12 (by assumption) ?restz12
        case hiz12 => simp only [List.getElem?_toArray, List.getElem?_cons_zero, List.getElem?_cons_succ]; rfl
        case hQz12 => exact fun _ _ _ h => h
        case hyz12 => exact Or.inl ⟨by rfl, by intro w hSw; (try dsimp only at hSw); go_simp; with_reducible rfl⟩
        try simp only [Act.put, List.setIfInBounds_toArray, List.set_cons_zero, List.set_cons_succ]
        refine wpAnyH_take (i := 4) (oi := ?oiz13) (v := ?vz13) ?hiz13 (by kernel_rfl) (by kernel_rfl) (by kernel_rfl) ?hQz13 ?hyz13 (by assumption) ?restz13
        case hiz13 => simp only [List.getElem?_toArray, List.getElem?_cons_zero, List.getElem?_cons_succ]; rfl
        case hQz13 => exact fun _ _ _ h => h
        case hyz13 => exact Or.inl ⟨by rfl, by intro w hSw; (try dsimp only at hSw); go_simp; with_reducible rfl⟩
        try simp only [Act.put, List.setIfInBounds_toArray, List.set_cons_zero, List.set_cons_succ]
        refine wpAnyH_take (i := 5) (oi := ?oiz14) (v := ?vz14) ?hiz14 (by kernel_rfl) (by kernel_rfl) (by kernel_rfl) ?hQz14 ?hyz14 (by assumption) ?restz14
        case hiz14 => simp only [List.getElem?_toArray, List.getElem?_cons_zero, List.getElem?_cons_succ]; rfl
        case hQz14 => exact fun _ _ _ h => h
        case hyz14 => exact Or.inl ⟨by rfl, by intro w hSw; (try dsimp only at hSw); go_simp; with_reducible rfl⟩
        try simp only [Act.put, List.setIfInBounds_toArray, List.set_cons_zero, List.set_cons_succ]
        refine wpAnyH_done (by kernel_rfl) ?_ _
        have HX1 := Lib.hid (HX.out.trans hHeld)
        clear hHeld
        go_wp2
        go_ret3
        exact ⟨by rw [← HF.out]; rfl, HX1.out⟩
      · have heql : ∀ W, (binOp .eql 27 (.agg (numsA .u8 due)) (.agg (numsA .u8 emptyL))).run Try.prog W = .ok (.bool false) W := fun W => by
          have := run_eqKey due emptyL HK.out emptyL_ok W
          rw [decide_eq_false hd] at this
          exact this
        rw [decide_eq_false hd] at HF
        clear hd
        go_wp2_with fail
        refine wp_region_held_drew (S := fun W => Ext wr W) (by kernel_rfl) (Ext.refl _).drew (fun hHeld => ?_)
        refine wpAnyH_take (i := 0) (oi := ?oiz15) (v := (.agg (numsA .u8 due))) ?hiz15 (by kernel_rfl) (by kernel_rfl) (by kernel_rfl) ?hQz15 ?hyz15 (by assumption) ?restz15
        case hiz15 => simp only [List.getElem?_toArray, List.getElem?_cons_zero, List.getElem?_cons_succ]; rfl
        case hQz15 => exact fun _ _ _ h => h
        case hyz15 => refine yields_loadB HB.out aggKey (sizeN HK.out.1) ?_ _ rfl rfl; rfl
        try simp only [Act.put, List.setIfInBounds_toArray, List.set_cons_zero, List.set_cons_succ]
        refine wpAnyH_ready (rs := [1]) (by kernel_rfl) (by simp) (AllReadyH.cons (o := ?oy161) ?hy161 (fun K hK => ?sy161) AllReadyH.nil)
        case hy161 => simp only [List.getElem?_toArray, List.getElem?_cons_zero, List.getElem?_cons_succ]; rfl
        go_simp
        refine (l04Empty_any _).mono ?_
        rintro e w1 ⟨rfl, hx⟩
        have hH2 := hHeld.trans hx
        refine hK.out _ _ hH2 (fun _ => ?_)
        clear hHeld hK K
        have hHeld := hH2
        clear hH2
        try simp only [Act.put, List.setIfInBounds_toArray, List.set_cons_zero, List.set_cons_succ]
        refine wpAnyH_take (i := 2) (oi := ?oiz17) (v := ?vz17) ?hiz17 (by kernel_rfl) (by kernel_rfl) (by kernel_rfl) ?hQz17 ?hyz17 (by assumption) ?restz17
        case hiz17 => simp only [List.getElem?_toArray, List.getElem?_cons_zero, List.getElem?_cons_succ]; rfl
        case hQz17 => exact fun _ _ _ h => h
        case hyz17 => exact Or.inl ⟨by rfl, by intro w hSw; (try dsimp only at hSw); go_simp; with_reducible rfl⟩
        try simp only [Act.put, List.setIfInBounds_toArray, List.set_cons_zero, List.set_cons_succ]
        refine wpAnyH_take (i := 3) (oi := ?oiz18) (v := ?vz18) ?hiz18 (by kernel_rfl) (by kernel_rfl) (by kernel_rfl) ?hQz18 ?hyz18 (by assumption) ?restz18
        case hiz18 => simp only [List.getElem?_toArray, List.getElem?_cons_zero, List.getElem?_cons_succ]; rfl
        case hQz18 => exact fun _ _ _ h => h
        case hyz18 => exact Or.inl ⟨by rfl, by intro w hSw; (try dsimp only at hSw); go_simp; with_reducible rfl⟩
        try simp only [Act.put, List.setIfInBounds_toArray, List.set_cons_zero, List.set_cons_succ]
        refine wpAnyH_take (i := 4) (oi := ?oiz19) (v := ?vz19) ?hiz19 (by kernel_rfl) (by kernel_rfl) (by kernel_rfl) ?hQz19 ?hyz19 (by assumption) ?restz19
        case hiz19 => simp only [List.getElem?_toArray, List.getElem?_cons_zero, List.getElem?_cons_succ]; rfl
        case hQz19 => exact fun _ _ _ h => h
        case hyz19 => exact Or.inl ⟨by rfl, by intro w hSw; (try dsimp only at hSw); go_simp; with_reducible rfl⟩
        try simp only [Act.put, List.setIfInBounds_toArray, List.set_cons_zero, List.set_cons_succ]
        refine wpAnyH_take (i := 5) (oi := ?oiz20) (v := ?vz20) ?hiz20 (by kernel_rfl) (by kernel_rfl) (by kernel_rfl) ?hQz20 ?hyz20 (by assumption) ?restz20
        case hiz20 => simp only [List.getElem?_toArray, List.getElem?_cons_zero, List.getElem?_cons_succ]; rfl
        case hQz20 => exact fun _ _ _ h => h
        case hyz20 => exact Or.inl ⟨by rfl, by intro w hSw; (try dsimp only at hSw); go_simp; with_reducible rfl⟩
        try simp only [Act.put, List.setIfInBounds_toArray, List.set_cons_zero, List.set_cons_succ]
        refine wpAnyH_done (by kernel_rfl) ?_ _
        have HX1 := Lib.hid (HX.out.trans hHeld)
        clear hHeld
        go_wp2
        go_ret3
        exact ⟨by rw [← HF.out]; rfl, HX1.out⟩
end Go.Proofs.Ytmndkbheehcoaaa
