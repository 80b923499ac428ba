/- What the walk of the law FnExactSharedNodes needs, part 7 of 7. No condition. -/
import Derived.BigFrame
import Derived.Maps.OwnOps
import Derived.Maps.Views
import Derived.DeepKeys3
import Derived.Test.YtmndkbheehcoaaaPFnExactSharedNodes6
/- What a map's tree is like: each entry once, names in order, priorities that fall: plainly. No condition. -/
namespace Go.Proofs.Ytmndkbheehcoaaa
open Go.RowKit
set_option linter.unusedVariables false
set_option linter.unusedSimpArgs false

/-! the order of keys -/
theorem cmpL_nil (b : List Int) : cmpL [] b = 0 := by rw [cmpL]; intro x a y b' h; cases h
theorem cmpL_nil' (a : List Int) : cmpL a [] = 0 := by rw [cmpL]; intro x a' y b' _ h; cases h
theorem cmpL_cons (x y : Int) (a b : List Int) : cmpL (x :: a) (y :: b) = if x = y then cmpL a b else if x < y then -1 else 1 := by rw [cmpL]
theorem cmpL_neg (a : List Int) : ∀ b : List Int, cmpL b a = - cmpL a b := by
  induction a with
  | nil => intro b; rw [cmpL_nil, cmpL_nil']; rfl
  | cons x r ih =>
    intro b
    cases b with
    | nil => rw [cmpL_nil, cmpL_nil']; rfl
    | cons y s =>
      rw [cmpL_cons, cmpL_cons]
      by_cases h : x = y
      · rw [if_pos h, if_pos h.symm, ih]
      · rw [if_neg h, if_neg (Ne.symm h)]
        by_cases h2 : x < y
        · rw [if_pos h2, if_neg (by omega)]; rfl
        · rw [if_neg h2, if_pos (by omega)]
theorem cmpL_trans (a : List Int) : ∀ b c : List Int, a.length = b.length → b.length = c.length → cmpL a b ≤ 0 → cmpL b c ≤ 0 → cmpL a c ≤ 0 := by
  induction a with
  | nil => intro b c _ _ _ _; rw [cmpL_nil]; decide
  | cons x r ih =>
    intro b c h1 h2 h3 h4
    match b, c, h1, h2 with
    | y :: s, z :: t, h1, h2 =>
      rw [cmpL_cons] at h3 h4 ⊢
      by_cases e1 : x = y
      · rw [if_pos e1] at h3
        subst e1
        by_cases e2 : x = z
        · rw [if_pos e2] at h4 ⊢
          exact ih s t (by simpa using h1) (by simpa using h2) h3 h4
        · rw [if_neg e2] at h4 ⊢
          exact h4
      · rw [if_neg e1] at h3
        have hxy : x < y := by
          by_cases q : x < y
          · exact q
          · rw [if_neg q] at h3; omega
        by_cases e2 : y = z
        · subst e2
          rw [if_neg e1, if_pos hxy]; decide
        · rw [if_neg e2] at h4
          have hyz : y < z := by
            by_cases q : y < z
            · exact q
            · rw [if_neg q] at h4; omega
          rw [if_neg (by omega), if_pos (by omega)]; decide
theorem topI_max (ps : List (List Int)) (hps : ∀ p ∈ ps, p.length = 32) (k : Nat) : k ≤ ps.length → ∀ i, i < k → cmpL (gK ps i) (gK ps (topI ps k)) ≤ 0 := by
  have hl : ∀ i, i < ps.length → (gK ps i).length = 32 := fun i hi => by rw [gK_lt hi]; exact hps _ (List.getElem_mem hi)
  induction k with
  | zero => intro _ i hi; omega
  | succ k ih =>
    intro hk i hi
    have ht : topI ps k < ps.length := by
      rcases Nat.eq_zero_or_pos k with h0 | h0
      · subst h0; rw [topI_zero]; omega
      · have := topI_lt ps k h0; omega
    rw [topI_succ]
    by_cases hc : 0 < cmpL (gK ps k) (gK ps (topI ps k))
    · rw [if_pos hc]
      by_cases e : i = k
      · subst e; rw [cmpL_self]; decide
      · have h1 := ih (by omega) i (by omega)
        refine cmpL_trans _ (gK ps (topI ps k)) _ (by rw [hl i (by omega), hl _ ht]) (by rw [hl _ ht, hl k (by omega)]) h1 ?_
        have := cmpL_neg (gK ps (topI ps k)) (gK ps k)
        omega
    · rw [if_neg hc]
      by_cases e : i = k
      · subst e; omega
      · exact ih (by omega) i (by omega)
theorem topE_max (L : List En) (i : Nat) (hi : i < L.length) : cmpL (prioL (gE L i).1) (prioL (gE L (topE L)).1) ≤ 0 := by
  have h := topI_max (prios L) (fun p hp => (prios_ok L p hp).1) L.length (by rw [prios_length]; exact Nat.le_refl _) i hi
  have ht := topE_lt (L := L) (by omega)
  rw [gE_lt hi, gE_lt ht]
  rw [prios_at L i hi] at h
  have h2 : gK (prios L) (topI (prios L) L.length) = prioL L[topE L].1 := prios_at L (topE L) ht
  rw [h2] at h
  exact h
/-! the entries of a tree, from the left to the right -/
def Tr.ino : Tr → List En
  | .leaf => []
  | .node x l r => l.ino ++ (x.n, x.v) :: r.ino
theorem trF_ino (f : Nat) : ∀ (L : List En), L.length ≤ f → (trF f L).ino = L := by
  induction f with
  | zero =>
    intro L h
    obtain rfl : L = [] := List.eq_nil_of_length_eq_zero (by omega)
    rw [trF_zero]; rfl
  | succ f ih =>
    intro L h
    by_cases h0 : L.length = 0
    · obtain rfl : L = [] := List.eq_nil_of_length_eq_zero h0
      rw [trF_nil _ _ h0]; rfl
    · have ht := topE_lt (L := L) (by omega)
      rw [trF_cons _ _ h0]
      simp only [Tr.ino]
      rw [ih _ (by rw [List.length_take]; omega), ih _ (by rw [List.length_drop]; omega), gE_lt ht]
      rw [← List.drop_eq_getElem_cons ht, List.take_append_drop]
theorem Tr.all_len (T : Tr) : T.all.length = T.ino.length := by
  induction T with
  | leaf => rfl
  | node x l r il ir => simp only [Tr.all, Tr.ino, List.length_cons, List.length_append, il, ir]; omega
theorem Tr.all_ino (T : Tr) : ∀ x ∈ T.all, (x.n, x.v) ∈ T.ino := by
  induction T with
  | leaf => intro x hx; simp [Tr.all] at hx
  | node y l r il ir =>
    intro x hx
    simp only [Tr.all, List.mem_cons, List.mem_append] at hx
    simp only [Tr.ino, List.mem_append, List.mem_cons]
    rcases hx with rfl | hx | hx
    · exact .inr (.inl rfl)
    · exact .inl (il x hx)
    · exact .inr (.inr (ir x hx))
/-- no node stands above one of a greater priority -/
def Tr.heap : Tr → Prop
  | .leaf => True
  | .node x l r => (∀ e ∈ l.ino ++ r.ino, cmpL (prioL e.1) (prioL x.n) ≤ 0) ∧ l.heap ∧ r.heap
theorem trF_heap (f : Nat) : ∀ (L : List En), L.length ≤ f → (trF f L).heap := by
  induction f with
  | zero => intro L h; rw [trF_zero]; trivial
  | succ f ih =>
    intro L h
    by_cases h0 : L.length = 0
    · rw [trF_nil _ _ h0]; trivial
    · have ht := topE_lt (L := L) (by omega)
      rw [trF_cons _ _ h0]
      refine ⟨fun e he => ?_, ih _ (by rw [List.length_take]; omega), ih _ (by rw [List.length_drop]; omega)⟩
      rw [trF_ino _ _ (by rw [List.length_take]; omega), trF_ino _ _ (by rw [List.length_drop]; omega), List.mem_append] at he
      have hm : e ∈ L := by
        rcases he with he | he
        · exact List.mem_of_mem_take he
        · exact List.mem_of_mem_drop he
      obtain ⟨i, hi, rfl⟩ := List.getElem_of_mem hm
      have := topE_max L i hi
      rwa [gE_lt hi] at this
theorem Tr.heap_top {x : Nd} {l r : Tr} (h : (Tr.node x l r).heap) : ∀ y ∈ (Tr.node x l r).all, cmpL (prioL y.n) (prioL x.n) ≤ 0 := by
  intro y hy
  simp only [Tr.all, List.mem_cons, List.mem_append] at hy
  rcases hy with rfl | hy | hy
  · rw [cmpL_self]; decide
  · exact h.1 _ (List.mem_append.2 (.inl (l.all_ino y hy)))
  · exact h.1 _ (List.mem_append.2 (.inr (r.all_ino y hy)))
/-- priorities fall along a list of nodes -/
def falls : List Nd → Prop
  | x :: y :: r => cmpL (prioL y.n) (prioL x.n) ≤ 0 ∧ falls (y :: r)
  | _ => True
theorem falls_cons {x : Nd} {M : List Nd} (h : falls M) (hx : ∀ y ∈ M, cmpL (prioL y.n) (prioL x.n) ≤ 0) : falls (x :: M) := by
  cases M with
  | nil => trivial
  | cons y r => exact ⟨hx y (by simp), h⟩
theorem falls_at {M : List Nd} (h : falls M) (i : Nat) (hi : i + 1 < M.length) : cmpL (prioL M[i + 1].n) (prioL M[i].n) ≤ 0 := by
  induction M generalizing i with
  | nil => simp at hi
  | cons x r ih =>
    match r, h, i, hi, ih with
    | y :: s, h, 0, hi, _ => exact h.1
    | y :: s, h, i + 1, hi, ih => exact ih h.2 i (by simpa using hi)
theorem way_falls (s : ByteArray) (T : Tr) (h : T.heap) : falls (T.way s) := by
  induction T with
  | leaf => trivial
  | node x l r il ir =>
    rw [Tr.way_node]
    cases h1 : ltB s x.n with
    | true =>
      simp only [ltB_asymm h1, Bool.false_eq_true, if_false, if_true, List.append_nil]
      exact falls_cons (il h.2.1) fun y hy => h.1 _ (List.mem_append.2 (.inl (l.all_ino y (Tr.sel_sub _ _ _ y hy))))
    | false =>
      simp only [Bool.false_eq_true, if_false, List.nil_append]
      cases h2 : ltB x.n s with
      | true =>
        simp only [if_true]
        exact falls_cons (ir h.2.2) fun y hy => h.1 _ (List.mem_append.2 (.inr (r.all_ino y (Tr.sel_sub _ _ _ y hy))))
      | false =>
        simp only [Bool.false_eq_true, if_false]
        trivial
/-- how deep the names of a tree lie -/
theorem way_pos (s : ByteArray) (x : Nd) (l r : Tr) : 1 ≤ ((Tr.node x l r).way s).length := by rw [Tr.way_node, List.length_cons]; omega
theorem way_pos' (s : ByteArray) (T : Tr) (h : T.all ≠ []) : 1 ≤ (T.way s).length := by
  cases T with
  | leaf => exact absurd rfl h
  | node x l r => exact way_pos s x l r
theorem way_top (x : Nd) (l r : Tr) : ((Tr.node x l r).way x.n).length = 1 := by
  rw [Tr.way_node, ltB_irrefl]; rfl
theorem way_low (x : Nd) (l r : Tr) (hp : (Tr.node x l r).ino.Pairwise ltE) (y : Nd) (hy : y ∈ l.all ++ r.all) : 2 ≤ ((Tr.node x l r).way y.n).length := by
  simp only [Tr.ino] at hp
  rw [List.pairwise_append] at hp
  obtain ⟨_, hr, hlr⟩ := hp
  rw [List.pairwise_cons] at hr
  rw [Tr.way_node]
  rcases List.mem_append.1 hy with hy | hy
  · have h1 : ltB y.n x.n = true := hlr _ (l.all_ino y hy) (x.n, x.v) (by simp)
    rw [h1, ltB_asymm h1]
    have := way_pos' y.n l (fun e => by rw [e] at hy; cases hy)
    simp only [if_true, Bool.false_eq_true, if_false, List.append_nil, List.length_cons]
    omega
  · have h1 : ltB x.n y.n = true := hr.1 _ (r.all_ino y hy)
    rw [h1, ltB_asymm h1]
    have := way_pos' y.n r (fun e => by rw [e] at hy; cases hy)
    simp only [if_true, Bool.false_eq_true, if_false, List.nil_append, List.length_cons]
    omega
/-- what is asked of the tree of a map -/
theorem tree_facts {L : List En} (h : okE L = true) (hok : ∀ e ∈ L, tEnt.ok e) : ∃ T, trF L.length L = T ∧ T.all.length = L.length ∧ (∀ x ∈ T.all, x.ok ∧ entB x.n x.v = true ∧ nameB x.n = true ∧ hasE L x.n = true) ∧ T.ino = L ∧ T.heap := by
  have hi := trF_ino L.length L (Nat.le_refl _)
  have hh := trF_heap L.length L (Nat.le_refl _)
  have ho := (trF L.length L).all_ok (trF_ok _ _ (good_of h hok))
  refine ⟨_, rfl, by rw [Tr.all_len, hi], fun x hx => ?_, hi, hh⟩
  have h1 := ho x hx
  have h2 := (trF L.length L).all_ino x hx
  rw [hi] at h2
  obtain ⟨i, hil, he⟩ := List.getElem_of_mem h2
  have hp := posE_hit (okE_incs h).1 i hil (s := x.n) (by rw [gE_lt hil, he])
  refine ⟨h1.1, h1.2, ?_, ?_⟩
  · have h3 := h1.2
    rw [entB_eq, Bool.and_eq_true] at h3
    exact h3.1
  · rw [hasE_eq, hp, decide_eq_true]
    exact ⟨hil, by rw [gE_lt hil, he]⟩
theorem depth_facts {L : List En} (h : okE L = true) (hok : ∀ e ∈ L, tEnt.ok e) {x : Nd} {l r : Tr} (hT : trF L.length L = .node x l r) (i : Nat) (hi : i < (Tr.node x l r).all.length) :
    ∃ d : Int, depR L (Tr.node x l r).all[i].n = (d, 0) ∧ 1 ≤ d ∧ d ≤ L.length ∧ decide (d = 1) = decide (i = 0) := by
  obtain ⟨T, hT2, hl, hall, hino, hheap⟩ := tree_facts h hok
  rw [hT] at hT2
  subst hT2
  have hx := hall _ (List.getElem_mem hi)
  refine ⟨(((Tr.node x l r).way (Tr.node x l r).all[i].n).length : Nat), ?_, ?_, ?_, ?_⟩
  · rw [depR, h, hx.2.2.1, hx.2.2.2, hT]; rfl
  · have := way_pos (Tr.node x l r).all[i].n x l r
    omega
  · have h1 : ((Tr.node x l r).way (Tr.node x l r).all[i].n).length ≤ (Tr.node x l r).all.length := Tr.sel_le _ _ _
    omega
  · cases i with
    | zero =>
      have h2 : (Tr.node x l r).all[0] = x := rfl
      rw [h2, way_top]; rfl
    | succ i =>
      have h2 : (Tr.node x l r).all[i + 1] ∈ l.all ++ r.all := by
        have h3 : (Tr.node x l r).all[i + 1] = (l.all ++ r.all)[i]'(by simpa [Tr.all] using hi) := rfl
        rw [h3]; exact List.getElem_mem _
      have h4 := way_low x l r (by rw [hino]; exact (incs_pair.1 (okE_incs h).1).2) _ h2
      rw [decide_eq_false (by omega), decide_eq_false (by omega)]
theorem Tr.key_nil {T : Tr} (h : T.all.length = 0) : T.key = emptyL := by
  cases T with
  | leaf => rfl
  | node x l r => simp [Tr.all] at h
theorem Tr.node_of {T : Tr} (h : 0 < T.all.length) : ∃ x l r, T = .node x l r := by
  cases T with
  | leaf => simp [Tr.all] at h
  | node x l r => exact ⟨x, l, r, rfl⟩
theorem prio_size {s : ByteArray} (h : prioR s = (prioL s, 0)) : s.size ≤ 24 := by
  unfold prioR at h
  cases hn : nameB s with
  | false => rw [hn] at h; injection h with h1 h2; cases h2
  | true => rw [nameB_eq] at hn; simp at hn; omega
/-- the i-th node: how deep it lies, and its priority -/
theorem node_facts {L : List En} (h : okE L = true) (hok : ∀ e ∈ L, tEnt.ok e) {T : Tr} (hT : trF L.length L = T) {x : Nd} {l r : Tr} (hx : T = .node x l r) {NL : List Nd} (hN : T.all = NL) (i : Nat) (hi : i < NL.length) :
    NL[i].ok ∧ entB NL[i].n NL[i].v = true ∧ prioR NL[i].n = (prioL NL[i].n, 0) ∧ nodeKR NL[i] = (hashL 5 (nodeL NL[i]), 0) ∧ cmpL (prioL NL[i].n) (prioL x.n) ≤ 0 ∧ ∃ d : Int, depR L NL[i].n = (d, 0) ∧ 1 ≤ d ∧ d ≤ L.length ∧ decide (d = 1) = decide (i = 0) := by
  subst hN
  obtain ⟨T', hT', hl, hall, hino, hheap⟩ := tree_facts h hok
  rw [hT] at hT'
  subst hT'
  have h1 := hall _ (List.getElem_mem hi)
  have hd := depth_facts h hok (hT.trans hx) i (by rw [← hx]; exact hi)
  subst hx
  refine ⟨h1.1, h1.2.1, by rw [prioR, h1.2.2.1]; rfl, by rw [nodeKR, h1.2.1]; rfl, Tr.heap_top hheap _ (List.getElem_mem hi), hd⟩
theorem way_facts {L : List En} (h : okE L = true) (hok : ∀ e ∈ L, tEnt.ok e) {T : Tr} (hT : trF L.length L = T) (hne : 0 < T.all.length) {s : ByteArray} (hs : nameB s = true) {PL : List Nd} (hP : T.way s = PL) :
    provR L s = (PL, 0) ∧ 1 ≤ PL.length ∧ PL.length ≤ L.length ∧ ∀ i (hi : i + 1 < PL.length), PL[i].ok ∧ PL[i + 1].ok ∧ prioR PL[i].n = (prioL PL[i].n, 0) ∧ prioR PL[i + 1].n = (prioL PL[i + 1].n, 0) ∧ ¬ cmpL (prioL PL[i].n) (prioL PL[i + 1].n) < 0 := by
  subst hP
  obtain ⟨T', hT', hl, hall, hino, hheap⟩ := tree_facts h hok
  rw [hT] at hT'
  subst hT'
  have hsub : ∀ y ∈ T.way s, y ∈ T.all := fun y hy => Tr.sel_sub _ _ _ y hy
  refine ⟨?_, ?_, ?_, fun i hi => ?_⟩
  · rw [provR, h, hs, hT]; rfl
  · exact way_pos' s T (fun e => by rw [e] at hne; exact absurd hne (by decide))
  · rw [← hl]; exact Tr.sel_le _ _ _
  · have h1 := hall _ (hsub _ (List.getElem_mem (Nat.lt_of_succ_lt hi)))
    have h2 := hall _ (hsub _ (List.getElem_mem hi))
    have h3 := falls_at (way_falls s T hheap) i hi
    have h4 := cmpL_neg (prioL (T.way s)[i].n) (prioL (T.way s)[i + 1].n)
    exact ⟨h1.1, h2.1, by rw [prioR, h1.2.2.1]; rfl, by rw [prioR, h2.2.2.1]; rfl, by omega⟩
end Go.Proofs.Ytmndkbheehcoaaa
/- Two variables of a struct's type, made and filled at once. No condition. -/
namespace Go.Proofs.Ytmndkbheehcoaaa
open Go.RowKit Go.BigFrame
set_option linter.unusedVariables false
set_option linter.unusedSimpArgs false

theorem setRow_alloc2 (w : World) (cs cs' : Array Value) (t : TypeId) (o : Obj) : ((w.alloc (.cells cs t)).alloc o).setRow w.heap.size cs' = (w.alloc (.cells cs' t)).alloc o := by
  unfold World.setRow World.alloc
  congr 1
  apply Array.ext
  · simp
  · intro i h1 h2
    simp only [Array.getElem_modify, Array.getElem_push, Array.size_push]
    by_cases h : i < w.heap.size
    · have hne : w.heap.size ≠ i := by omega
      simp [h, hne, Nat.lt_succ_of_lt h]
    · by_cases h3 : w.heap.size = i
      · subst h3
        simp
      · simp [h3, h]
        split
        · omega
        · rfl
theorem wpl_two {P : Program} {ops : Array Oper} {rest : List Oper} {o1 o2 o3 o4 : Oper} {a : Act} {w : World} {Q : Exit → Act → World → Prop} {t n : Nat} {Z cs1 cs2 : Array Value} (ht : Agg P t n) (hs1 : St n cs1) (hs2 : St n cs2) (hz : (P.info? t).map (·.zero) = some (some (.agg Z))) (hZ : Z.size = n)
    (g1 : o1.guard = none) (p1 : o1.op = .alloc t) (g2 : o2.guard = none) (p2 : o2.op = .alloc t) (g3 : o3.guard = none) (x3 y3 : Operand) (p3 : o3.op = .store t x3 y3) (d3 : o3.dst = none) (g4 : o4.guard = none) (x4 y4 : Operand) (p4 : o4.op = .store t x4 y4) (d4 : o4.dst = none)
    (e3 : ((a.put o1.dst (.pointer (some ⟨w.heap.size, 0, none⟩))).put o2.dst (.pointer (some ⟨w.heap.size + 1, 0, none⟩))).eval x3 = .pointer (some ⟨w.heap.size, 0, none⟩))
    (f3 : ((a.put o1.dst (.pointer (some ⟨w.heap.size, 0, none⟩))).put o2.dst (.pointer (some ⟨w.heap.size + 1, 0, none⟩))).eval y3 = .agg cs1)
    (e4 : ((a.put o1.dst (.pointer (some ⟨w.heap.size, 0, none⟩))).put o2.dst (.pointer (some ⟨w.heap.size + 1, 0, none⟩))).eval x4 = .pointer (some ⟨w.heap.size + 1, 0, none⟩))
    (f4 : ((a.put o1.dst (.pointer (some ⟨w.heap.size, 0, none⟩))).put o2.dst (.pointer (some ⟨w.heap.size + 1, 0, none⟩))).eval y4 = .agg cs2)
    (h : wpList P ops Q rest ((a.put o1.dst (.pointer (some ⟨w.heap.size, 0, none⟩))).put o2.dst (.pointer (some ⟨w.heap.size + 1, 0, none⟩))) ((w.alloc (.cells cs1 t)).alloc (.cells cs2 t))) :
    wpList P ops Q (o1 :: o2 :: o3 :: o4 :: rest) a w := by
  have hsz : (w.alloc (.cells Z t)).heap.size = w.heap.size + 1 := by simp
  have hsz1 : (w.alloc (.cells cs1 t)).heap.size = w.heap.size + 1 := by simp
  refine wpl_alloc Z hz g1 p1 ?_
  refine wpl_alloc Z hz g2 p2 ?_
  rw [hsz]
  refine wpl_storeB ((Blk.new w t Z).alloc _) ht hs1 hZ g3 x3 y3 p3 e3 f3 d3 ?_
  rw [setRow_alloc2]
  refine wpl_storeB (g := w.heap.size + 1) (e := t) (cur := Z) (by have := Blk.new (w.alloc (.cells cs1 t)) t Z; rwa [hsz1] at this) ht hs2 hZ g4 x4 y4 p4 e4 f4 d4 ?_
  have := setRow_alloc (w.alloc (.cells cs1 t)) Z cs2 t
  rw [hsz1] at this
  rw [this]
  exact h
/-- the same load where a guard lets it by -/
theorem wpl_loadBW {P : Program} {ops : Array Oper} {rest : List Oper} {o : Oper} {a : Act} {w : World} {Q : Exit → Act → World → Prop} {t g e n : Nat} {cs : Array Value} (hb : Blk w g e cs) (ht : Agg P t n) (hn : cs.size = n) (hw : Region.wanted o (yielded ops a.tmps) = true) (x : Operand) (ho : o.op = .load t x) (hx : a.eval x = .pointer (some ⟨g, 0, none⟩))
    (h : wpList P ops Q rest (a.put o.dst (.agg cs)) w) : wpList P ops Q (o :: rest) a w := by
  refine wpList_want hw fun K hK => ?_
  unfold Oper.wp execOp
  simp only [ho, hx, Instr.loadAt, Instr.sureAddr, Sem.run_bind, Sem.run_pure, Result.andThen_ok, run_loadB hb ht hn]
  exact hK _ _ h
end Go.Proofs.Ytmndkbheehcoaaa
/- The nodes that two maps share: what is counted. No condition. -/
namespace Go.Proofs.Ytmndkbheehcoaaa
open Go.RowKit
set_option linter.unusedVariables false
set_option linter.unusedSimpArgs false

/-- the key of a node -/
def kN (x : Nd) : List Int := hashL 5 (nodeL x)
def kNs (M : List Nd) : List (List Int) := M.map kN
/-- how many nodes have a key of the list -/
def cntK (ks : List (List Int)) (M : List Nd) : Nat := M.countP fun y => ks.contains (kN y)
theorem kN_ok (x : Nd) : K32 (kN x) := hashL_ok 5 (nodeL x)
theorem kNs_len (M : List Nd) : (kNs M).length = M.length := List.length_map ..
theorem kNs_zero : kNs [] = [] := rfl
theorem kNs_snoc (M : List Nd) (x : Nd) : kNs (M ++ [x]) = kNs M ++ [kN x] := by rw [kNs, List.map_append]; rfl
theorem cntK_zero (ks : List (List Int)) : cntK ks [] = 0 := rfl
theorem cntK_snoc (ks : List (List Int)) (M : List Nd) (x : Nd) : cntK ks (M ++ [x]) = if ks.contains (kN x) then cntK ks M + 1 else cntK ks M := by
  rw [cntK, List.countP_append, List.countP_singleton]
  split <;> rfl
theorem cntK_le (ks : List (List Int)) (M : List Nd) : cntK ks M ≤ M.length := List.countP_le_length
attribute [irreducible] kN kNs cntK
/-- the answer -/
def sharR (a b : List En) : Int × Int := if okE a && okE b then ((cntK (kNs (trF a.length a).all) (trF b.length b).all : Nat), 0) else (0, 1)
end Go.Proofs.Ytmndkbheehcoaaa
/- Is a key among keys? The model. No condition. -/
namespace Go.Proofs.Ytmndkbheehcoaaa
open Go.RowKit
set_option linter.unusedVariables false
set_option linter.unusedSimpArgs false
set_option maxHeartbeats 1000000 in
set_option maxRecDepth 100000 in
theorem l01Has_any (v : Value) (ks : List (List Int)) (key : List Int) (hk : K32 key) (w : World) (S : Nat → Prop) (h : RdL tKey w S v ks) :
    Calls Try.prog 99 #[v, .agg (numsA .u8 key)] w fun e w' => e = .returned (.bool (ks.contains key)) ∧ Ext w w' := by
  obtain ⟨A, cap, rfl, hcap, hlen, hrd, hok⟩ := h
  have Hrd := Lib.hid hrd
  have Hok := Lib.hid hok
  have HK := Lib.hid (show tKey.ok key from hk)
  obtain ⟨R, hR⟩ : ∃ R, ks.contains key = R := ⟨_, rfl⟩
  rw [hR]
  have HR := Lib.hid hR
  have hkl := hk.1
  clear hrd hok hR hk
  go_enter Try.func99, Try.ntmps99
  go_wp2
  go_loopw [5] (fun i wr => ∃ k : Nat, k ≤ ks.length ∧ i = .int .i64 k ∧ key ∉ ks.take k ∧ Blk wr w.heap.size 27 (numsA .u8 key) ∧ Ext w wr) (fun i _ => ks.length - (intOf i).toNat)
  case atStart => exact ⟨0, by omega, rfl, by simp, Blk.new w _ _, ext_alloc _ _⟩
  case round =>
    obtain ⟨k, hk, rfl, ht, hb, hx⟩ := hrel
    have HX := Lib.hid hx
    have HT := Lib.hid ht
    have HB := Lib.hid hb
    clear hx ht hb
    by_cases hlt : k < ks.length
    · obtain ⟨g, o, rfl, hs, hc⟩ := Hrd.out.elem Hok.out k hlt
      have ht1 := List.take_succ_eq_append_getElem hlt
      have hx0 : tKey.ok ks[k] := Hok.out _ (List.getElem_mem hlt)
      have hD : ∀ W, Ext wr W → ∀ j u, (tKey.enc ks[k])[j]? = some u → W.cell? ⟨g, o + k * 32 + j, none⟩ = some u := fun W hW j u hu => hW.cell (HX.out.cell (hc j u hu))
      have hM : ks[k] ∈ ks := List.getElem_mem hlt
      clear hc
      generalize ks[k] = x at ht1 hx0 hD hM
      have HD := Lib.hid hD
      have HBD := Lib.hid (show ∀ W, Ext wr W → ∀ j u, (tKey.enc key)[j]? = some u → W.cell? ⟨w.heap.size, 0 + j, none⟩ = some u from fun W hW j u hu => by rw [Nat.zero_add]; exact (HB.out.ext hW).at_ j (by rw [numsA, List.getElem?_toArray]; exact hu))
      have HX0 := Lib.hid hx0
      have HT1 := Lib.hid ht1
      have HM := Lib.hid hM
      have hi : (0 : Int) ≤ (k : Int) := by omega
      have hi2 : (k : Int) < (ks.length : Int) := by omega
      have hq := run_eqKey x key HX0.out HK.out
      clear hD hx0 ht1 hM
      by_cases hxy : x = key
      · rw [decide_eq_true hxy] at hq
        have HXY := Lib.hid hxy
        clear hxy
        go_wp2_with fail
        refine wp_region_held_drew (S := fun W => Ext wr W) (by kernel_rfl) (Ext.refl _).drew (fun hHeld => ?_)
        refine wpAnyH_take (i := 0) (oi := ?oiz1) (v := ?vz1) ?hiz1 (by kernel_rfl) (by kernel_rfl) (by kernel_rfl) ?hQz1 ?hyz1 (by assumption) ?restz1
        case hiz1 => simp only [List.getElem?_toArray, List.getElem?_cons_zero, List.getElem?_cons_succ]; rfl
        case hQz1 => exact fun _ _ _ h => h
        case hyz1 => exact Or.inl ⟨by rfl, by intro w hSw; (try dsimp only at hSw); go_simp; with_reducible rfl⟩
        try simp only [Act.put, List.setIfInBounds_toArray, List.set_cons_zero, List.set_cons_succ]
        refine wpAnyH_take (i := 1) (oi := ?oiz2) (v := ?vz2) ?hiz2 (by kernel_rfl) (by kernel_rfl) (by kernel_rfl) ?hQz2 ?hyz2 (by assumption) ?restz2
        case hiz2 => simp only [List.getElem?_toArray, List.getElem?_cons_zero, List.getElem?_cons_succ]; rfl
        case hQz2 => exact fun _ _ _ h => h
        case hyz2 => exact Or.inl ⟨by rfl, by intro w hSw; (try dsimp only at hSw); go_simp; with_reducible rfl⟩
        try simp only [Act.put, List.setIfInBounds_toArray, List.set_cons_zero, List.set_cons_succ]
        refine wpAnyH_take (i := 2) (oi := ?oiz3) (v := ?vz3) ?hiz3 (by kernel_rfl) (by kernel_rfl) (by kernel_rfl) ?hQz3 ?hyz3 (by assumption) ?restz3
        case hiz3 => simp only [List.getElem?_toArray, List.getElem?_cons_zero, List.getElem?_cons_succ]; rfl
        case hQz3 => exact fun _ _ _ h => h
        case hyz3 => exact Or.inl ⟨by rfl, by intro w hSw; (try dsimp only at hSw); go_simp; with_reducible rfl⟩
        try simp only [Act.put, List.setIfInBounds_toArray, List.set_cons_zero, List.set_cons_succ]
        refine wpAnyH_take (i := 3) (oi := ?oiz4) (v := (.agg (numsA .u8 x))) ?hiz4 (by kernel_rfl) (by kernel_rfl) (by kernel_rfl) ?hQz4 ?hyz4 (by assumption) ?restz4
        case hiz4 => simp only [List.getElem?_toArray, List.getElem?_cons_zero, List.getElem?_cons_succ]; rfl
        case hQz4 => exact fun _ _ _ h => h
        case hyz4 => refine yields_loadS g (o + k * 32) (tKey.enc x) (by rw [tKey.len _ HX0.out]; exact aggKey) (fun W hW => HD.out W hW) ?_ _ rfl rfl; rfl
        try simp only [Act.put, List.setIfInBounds_toArray, List.set_cons_zero, List.set_cons_succ]
        refine wpAnyH_take (i := 4) (oi := ?oiz5) (v := (.agg (numsA .u8 key))) ?hiz5 (by kernel_rfl) (by kernel_rfl) (by kernel_rfl) ?hQz5 ?hyz5 (by assumption) ?restz5
        case hiz5 => simp only [List.getElem?_toArray, List.getElem?_cons_zero, List.getElem?_cons_succ]; rfl
        case hQz5 => exact fun _ _ _ h => h
        case hyz5 => refine yields_loadS w.heap.size 0 (tKey.enc key) (by rw [tKey.len _ HK.out]; exact aggKey) (fun W hW => HBD.out W hW) ?_ _ rfl rfl; rfl
        try simp only [Act.put, List.setIfInBounds_toArray, List.set_cons_zero, List.set_cons_succ]
        refine wpAnyH_take (i := 5) (oi := ?oiz6) (v := ?vz6) ?hiz6 (by kernel_rfl) (by kernel_rfl) (by kernel_rfl) ?hQz6 ?hyz6 (by assumption) ?restz6
        case hiz6 => simp only [List.getElem?_toArray, List.getElem?_cons_zero, List.getElem?_cons_succ]; rfl
        case hQz6 => exact fun _ _ _ h => h
        case hyz6 => exact Or.inl ⟨by rfl, by intro w hSw; (try dsimp only at hSw); go_simp; with_reducible rfl⟩
        try simp only [Act.put, List.setIfInBounds_toArray, List.set_cons_zero, List.set_cons_succ]
        refine wpAnyH_done (by kernel_rfl) ?_ _
        have HX1 := Lib.hid (HX.out.trans hHeld)
        clear hHeld
        go_wp2
        go_ret
        exact ⟨by rw [← HR.out, List.contains_iff_mem.2 (by rw [← HXY.out]; exact HM.out)]; rfl, HX1.out⟩
      · rw [decide_eq_false hxy] at hq
        have HXY := Lib.hid hxy
        clear hxy
        go_wp2_with fail
        refine wp_region_held_drew (S := fun W => Ext wr W) (by kernel_rfl) (Ext.refl _).drew (fun hHeld => ?_)
        refine wpAnyH_take (i := 0) (oi := ?oiz7) (v := ?vz7) ?hiz7 (by kernel_rfl) (by kernel_rfl) (by kernel_rfl) ?hQz7 ?hyz7 (by assumption) ?restz7
        case hiz7 => simp only [List.getElem?_toArray, List.getElem?_cons_zero, List.getElem?_cons_succ]; rfl
        case hQz7 => exact fun _ _ _ h => h
        case hyz7 => exact Or.inl ⟨by rfl, by intro w hSw; (try dsimp only at hSw); go_simp; with_reducible rfl⟩
        try simp only [Act.put, List.setIfInBounds_toArray, List.set_cons_zero, List.set_cons_succ]
        refine wpAnyH_take (i := 1) (oi := ?oiz8) (v := ?vz8) ?hiz8 (by kernel_rfl) (by kernel_rfl) (by kernel_rfl) ?hQz8 ?hyz8 (by assumption) ?restz8
        case hiz8 => simp only [List.getElem?_toArray, List.getElem?_cons_zero, List.getElem?_cons_succ]; rfl
        case hQz8 => exact fun _ _ _ h => h
        case hyz8 => exact Or.inl ⟨by rfl, by intro w hSw; (try dsimp only at hSw); go_simp; with_reducible rfl⟩
        try simp only [Act.put, List.setIfInBounds_toArray, List.set_cons_zero, List.set_cons_succ]
        refine wpAnyH_take (i := 2) (oi := ?oiz9) (v := ?vz9) ?hiz9 (by kernel_rfl) (by kernel_rfl) (by kernel_rfl) ?hQz9 ?hyz9 (by assumption) ?restz9
        case hiz9 => simp only [List.getElem?_toArray, List.getElem?_cons_zero, List.getElem?_cons_succ]; rfl
        case hQz9 => exact fun _ _ _ h => h
        case hyz9 => exact Or.inl ⟨by rfl, by intro w hSw; (try dsimp only at hSw); go_simp; with_reducible rfl⟩
        try simp only [Act.put, List.setIfInBounds_toArray, List.set_cons_zero, List.set_cons_succ]
        refine wpAnyH_take (i := 3) (oi := ?oiz10) (v := (.agg (numsA .u8 x))) ?hiz10 (by kernel_rfl) (by kernel_rfl) (by kernel_rfl) ?hQz10 ?hyz10 (by assumption) ?restz10
        case hiz10 => simp only [List.getElem?_toArray, List.getElem?_cons_zero, List.getElem?_cons_succ]; rfl
        case hQz10 => exact fun _ _ _ h => h
        case hyz10 => refine yields_loadS g (o + k * 32) (tKey.enc x) (by rw [tKey.len _ HX0.out]; exact aggKey) (fun W hW => HD.out W hW) ?_ _ rfl rfl; rfl
        try simp only [Act.put, List.setIfInBounds_toArray, List.set_cons_zero, List.set_cons_succ]
        refine wpAnyH_take (i := 4) (oi := ?oiz11) (v := (.agg (numsA .u8 key))) ?hiz11 (by kernel_rfl) (by kernel_rfl) (by kernel_rfl) ?hQz11 ?hyz11 (by assumption) ?restz11
        case hiz11 => simp only [List.getElem?_toArray, List.getElem?_cons_zero, List.getElem?_cons_succ]; rfl
        case hQz11 => exact fun _ _ _ h => h
        case hyz11 => refine yields_loadS w.heap.size 0 (tKey.enc key) (by rw [tKey.len _ HK.out]; exact aggKey) (fun W hW => HBD.out W hW) ?_ _ rfl rfl; rfl
        try simp only [Act.put, List.setIfInBounds_toArray, List.set_cons_zero, List.set_cons_succ]
        refine wpAnyH_take (i := 5) (oi := ?oiz12) (v := ?vz12) ?hiz12 (by kernel_rfl) (by kernel_rfl) (by kernel_rfl) ?hQz12 ?hyz12 (by assumption) ?restz12
        case hiz12 => simp only [List.getElem?_toArray, List.getElem?_cons_zero, List.getElem?_cons_succ]; rfl
        case hQz12 => exact fun _ _ _ h => h
        case hyz12 => exact Or.inl ⟨by rfl, by intro w hSw; (try dsimp only at hSw); go_simp; with_reducible rfl⟩
        try simp only [Act.put, List.setIfInBounds_toArray, List.set_cons_zero, List.set_cons_succ]
        refine wpAnyH_done (by kernel_rfl) ?_ _
        have HX1 := Lib.hid (HX.out.trans hHeld)
        have HB1 := Lib.hid (HB.out.ext hHeld)
        clear hHeld
        go_wp2
        go_roundw
        case rel => exact ⟨k + 1, by omega, by go_num, by rw [HT1.out]; intro hm; rcases List.mem_append.1 hm with h | h; exact HT.out h; exact HXY.out (List.mem_singleton.1 h).symm, HB1.out, HX1.out⟩
        case measure => simp [intOf]; omega
    · obtain rfl : k = ks.length := by omega
      have he := HT.out
      rw [List.take_length] at he
      have HE := Lib.hid he
      clear he
      go_wp2
      go_ret
      refine ⟨?_, HX.out⟩
      rw [← HR.out]
      cases hcc : ks.contains key with
      | false => rfl
      | true => exact absurd (List.contains_iff_mem.1 hcc) HE.out
end Go.Proofs.Ytmndkbheehcoaaa
/- The nodes that two maps share: the model. No condition. -/
namespace Go.Proofs.Ytmndkbheehcoaaa
open Go.RowKit
set_option linter.unusedVariables false
set_option linter.unusedSimpArgs false
set_option maxHeartbeats 1000000 in
set_option maxRecDepth 100000 in
theorem specShared_any (v u : Value) (a b : List En) (w : World) (S S' : Nat → Prop) (h : RdL tEnt w S v a) (h' : RdL tEnt w S' u b) :
    Calls Try.prog 32 #[v, u] w fun e w' => e = .returned (.tuple #[.int .i64 (sharR a b).1, .int .i64 (sharR a b).2]) ∧ Ext w w' := by
  have H := Lib.hid h
  have H' := Lib.hid h'
  have hokA := h.choose_spec.choose_spec.2.2.2.2
  have hokB := h'.choose_spec.choose_spec.2.2.2.2
  have hc := l04Ok_any v a w S h
  have hc2 := fun W (hW : Ext w W) => l04Ok_any u b W S' (h'.ext (by decide) hW)
  obtain ⟨A, capa, rfl, _⟩ := h
  obtain ⟨B, capb, rfl, _⟩ := h'
  cases ha : okE a with
  | false =>
    simp only [sharR, ha, Bool.false_and, Bool.false_eq_true, if_false]
    simp only [ha] at hc
    clear ha hc2
    go_enter Try.func32, Try.ntmps32
    go_wp2_with fail
    refine hc.mono ?_
    rintro e w1 ⟨rfl, hx⟩
    have HX := Lib.hid hx
    clear hx
    go_wp2
    go_ret2
    exact ⟨rfl, HX.out⟩
  | true =>
    simp only [ha] at hc
    cases hb : okE b with
    | false =>
      simp only [sharR, ha, hb, Bool.and_false, Bool.false_eq_true, if_false]
      simp only [hb] at hc2
      clear ha hb
      go_enter Try.func32, Try.ntmps32
      go_wp2_with fail
      refine hc.mono ?_
      rintro e w1 ⟨rfl, hx⟩
      have HX := Lib.hid hx
      clear hx
      go_wp2_with fail
      refine (hc2 _ HX.out).mono ?_
      rintro e w2 ⟨rfl, hx⟩
      have HX2 := Lib.hid (HX.out.trans hx)
      clear hx
      go_wp2
      go_ret2
      exact ⟨rfl, HX2.out⟩
    | true =>
      simp only [sharR, ha, hb, Bool.and_true, if_true]
      simp only [hb] at hc2
      obtain ⟨T1, hT1, hl1, hf1, _⟩ := tree_facts ha hokA
      obtain ⟨T2, hT2, hl2, hf2, _⟩ := tree_facts hb hokB
      have h64a := okE_len ha
      have h64b := okE_len hb
      have hn1 := fun W (hW : RdL tEnt W S (.slice A a.length capa) a) => l04Nodes_any a.length _ a (Nat.le_refl _) h64a (good_of ha hokA) W S hW
      have hn2 := fun W (hW : RdL tEnt W S' (.slice B b.length capb) b) => l04Nodes_any b.length _ b (Nat.le_refl _) h64b (good_of hb hokB) W S' hW
      rw [hT1, hT2]
      simp only [hT1] at hn1
      simp only [hT2] at hn2
      have HK1 := Lib.hid T1.key_ok.1
      have HK2 := Lib.hid T2.key_ok.1
      clear ha hb hT1 hT2 hokA hokB
      generalize T1.all = N1 at hn1 hl1 hf1 ⊢
      generalize T2.all = N2 at hn2 hl2 hf2 ⊢
      generalize T1.key = k1 at hn1 HK1
      generalize T2.key = k2 at hn2 HK2
      have HL1 := Lib.hid hl1
      have HL2 := Lib.hid hl2
      have HF1 := Lib.hid (show ∀ k (hk : k < N1.length), N1[k].ok ∧ entB N1[k].n N1[k].v = true from fun k hk => ⟨(hf1 _ (List.getElem_mem hk)).1, (hf1 _ (List.getElem_mem hk)).2.1⟩)
      have HF2 := Lib.hid (show ∀ k (hk : k < N2.length), N2[k].ok ∧ entB N2[k].n N2[k].v = true from fun k hk => ⟨(hf2 _ (List.getElem_mem hk)).1, (hf2 _ (List.getElem_mem hk)).2.1⟩)
      have HLe1 := Lib.hid (show N1.length ≤ 64 by omega)
      have HLe2 := Lib.hid (show N2.length ≤ 64 by omega)
      clear hl1 hl2 hf1 hf2 h64a h64b
      go_enter Try.func32, Try.ntmps32
      go_wp2_with fail
      refine hc.mono ?_
      rintro e w1 ⟨rfl, hx⟩
      have HX1 := Lib.hid hx
      clear hx
      go_wp2_with fail
      refine (hc2 _ HX1.out).mono ?_
      rintro e w2 ⟨rfl, hx⟩
      have HX2 := Lib.hid (HX1.out.trans hx)
      clear hx hc hc2
      go_wp2_with fail
      refine (hn1 _ (H.out.ext (by decide) HX2.out)).mono ?_
      rintro e w3 ⟨v3, rfl, ho, hx⟩
      have HX3 := Lib.hid (HX2.out.trans hx)
      have HO3 := Lib.hid ho
      obtain ⟨A3, n3, c3, rfl⟩ := ho.shape3
      clear hx ho hn1
      go_wp2_with (refine wpl_storeNew aggKey HK1.out rfl rfl _ _ rfl rfl rfl rfl ?_)
      refine (hn2 _ (H'.out.ext (by decide) (HX3.out.alloc _))).mono ?_
      rintro e w4 ⟨v4, rfl, ho, hx⟩
      have HX4 := Lib.hid ((HX3.out.alloc _).trans hx)
      have HO4 := Lib.hid ho
      have HO3b := Lib.hid ((HO3.out.alloc _).ext hx)
      obtain ⟨A4, n4, c4, rfl⟩ := ho.shape3
      clear hx ho hn2 HO3
      go_wp2_with (refine wpl_storeNew aggKey HK2.out rfl rfl _ _ rfl rfl rfl rfl ?_)
      have HRA := Lib.hid (show ∀ W, Ext w4 W → RdL tNd W _ (.slice A3 n3 c3) N1 from fun W hW => HO3b.out.rd.ext (by decide) hW)
      have HRB := Lib.hid (show ∀ W, Ext w4 W → RdL tNd W _ (.slice A4 n4 c4) N2 from fun W hW => HO4.out.rd.ext (by decide) hW)
      obtain rfl : n3 = N1.length := by obtain ⟨_, _, e, _⟩ := HO3b.out.rd; injection e
      obtain rfl : n4 = N2.length := by obtain ⟨_, _, e, _⟩ := HO4.out.rd; injection e
      clear HO3b HO4 H H'
      go_loopw [10, 11] (fun o i wr => ∃ k : Nat, k ≤ N1.length ∧ i = .int .i64 k ∧ Own tKey 27 wr w4.heap.size o (kNs (N1.take k)) ∧ Ext w4 wr) (fun _ i _ => N1.length - (intOf i).toNat)
      case atStart => exact ⟨0, by omega, rfl, by rw [List.take_zero, kNs_zero]; exact Own.empty' tKey (World.size_alloc _ _).symm 27 w4.heap.size (ext_alloc _ _).size, (ext_alloc _ _).alloc _⟩
      case round =>
        obtain ⟨k, hk, rfl, ho, hx⟩ := hrel
        have HX := Lib.hid hx
        have HO := Lib.hid ho
        obtain ⟨C, cn, cc, rfl⟩ := ho.shape3
        clear hx ho
        by_cases hlt : k < N1.length
        · obtain ⟨A', c', e9, h9, h10, h11, h12⟩ := HRA.out wr HX.out
          injection e9 with e91 e92 e93
          subst e91 e93
          obtain ⟨g, o, rfl, hs0, hcell⟩ := h11.elem h12 k hlt
          have hcell : ∀ W, Ext wr W → ∀ j u, (N1[k].enc.toArray)[j]? = some u → W.cell? ⟨g, o + k * 66 + j, none⟩ = some u := fun W hW j u hu => hW.cell (hcell j u (by rw [← List.getElem?_toArray]; exact hu))
          have hfk := HF1.out k hlt
          have ht1 := List.take_succ_eq_append_getElem hlt
          have hkl : (kNs (N1.take k)).length = k := by rw [kNs_len, List.length_take]; omega
          clear h9 h10 h11 h12 hs0
          generalize N1[k] = x at hcell hfk ht1
          have hky := kN_ok x
          have hct := fun W hW => l04NodeKeyAt_any x hfk.1 hfk.2 g (o + k * 66) W (fun W' hW' => hcell W' (Ext.trans (show Ext wr W from hW) hW'))
          rw [show hashL 5 (nodeL x) = kN x by rw [kN]] at hct
          have hi : (0 : Int) ≤ (k : Int) := by omega
          have hi2 : (k : Int) < (N1.length : Int) := by omega
          have HT1 := Lib.hid ht1
          have HKL := Lib.hid hkl
          have HKY := Lib.hid hky
          have hnl : (nums .u8 (kN x)).length = 32 := by rw [nums_length, HKY.out.1]
          have hns : (numsA .u8 (kN x)).size = 32 := sizeN HKY.out.1
          have hle := HLe1.out
          clear hcell hfk ht1 hkl hky
          go_wp2_with fail
          refine (hct _ (Ext.refl _)).mono ?_
          rintro e w5 ⟨rfl, hx⟩
          have HX5 := Lib.hid (HX.out.trans hx)
          have HO5 := Lib.hid (HO.out.ext hx)
          clear hx hct HO
          go_wp2_with (at_builtin; go_loud (rw [fold_fillA (numsA .u8 (kN x)) _ _ (sizeN HKY.out.1) rfl]); go_loud (refine wpl_append rowKeys rfl _ _ rfl (v := .slice C cn cc) rfl (HO5.out.alloc _) _ _ rfl (A := some ⟨w5.heap.size, 0, none⟩) (ys := [kN x]) rfl (rd_one (T := tKey) w5 (kN x) HKY.out _) (by intro y hy; obtain rfl := List.mem_singleton.1 hy; exact HKY.out) (by rw [HKL.out]; simp; omega) (HX5.out.alloc _).size ?_); intro v9 w9 ho1 hg1 hat1; have HX9 := Lib.hid ((HO5.out.alloc _).ext_app (HX5.out.alloc _) hg1); have HO9 := Lib.hid ho1; clear ho1 hg1 hat1)
          go_roundw
          case rel => exact ⟨k + 1, by omega, by go_num, by rw [HT1.out, kNs_snoc]; exact HO9.out, HX9.out⟩
          case measure => simp [intOf]; omega
        · obtain rfl : k = N1.length := by omega
          have hto := List.take_length (l := N1)
          rw [hto] at HO
          have HRD := Lib.hid (show ∀ W, Ext wr W → RdL tKey W _ (.slice C cn cc) (kNs N1) from fun W hW => HO.out.rd.ext (by decide) hW)
          have HXW := Lib.hid (HX4.out.trans HX.out)
          clear hto
          go_wp2
          go_loopw [12, 13] (fun c i wq => ∃ k : Nat, k ≤ N2.length ∧ i = .int .i64 k ∧ c = .int .i64 (cntK (kNs N1) (N2.take k) : Nat) ∧ Ext wr wq) (fun _ i _ => N2.length - (intOf i).toNat)
          case atStart => exact ⟨0, by omega, rfl, by rw [List.take_zero, cntK_zero]; rfl, Ext.refl _⟩
          case round =>
            obtain ⟨j, hj, rfl, rfl, hx⟩ := hrel
            have HQ := Lib.hid hx
            clear hx
            by_cases hltj : j < N2.length
            · obtain ⟨A', c', e9, h9, h10, h11, h12⟩ := HRB.out wr (HX.out.trans HQ.out)
              injection e9 with e91 e92 e93
              subst e91 e93
              obtain ⟨g, o, rfl, hs0, hcell⟩ := h11.elem h12 j hltj
              have hcell : ∀ W, Ext wr W → ∀ i u, (N2[j].enc.toArray)[i]? = some u → W.cell? ⟨g, o + j * 66 + i, none⟩ = some u := fun W hW i u hu => hW.cell (hcell i u (by rw [← List.getElem?_toArray]; exact hu))
              have hfk := HF2.out j hltj
              have ht1 := List.take_succ_eq_append_getElem hltj
              have hsn := cntK_snoc (kNs N1) (N2.take j) N2[j]
              have hbd : cntK (kNs N1) (N2.take j) ≤ 64 := Nat.le_trans (cntK_le _ _) (by rw [List.length_take]; have := HLe2.out; omega)
              clear h9 h10 h11 h12 hs0
              generalize N2[j] = x at hcell hfk ht1 hsn
              have hky := kN_ok x
              have hct := fun W hW => l04NodeKeyAt_any x hfk.1 hfk.2 g (o + j * 66) W (fun W' hW' => hcell W' (Ext.trans (show Ext wr W from hW) hW'))
              rw [show hashL 5 (nodeL x) = kN x by rw [kN]] at hct
              have hhas := fun W hW => l01Has_any _ (kNs N1) (kN x) hky W _ (HRD.out W hW)
              have hi : (0 : Int) ≤ (j : Int) := by omega
              have hi2 : (j : Int) < (N2.length : Int) := by omega
              rw [← ht1] at hsn
              generalize cntK (kNs N1) (N2.take j) = cn9 at hsn hbd ⊢
              have HKY := Lib.hid hky
              have hle := HLe2.out
              clear hcell hfk ht1 hky
              cases hcon : (kNs N1).contains (kN x) with
              | true =>
                rw [hcon, if_pos rfl] at hsn
                simp only [hcon] at hhas
                have HSN := Lib.hid hsn
                clear hcon hsn
                go_wp2_with fail
                refine (hct _ (Ext.refl _)).mono ?_
                rintro e w5 ⟨rfl, hx⟩
                have HX5 := Lib.hid (HQ.out.trans hx)
                clear hx hct
                go_wp2_with fail
                refine (hhas _ HX5.out).mono ?_
                rintro e w6 ⟨rfl, hx⟩
                have HX6 := Lib.hid (HX5.out.trans hx)
                clear hx hhas
                go_wp2
                go_roundw
                case rel => exact ⟨j + 1, by omega, by go_num, by rw [HSN.out]; go_num, HX6.out⟩
                case measure => simp [intOf]; omega
              | false =>
                rw [hcon, if_neg Bool.false_ne_true] at hsn
                simp only [hcon] at hhas
                have HSN := Lib.hid hsn
                clear hcon hsn
                go_wp2_with fail
                refine (hct _ (Ext.refl _)).mono ?_
                rintro e w5 ⟨rfl, hx⟩
                have HX5 := Lib.hid (HQ.out.trans hx)
                clear hx hct
                go_wp2_with fail
                refine (hhas _ HX5.out).mono ?_
                rintro e w6 ⟨rfl, hx⟩
                have HX6 := Lib.hid (HX5.out.trans hx)
                clear hx hhas
                go_wp2
                go_roundw
                case rel => exact ⟨j + 1, by omega, by go_num, by rw [HSN.out], HX6.out⟩
                case measure => simp [intOf]; omega
            · obtain rfl : j = N2.length := by omega
              rw [List.take_length]
              go_wp2
              go_ret2
              exact ⟨rfl, HXW.out.trans HQ.out⟩
end Go.Proofs.Ytmndkbheehcoaaa
/- A map keyed by keys, of bools, that the call makes: a set of keys. No condition. -/
namespace Go.Proofs.Ytmndkbheehcoaaa
open Go.RowKit Go.Maps
set_option linter.unusedVariables false
set_option linter.unusedSimpArgs false

/-- a key as the kit's maps tell it -/
def klit (xs : List Int) : Lit := .string (keyBytes (xs.map (Lit.int .u8)))
theorem keyedKey : Keyed Try.prog 27 := Keyed.of_law (deep_law (m := 3) (by decide) (by kernel_rfl) (by kernel_rfl) (by kernel_rfl))
theorem mapM_opt {α β : Type} {g : α → Option β} {h : α → β} : ∀ {l : List α}, (∀ a ∈ l, g a = some (h a)) → l.mapM g = some (l.map h)
  | [], _ => rfl
  | a :: l, H => by
    rw [List.mapM_cons, H a (by simp), mapM_opt (fun b hb => H b (by simp [hb]))]
    rfl
theorem keyLits_u8 (d : Nat) (n : Int) (h0 : 0 ≤ n) (h1 : n ≤ 255) : Try.prog.keyLits (d + 1) 5 [.int .u8 n] = some [.int .u8 n] := by
  have hu : Try.prog.underlying 5 = some (.int .u8) := by kernel_rfl
  have hw : (Lit.int .u8 n).wf = true := by
    simp only [Lit.wf, Bool.and_eq_true, decide_eq_true_eq]
    exact ⟨by simpa [IntKind.min, IntKind.signed] using h0, by simpa [IntKind.max, IntKind.signed, IntKind.bits] using h1⟩
  unfold Program.keyLits
  rw [hu]
  simp only [true_and]
  rw [if_pos hw]
theorem keyLits_key (d : Nat) (xs : List Int) (h : K32 xs) : Try.prog.keyLits (d + 2) 27 (nums .u8 xs) = some (xs.map (Lit.int .u8)) := by
  have hu : Try.prog.underlying 27 = some (.array 32 5) := by kernel_rfl
  have hc : Try.prog.cellsOf 27 = 32 := by kernel_rfl
  have h8 : Try.prog.cellsOf 5 = 1 := by kernel_rfl
  have hm : (List.range 32).mapM (fun i => Try.prog.keyLits (d + 1) 5 (((nums .u8 xs).drop (i * 1)).take 1)) = some ((List.range 32).map fun i => [Lit.int .u8 (gI xs i)]) := by
    refine mapM_opt fun i hi => ?_
    have hi : i < xs.length := by rw [h.1]; exact List.mem_range.1 hi
    have e : ((nums .u8 xs).drop (i * 1)).take 1 = [.int .u8 (gI xs i)] := by
      have := nums_at .u8 xs i hi
      rw [Nat.mul_one, List.take_one, List.head?_drop, this]
      rfl
    rw [e]
    have hb := h.2 (gI xs i) (by rw [gI_lt hi]; exact List.getElem_mem hi)
    exact keyLits_u8 d _ hb.1 (by have := hb.2; omega)
  unfold Program.keyLits
  rw [hu]
  show (if (nums .u8 xs).length = Try.prog.cellsOf 27 then Option.map List.flatten ((List.range 32).mapM fun i => Try.prog.keyLits (d + 1) 5 (((nums .u8 xs).drop (i * Try.prog.cellsOf 5)).take (Try.prog.cellsOf 5))) else none) = _
  rw [if_pos (by rw [nums_length, h.1, hc]), h8, hm, Option.map_some]
  have e : List.flatten ((List.range 32).map fun i => [Lit.int .u8 (gI xs i)]) = xs.map (Lit.int .u8) := by
    rw [← List.flatMap_def, ← List.map_eq_flatMap]
    refine List.ext_getElem (by simp [h.1]) fun i h1 h2 => ?_
    simp only [List.length_map] at h2
    simp [gI_lt h2]
  rw [e]
theorem keyOf_key (xs : List Int) (h : K32 xs) : keyOf Try.prog 27 (.agg (numsA .u8 xs)) = some (klit xs) := by
  have hu : Try.prog.underlying 27 = some (.array 32 5) := by kernel_rfl
  have hc : Try.prog.cellsOf 27 = 32 := by kernel_rfl
  have hk : Try.prog.keyType 27 = true := by kernel_rfl
  have hz : (decide (1 ≤ Try.prog.types.size)) = true := by kernel_rfl
  have hz := of_decide_eq_true hz
  have hf : (Value.agg (numsA .u8 xs)).formed Try.prog 27 = true := by
    simp only [Value.formed, hu, hc, numsA_size, h.1]; rfl
  have hl := keyLits_key (Try.prog.types.size - 1) xs h
  rw [show Try.prog.types.size - 1 + 2 = Try.prog.types.size + 1 by omega] at hl
  unfold keyOf
  simp only [hu]
  rw [hk, hf]
  rw [if_pos (by rfl)]
  show ((Try.prog.keyLits (Try.prog.types.size + 1) 27 (nums .u8 xs)).map fun ls => Lit.string (keyBytes ls)) = _
  rw [hl, Option.map_some, klit]
theorem klit_inj {a b : List Int} (ha : K32 a) (hb : K32 b) (h : klit a = klit b) : a = b := by
  have h1 := keyOf_key a ha
  have h2 := keyOf_key b hb
  rw [h] at h1
  have e := keyedKey.inj h1 h2
  have e := congrArg Array.toList (Value.agg.inj e)
  exact (List.map_inj_right (fun x y h => by injection h)).1 (show a.map (Value.int .u8) = b.map (Value.int .u8) from e)

/-- the datum of a set of keys -/
def setK (ks : List (List Int)) : DataW Unit := Maps.setOf (.lit (.bool true)) (ks.map klit)
theorem setK_nil : setK [] = .map [] := rfl
theorem setK_snoc (ks : List (List Int)) (k : List Int) : setK (ks ++ [k]) = (setK ks).put (klit k) (.lit (.bool true)) := by
  rw [setK, List.map_append, List.map_cons, List.map_nil, setOf_snoc]; rfl
theorem klit_key (k : List Int) : WideAt.IsKeyLit (klit k) := trivial
theorem setK_isMap (ks : List (List Int)) : IsMap (setK ks) := (tidy_setOf _ _ (fun x hx => by obtain ⟨k, _, rfl⟩ := List.mem_map.1 hx; exact klit_key k)).isMap
theorem atKey_setK (n : Nat) : ∀ (ks : List (List Int)), ks.length = n → (∀ k ∈ ks, K32 k) → ∀ k, K32 k → (setK ks).atKey (klit k) (.lit (.bool false)) = .lit (.bool (ks.contains k)) := by
  induction n with
  | zero =>
    intro ks h0 _ k _
    obtain rfl := List.eq_nil_of_length_eq_zero h0
    rfl
  | succ n ih =>
    intro ks hn hk k hkk
    have hne : ks ≠ [] := by rintro rfl; cases hn
    obtain ⟨l, a, rfl⟩ : ∃ l a, ks = l ++ [a] := ⟨ks.dropLast, ks.getLast hne, (List.dropLast_concat_getLast hne).symm⟩
    have ihl := ih l (by simpa using hn) (fun x hx => hk x (by simp [hx])) k hkk
    rw [setK_snoc]
    by_cases e : k = a
    · subst e
      rw [atKey_put_same (setK_isMap l) (klit_key k)]
      simp
    · rw [atKey_put_other (fun h => e (klit_inj hkk (hk a (by simp)) h)), ihl]
      simp [e]
theorem plainElem_bool_inv {H : Type} {P : Program} {e : TypeId} (he : P.underlying e = some .bool) {v : Value} {z : DataW H × List MemPlace} (h : plainElem P e v = some z) : ∃ x, v = .bool x ∧ z = (.lit (.bool x), []) := by
  unfold plainElem at h
  rw [he] at h
  cases v <;> simp at h
  exact ⟨_, rfl, h.symm⟩

/-- block b of w is a set of keys that the call made -/
def OwnSet (w : World) (b : Nat) (ks : List (List Int)) : Prop := w.ownsMap Try.prog 27 (plainElem (H := Unit) Try.prog 4) b ks.length (setK ks) ∧ ∀ k ∈ ks, K32 k
theorem OwnSet.made (w : World) : OwnSet (w.alloc (.map #[] 0)) w.heap.size [] := ⟨World.ownsMap_made _ _ _ _, fun _ h => by cases h⟩
theorem OwnSet.lt {w : World} {b : Nat} {ks : List (List Int)} (h : OwnSet w b ks) : b < w.heap.size := World.ownsMap.lt h.1
theorem OwnSet.ext {w w' : World} {b : Nat} {ks : List (List Int)} (h : OwnSet w b ks) (hx : Ext w w') : OwnSet w' b ks := by
  refine ⟨?_, h.2⟩
  obtain ⟨es, clock, hb, r⟩ := h.1
  exact ⟨es, clock, (hx.block _ h.lt).trans hb, r⟩
theorem OwnSet.alloc {w : World} {b : Nat} {ks : List (List Int)} (h : OwnSet w b ks) (o : Obj) : OwnSet (w.alloc o) b ks := ⟨h.1.alloc o, h.2⟩
theorem wpl_setPut {P : Program} (hP : P = Try.prog) {w : World} {ops : Array Oper} {rest : List Oper} {o : Oper} {a : Act} {Q : Exit → Act → World → Prop}
    (hg : o.guard = none) (m x v : Operand) (t : TypeId) (hop : o.op = Op.mapUpdate t m x v) (ht : Try.prog.underlying t = some (.map 27 4)) (b : Nat) (ks : List (List Int))
    (hm : a.eval m = .map (some b)) (hown : OwnSet w b ks) (hn : ks.length < 1000000) (k : List Int) (hk : K32 k) (hx : a.eval x = .agg (numsA .u8 k)) (hv : a.eval v = .bool true)
    (hK : ∀ w', OwnSet w' b (ks ++ [k]) → w.grownBy w' (some b) → wpList P ops Q rest (a.put o.dst undef) w') :
    wpList P ops Q (o :: rest) a w := by
  subst hP
  refine wpList_mapUpdate_own w hg m x v t hop 27 4 keyedKey ht _ b ks.length (setK ks) hm hown.1 (by unfold maxLen; omega) _ _ (klit k) hx hv (keyOf_key k hk) (.lit (.bool true)) [] (plainElem_bool (by kernel_rfl) true) fun w' h1 h2 => hK w' ⟨?_, ?_⟩ h2
  · rw [setK_snoc, List.length_append]; exact h1
  · intro k' hk'
    rcases List.mem_append.1 hk' with h | h
    · exact hown.2 _ h
    · obtain rfl := List.mem_singleton.1 h; exact hk
theorem wpl_setHas {P : Program} (hP : P = Try.prog) {w : World} {ops : Array Oper} {rest : List Oper} {o : Oper} {a : Act} {Q : Exit → Act → World → Prop}
    (hg : o.guard = none) (m x : Operand) (t : TypeId) (hop : o.op = Op.lookup t m x false) (ht : Try.prog.underlying t = some (.map 27 4)) (b : Nat) (ks : List (List Int))
    (hm : a.eval m = .map (some b)) (hown : OwnSet w b ks) (k : List Int) (hk : K32 k) (hx : a.eval x = .agg (numsA .u8 k))
    (hK : wpList P ops Q rest (a.put o.dst (.bool (ks.contains k))) w) :
    wpList P ops Q (o :: rest) a w := by
  subst hP
  refine wpList_plain hg fun K' hK' => ?_
  have hz : ∀ W, (zeroValue 4).run Try.prog W = .ok (.bool false) W := fun W => by kernel_rfl
  obtain ⟨v, ps, hrun, hv⟩ := hown.1.lookup keyedKey ht (hz w) (plainElem_bool (by kernel_rfl) false) (keyOf_key k hk)
  obtain ⟨c, rfl, hc⟩ := plainElem_bool_inv (by kernel_rfl) hv
  rw [atKey_setK _ ks rfl hown.2 k hk] at hc
  simp only [Prod.mk.injEq, DataW.lit.injEq, Lit.bool.injEq] at hc
  obtain ⟨rfl, _⟩ := hc
  clear hv
  generalize ks.contains k = c at hrun hK
  unfold Oper.wp
  simp [execOp, hop, hm, hx, hrun, Result.andThen]
  exact hK' _ _ hK
end Go.Proofs.Ytmndkbheehcoaaa
/- A source of choices: what is drawn lies in its bounds. No condition. -/
namespace Go.Proofs.Ytmndkbheehcoaaa
open Go.RowKit
set_option linter.unusedVariables false
set_option linter.unusedSimpArgs false

/-- a source in block g that has been asked at most b times; what it reads lies in older blocks -/
def Src (w : World) (g : Nat) (b : Int) : Prop :=
  ∃ (A : Option Addr) (cap : Nat) (xs : List Int) (p q : Int), Blk w g 167 #[.slice A xs.length cap, .int .i64 p, .int .u64 q] ∧ RdL tByte w (fun k => k < g) (.slice A xs.length cap) xs ∧ 0 ≤ p ∧ p ≤ b
theorem Src.lt {w : World} {g : Nat} {b : Int} (h : Src w g b) : g < w.heap.size := by
  obtain ⟨A, cap, xs, p, q, hB, _⟩ := h
  exact hB.lt
theorem Src.le {w : World} {g : Nat} {b c : Int} (h : Src w g b) (hc : b ≤ c) : Src w g c := by
  obtain ⟨A, cap, xs, p, q, hB, hr, h0, h1⟩ := h
  exact ⟨A, cap, xs, p, q, hB, hr, h0, by omega⟩
theorem Src.later {w w' : World} {g : Nat} {b : Int} {row : Option Nat} (h : Src w g b) (hg : w.grownBy w' row) (hr : ∀ k, row = some k → g < k) : Src w' g b := by
  obtain ⟨A, cap, xs, p, q, hB, hrd, h0, h1⟩ := h
  refine ⟨A, cap, xs, p, q, hB.grown hg (fun e => ?_), hrd.keep (fun k hk => hg.block k (Nat.lt_trans hk hB.lt) (fun e => ?_)), h0, h1⟩
  · have := hr g e.symm; omega
  · have := hr k e.symm; omega
theorem Src.ext {w w' : World} {g : Nat} {b : Int} (h : Src w g b) (hx : Ext w w') : Src w' g b := h.later (ext_grown none hx) (fun k e => by cases e)
theorem srcEnd {w w' : World} {g : Nat} {b p q : Int} {A : Option Addr} {cap : Nat} {xs : List Int} (hr : RdL tByte w (fun k => k < g) (.slice A xs.length cap) xs) (hg : w.grownBy w' (some g)) (hl : g < w.heap.size)
    (hB : Blk w' g 167 #[.slice A xs.length cap, .int .i64 p, .int .u64 q]) (h0 : 0 ≤ p) (h1 : p ≤ b) : Src w' g b :=
  ⟨A, cap, xs, p, q, hB, hr.keep (fun k hk => hg.block k (Nat.lt_trans hk hl) (fun e => by injection e with e; omega)), h0, h1⟩
theorem srcBoth {w w' : World} {g : Nat} {b p q : Int} {A : Option Addr} {cap : Nat} {xs : List Int} (hr : RdL tByte w (fun k => k < g) (.slice A xs.length cap) xs) (hg : w.grownBy w' (some g)) (hl : g < w.heap.size)
    (hB : Blk w' g 167 #[.slice A xs.length cap, .int .i64 p, .int .u64 q]) (h0 : 0 ≤ p) (h1 : p ≤ b) : Src w' g b ∧ w.grownBy w' (some g) := ⟨srcEnd hr hg hl hB h0 h1, hg⟩
theorem grown_drewN {w w' : World} {row : Option Nat} (h : w.grownBy w' row) (n : Nat) : w.grownBy (w'.drewN n) row := ⟨h.os, h.tape, h.output, h.size, h.block⟩
theorem and_255 (E : Int) (h0 : 0 ≤ E) (h1 : E ≤ 18446744073709551615) : bits BinOp.and IntKind.u64 E 255 = E % 256 := by
  have h := bits_and_u64_nat E.toNat 255 (by omega) (by omega)
  rw [show (255 : Nat) = 2 ^ 8 - 1 from rfl, Nat.and_two_pow_sub_one_eq_mod, Int.toNat_of_nonneg h0] at h
  have h2 : ((E.toNat % 2 ^ 8 : Nat) : Int) = E % 256 := by omega
  exact h.trans h2
set_option maxHeartbeats 1000000 in
set_option maxRecDepth 100000 in
theorem srcNext_any (g : Nat) (b : Int) (hb : b ≤ 4611686018427387904) (w : World) (h : Src w g b) :
    Calls Try.prog 166 #[.pointer (some ⟨g, 0, none⟩)] w fun e w' => ∃ n : Int, e = .returned (.int .i64 n) ∧ 0 ≤ n ∧ n ≤ 255 ∧ Src w' g (b + 1) ∧ w.grownBy w' (some g) := by
  obtain ⟨A, cap, xs, p, q, hB, hr, h0, h1⟩ := h
  obtain ⟨A', cap', e1, hcap, hlen, hrd, hok⟩ := id hr
  injection e1 with e1 e2 e3
  subst e1 e3
  have HR := Lib.hid hr
  have HB := Lib.hid hB
  have hgl := hB.lt
  have c0 : w.cell? ⟨g, 0, none⟩ = some (.slice A xs.length cap) := hB.at_ 0 rfl
  have c1 : w.cell? ⟨g, 1, none⟩ = some (.int .i64 p) := hB.at_ 1 rfl
  have c2 : w.cell? ⟨g, 2, none⟩ = some (.int .u64 q) := hB.at_ 2 rfl
  have f1 : w.frozen? ⟨g, 1, none⟩ = false := hB.free 1
  have f2 : w.frozen? ⟨g, 2, none⟩ = false := hB.free 2
  clear hr hB
  by_cases hlt : p < xs.length
  · obtain ⟨k, rfl⟩ := Int.eq_ofNat_of_zero_le h0
    have hrd' : Rd w (fun k => k < g) 1 A xs.length (nums .u8 xs) := by rw [← flat_bytes]; exact hrd
    obtain ⟨g2, o2, rfl, hs, hc⟩ := hrd'.byte k (by omega)
    have hbyte := B8.get hok k
    have hk2 : (k : Int) + 1 ≤ (xs.length : Int) := by omega
    clear hok hrd hrd' e2
    go_enter Try.func166, Try.ntmps166
    go_wp2
    go_quiet (fail)
    go_wp2
    go_quiet (fail)
    go_wp2
    go_quiet (fail)
    go_wp2
    go_ret
    refine ⟨_, rfl, hbyte.1, hbyte.2, ?hS⟩
    case hS => exact srcBoth HR.out (grown_drewN (grown_set (grown_set (ext_grown (some g) ((Ext.refl w).drewN _)) _) _) _) hgl ((((HB.out.drewN _).set 1 _).set 2 _).drewN _) (by omega) (by omega)
  · have hk2 : ¬ p + 1 ≤ (xs.length : Int) := by omega
    have hwq : ∀ z : Int, 0 ≤ IntKind.u64.wrap z / 1099511627776 ∧ IntKind.u64.wrap z / 1099511627776 ≤ 18446744073709551615 := fun z => by rw [IntKind.wrap_u64]; omega
    go_enter Try.func166, Try.ntmps166
    go_wp2
    go_quiet (fail)
    go_wp2
    go_quiet (fail)
    go_wp2
    go_ret
    rw [and_255 _ (hwq _).1 (hwq _).2]
    have hm : ∀ z : Int, wrap64 (z % 256) = z % 256 := fun z => by rw [wrap64]; omega
    rw [hm]
    refine ⟨_, rfl, by omega, by omega, ?hS⟩
    case hS => exact srcBoth HR.out (grown_drewN (grown_set (grown_set (ext_grown (some g) ((Ext.refl w).drewN _)) _) _) _) hgl ((((HB.out.drewN _).set 1 _).set 2 _).drewN _) (by omega) (by omega)
theorem rem_small {x n : Int} (h0 : 0 ≤ x) (hn : 0 < n) : 0 ≤ x.tmod n ∧ x.tmod n < n := ⟨Int.tmod_nonneg _ h0, Int.tmod_lt_of_pos _ hn⟩
set_option maxHeartbeats 1000000 in
set_option maxRecDepth 100000 in
theorem srcPick_any (g : Nat) (b : Int) (hb : b ≤ 4611686018427387902) (n : Int) (hn : n ≤ 4611686018427387904) (w : World) (h : Src w g b) :
    Calls Try.prog 143 #[.pointer (some ⟨g, 0, none⟩), .int .i64 n] w fun e w' => ∃ r : Int, e = .returned (.int .i64 r) ∧ 0 ≤ r ∧ (r < n ∨ r = 0) ∧ Src w' g (b + 2) ∧ w.grownBy w' (some g) := by
  by_cases h1 : n ≤ 1
  · go_enter Try.func143, Try.ntmps143
    go_wp2
    go_ret
    exact ⟨0, rfl, by omega, .inr rfl, h.le (by omega), grown_refl _ _⟩
  · by_cases h2 : 200 < n
    · go_enter Try.func143, Try.ntmps143
      go_wp2_with fail
      refine (srcNext_any g b (by omega) _ h).mono ?_
      rintro e w1 ⟨x, rfl, hx0, hx1, hs, hg⟩
      have HS := Lib.hid hs
      have HG := Lib.hid hg
      clear hs hg h
      go_wp2_with fail
      refine (srcNext_any g (b + 1) (by omega) _ HS.out).mono ?_
      rintro e w2 ⟨y, rfl, hy0, hy1, hs, hg⟩
      replace HS := Lib.hid hs
      replace HG := Lib.hid (grown_trans HG.out hg)
      clear hs hg
      go_wp2
      go_ret
      exact ⟨_, rfl, Int.emod_nonneg _ (by omega), .inl (Int.emod_lt_of_pos _ (by omega)), HS.out.le (by omega), HG.out⟩
    · go_enter Try.func143, Try.ntmps143
      go_wp2_with fail
      refine (srcNext_any g b (by omega) _ h).mono ?_
      rintro e w1 ⟨x, rfl, hx0, hx1, hs, hg⟩
      have HS := Lib.hid hs
      have HG := Lib.hid hg
      clear hs hg h
      go_wp2
      go_ret
      exact ⟨_, rfl, Int.emod_nonneg _ (by omega), .inl (Int.emod_lt_of_pos _ (by omega)), HS.out.le (by omega), HG.out⟩
set_option maxHeartbeats 1000000 in
set_option maxRecDepth 100000 in
theorem srcOne_any (g : Nat) (b : Int) (hb : b ≤ 4611686018427387902) (n : Int) (hn : n ≤ 4611686018427387904) (w : World) (h : Src w g b) :
    Calls Try.prog 155 #[.pointer (some ⟨g, 0, none⟩), .int .i64 n] w fun e w' => ∃ r : Bool, e = .returned (.bool r) ∧ Src w' g (b + 2) ∧ w.grownBy w' (some g) := by
  go_enter Try.func155, Try.ntmps155
  go_wp2_with fail
  refine (srcPick_any g b hb n hn _ h).mono ?_
  rintro e w1 ⟨x, rfl, hx0, hx1, hs, hg⟩
  have HS := Lib.hid hs
  have HG := Lib.hid hg
  clear hs hg h
  go_wp2
  go_ret
  exact ⟨_, rfl, HS.out, HG.out⟩
/-- texts -/
def tStr : Ty ByteArray := ⟨1, fun s => [.string s], fun s => s.size ≤ 140737488351232, fun _ _ => rfl, fun _ u hu => by simp at hu; subst hu; rfl⟩
theorem RdL.grownG {α : Type} {T : Ty α} {w w' : World} {S : Nat → Prop} {v : Value} {xs : List α} {g : Nat} (h : RdL T w S v xs) (hz : 0 < T.sz) (hg : w.grownBy w' (some g)) (hS : ∀ k, S k → k ≠ g) : RdL T w' S v xs := by
  obtain ⟨A, cap, he, h1, h2, h3, h4⟩ := h
  refine ⟨A, cap, he, h1, h2, ((h3.old hz).keep (fun k hk => hg.block k hk.2 (fun e => hS k hk.1 (by injection e)))).mono (fun k hk => hk.1), h4⟩
set_option maxHeartbeats 1000000 in
set_option maxRecDepth 100000 in
theorem srcText_any (g : Nat) (b : Int) (hb : b ≤ 4611686018427387902) (v : Value) (ts : List ByteArray) (hne : 0 < ts.length) (w : World) (h : Src w g b) (S : Nat → Prop) (hr : RdL tStr w S v ts) (hS : ∀ k, S k → k ≠ g) :
    Calls Try.prog 110 #[.pointer (some ⟨g, 0, none⟩), v] w fun e w' => ∃ s ∈ ts, e = .returned (.string s) ∧ s.size ≤ 140737488351232 ∧ Src w' g (b + 2) ∧ w.grownBy w' (some g) := by
  have HRD := Lib.hid hr
  obtain ⟨A, cap, rfl, hcap, hlen, hrd, hok⟩ := hr
  have hlen2 : (ts.length : Int) ≤ 4611686018427387904 := by omega
  clear hrd hok
  go_enter Try.func110, Try.ntmps110
  go_wp2_with fail
  refine (srcPick_any g b hb ts.length hlen2 _ h).mono ?_
  rintro e w1 ⟨x, rfl, hx0, hx1, hs, hg⟩
  obtain ⟨A', cap', e1, _, _, hrd, hok⟩ := HRD.out.grownG (by decide) hg hS
  injection e1 with e1 e2 e3
  subst e1
  obtain ⟨k, rfl⟩ := Int.eq_ofNat_of_zero_le hx0
  have hk : k < ts.length := by omega
  obtain ⟨g2, o2, rfl, hs2, hc⟩ := hrd.elem hok k hk
  have hc0 : w1.cell? ⟨g2, o2 + k, none⟩ = some (.string ts[k]) := by
    have := hc 0 (.string ts[k]) rfl
    rwa [show o2 + k * tStr.sz + 0 = o2 + k by show o2 + k * 1 + 0 = o2 + k; omega] at this
  have hsz : ts[k].size ≤ 140737488351232 := hok _ (List.getElem_mem hk)
  have hki : (k : Int) < (ts.length : Int) := by omega
  have HS := Lib.hid hs
  have HG := Lib.hid hg
  clear hs hg h hc hrd hok e2
  go_wp2
  go_ret
  exact ⟨ts[k], List.getElem_mem hk, rfl, hsz, HS.out, HG.out⟩
set_option maxHeartbeats 1000000 in
set_option maxRecDepth 100000 in
theorem l00From_any (v : Value) (xs : List Int) (w : World) (S : Nat → Prop) (h : RdL tByte w S v xs) :
    Calls Try.prog 103 #[v] w fun e w' => e = .returned (.pointer (some ⟨w.heap.size, 0, none⟩)) ∧ Src w' w.heap.size 0 ∧ Ext w w' := by
  have H := Lib.hid h
  obtain ⟨A, cap, rfl, _⟩ := h
  go_enter Try.func103, Try.ntmps103
  go_wp2
  go_ret
  refine ⟨rfl, ⟨A, cap, xs, 0, 0, Blk.new w _ _, ?_, by decide, by decide⟩, ext_alloc _ _⟩
  obtain ⟨A', cap', e1, h1, h2, h3, h4⟩ := H.out
  exact ⟨A', cap', e1, h1, h2, ((h3.old (by decide)).mono (fun k hk => hk.2)).ext (by decide) (ext_alloc _ _), h4⟩
end Go.Proofs.Ytmndkbheehcoaaa
/- The nodes that two maps share: the program. No condition. -/
namespace Go.Proofs.Ytmndkbheehcoaaa
open Go.RowKit
set_option linter.unusedVariables false
set_option linter.unusedSimpArgs false
set_option maxHeartbeats 1000000 in
set_option maxRecDepth 100000 in
theorem implShared_any (v u : Value) (a b : List En) (w : World) (S S' : Nat → Prop) (h : RdL tEnt w S v a) (h' : RdL tEnt w S' u b) :
    Calls Try.prog 33 #[v, u] w fun e w' => e = .returned (.tuple #[.int .i64 (sharR a b).1, .int .i64 (sharR a b).2]) ∧ Ext w w' := by
  have H := Lib.hid h
  have H' := Lib.hid h'
  have hokA := h.choose_spec.choose_spec.2.2.2.2
  have hokB := h'.choose_spec.choose_spec.2.2.2.2
  have hc := validEntries_any v a w S h
  have hc2 := fun W (hW : Ext w W) => validEntries_any u b W S' (h'.ext (by decide) hW)
  obtain ⟨A, capa, rfl, _⟩ := h
  obtain ⟨B, capb, rfl, _⟩ := h'
  cases ha : okE a with
  | false =>
    simp only [sharR, ha, Bool.false_and, Bool.false_eq_true, if_false]
    simp only [ha] at hc
    clear ha hc2
    go_enter Try.func33, Try.ntmps33
    go_wp2_with fail
    refine hc.mono ?_
    rintro e w1 ⟨rfl, hx⟩
    have HX := Lib.hid hx
    clear hx
    go_wp2
    go_ret2
    exact ⟨rfl, HX.out⟩
  | true =>
    simp only [ha] at hc
    cases hb : okE b with
    | false =>
      simp only [sharR, ha, hb, Bool.and_false, Bool.false_eq_true, if_false]
      simp only [hb] at hc2
      clear ha hb
      go_enter Try.func33, Try.ntmps33
      go_wp2_with fail
      refine hc.mono ?_
      rintro e w1 ⟨rfl, hx⟩
      have HX := Lib.hid hx
      clear hx
      go_wp2_with fail
      refine (hc2 _ HX.out).mono ?_
      rintro e w2 ⟨rfl, hx⟩
      have HX2 := Lib.hid (HX.out.trans hx)
      clear hx
      go_wp2
      go_ret2
      exact ⟨rfl, HX2.out⟩
    | true =>
      simp only [sharR, ha, hb, Bool.and_true, if_true]
      simp only [hb] at hc2
      obtain ⟨T1, hT1, hl1, hf1, _⟩ := tree_facts ha hokA
      obtain ⟨T2, hT2, hl2, hf2, _⟩ := tree_facts hb hokB
      have h64a := okE_len ha
      have h64b := okE_len hb
      have hn1 := fun W (hW : RdL tEnt W S (.slice A a.length capa) a) => allNodes_any _ a h64a (good_of ha hokA) W S hW
      have hn2 := fun W (hW : RdL tEnt W S' (.slice B b.length capb) b) => allNodes_any _ b h64b (good_of hb hokB) W S' hW
      rw [hT1, hT2]
      simp only [hT1] at hn1
      simp only [hT2] at hn2
      clear ha hb hT1 hT2 hokA hokB
      generalize T1.all = N1 at hn1 hl1 hf1 ⊢
      generalize T2.all = N2 at hn2 hl2 hf2 ⊢
      have HL1 := Lib.hid hl1
      have HL2 := Lib.hid hl2
      have HF1 := Lib.hid (show ∀ k (hk : k < N1.length), N1[k].ok ∧ entB N1[k].n N1[k].v = true from fun k hk => ⟨(hf1 _ (List.getElem_mem hk)).1, (hf1 _ (List.getElem_mem hk)).2.1⟩)
      have HF2 := Lib.hid (show ∀ k (hk : k < N2.length), N2[k].ok ∧ entB N2[k].n N2[k].v = true from fun k hk => ⟨(hf2 _ (List.getElem_mem hk)).1, (hf2 _ (List.getElem_mem hk)).2.1⟩)
      have HLe1 := Lib.hid (show N1.length ≤ 64 by omega)
      have HLe2 := Lib.hid (show N2.length ≤ 64 by omega)
      have hmm := @run_makeMap Try.prog
      clear hl1 hl2 hf1 hf2 h64a h64b
      go_enter Try.func33, Try.ntmps33
      go_wp2_with fail
      refine hc.mono ?_
      rintro e w1 ⟨rfl, hx⟩
      have HX1 := Lib.hid hx
      clear hx
      go_wp2_with fail
      refine (hc2 _ HX1.out).mono ?_
      rintro e w2 ⟨rfl, hx⟩
      have HX2 := Lib.hid (HX1.out.trans hx)
      clear hx hc hc2
      go_wp2_with fail
      have HM2 := Lib.hid (OwnSet.made w2)
      have HX2b := Lib.hid (HX2.out.alloc (.map #[] 0))
      refine (hn1 _ (H.out.ext (by decide) HX2b.out)).mono ?_
      rintro e w3 ⟨v3, rfl, ho, hx⟩
      have HX3 := Lib.hid (HX2b.out.trans hx)
      have HO3 := Lib.hid ho
      have HM3 := Lib.hid (HM2.out.ext hx)
      obtain ⟨A3, n3, c3, rfl⟩ := ho.shape3
      clear hx ho hn1 hmm HM2
      have HRA := Lib.hid (show ∀ W, w3.grownBy W (some w2.heap.size) → RdL tNd W _ (.slice A3 n3 c3) N1 from fun W hW => HO3.out.rd.grownG (by decide) hW (fun k hk e => by have := hk.1; simp at this; omega))
      obtain rfl : n3 = N1.length := by obtain ⟨_, _, e, _⟩ := HO3.out.rd; injection e
      clear HO3 H
      go_wp2
      go_loopw [24] (fun i wr => ∃ k : Nat, k ≤ N1.length ∧ i = .int .i64 k ∧ OwnSet wr w2.heap.size (kNs (N1.take k)) ∧ w3.grownBy wr (some w2.heap.size)) (fun i _ => N1.length - (intOf i).toNat)
      case atStart => exact ⟨0, by omega, rfl, by rw [List.take_zero, kNs_zero]; exact HM3.out, grown_refl _ _⟩
      case round =>
        obtain ⟨k, hk, rfl, hm, hg0⟩ := hrel
        have HM := Lib.hid hm
        have HG := Lib.hid hg0
        clear hm hg0
        by_cases hlt : k < N1.length
        · obtain ⟨A', c', e9, h9, h10, h11, h12⟩ := HRA.out wr HG.out
          injection e9 with e91 e92 e93
          subst e91 e93
          obtain ⟨g, o, rfl, hs0, hcell⟩ := h11.elem h12 k hlt
          have hfk := HF1.out k hlt
          have ht1 := List.take_succ_eq_append_getElem hlt
          have hkl : (kNs (N1.take k)).length = k := by rw [kNs_len, List.length_take]; omega
          clear h9 h10 h11 h12 hs0
          generalize N1[k] = x at hcell hfk ht1
          have HD := Lib.hid hcell
          have HXO := Lib.hid hfk.1
          have hky := kN_ok x
          have hct := fun W => nodeKey_any x hfk.1 hfk.2 W
          rw [show hashL 5 (nodeL x) = kN x by rw [kN]] at hct
          have hst := Nd.st hfk.1
          have HST := Lib.hid hst
          have hsz := hst.size
          have hi : (0 : Int) ≤ (k : Int) := by omega
          have hi2 : (k : Int) < (N1.length : Int) := by omega
          have HT1 := Lib.hid ht1
          have HKL := Lib.hid hkl
          have HKY := Lib.hid hky
          have hle := HLe1.out
          clear hcell hfk ht1 hkl hky hst
          go_wp2_with (first
            | (refine wpl_load ⟨g, o + k * 66, none⟩ x.enc (by rw [Nd.enc_length HXO.out]; exact aggNodeI) rfl _ rfl rfl (fun j u hu => by rw [Addr.add_lit]; exact HD.out j u hu) ?_)
            | (refine wpl_storeNewB aggNodeI HST.out rfl rfl _ _ rfl rfl rfl rfl ?_)
            | (refine wpl_loadB (Blk.new wr _ _) aggNodeI hsz rfl _ rfl rfl ?_))
          refine (hct _).mono ?_
          rintro e w5 ⟨rfl, hx⟩
          have HG5 := Lib.hid (grown_ext (grown_trans HG.out (World.grownBy_alloc wr _ (some w2.heap.size))) hx)
          have HM5 := Lib.hid ((HM.out.alloc _).ext hx)
          clear hx hct HM HG
          go_wp2_with (at_mapUpdate; refine wpl_setPut rfl rfl _ _ _ _ rfl (by kernel_rfl) w2.heap.size _ rfl HM5.out (by rw [HKL.out]; omega) (kN x) HKY.out rfl rfl ?_; intro w9 hm1 hg1; have HM9 := Lib.hid hm1; have HG9 := Lib.hid (grown_trans HG5.out hg1); clear hm1 hg1)
          go_roundw
          case rel => exact ⟨k + 1, by omega, by go_num, by rw [HT1.out, kNs_snoc]; exact HM9.out, HG9.out⟩
          case measure => simp [intOf]; omega
        · obtain rfl : k = N1.length := by omega
          have hto := List.take_length (l := N1)
          rw [hto] at HM
          have HXW := Lib.hid (HX3.out.grown HG.out (fun k hk => by cases hk; exact HX2.out.size))
          clear hto
          go_wp2_with fail
          refine (hn2 _ (H'.out.ext (by decide) HXW.out)).mono ?_
          rintro e w4 ⟨v4, rfl, ho, hx⟩
          have HX4 := Lib.hid (HXW.out.trans hx)
          have HM4 := Lib.hid (HM.out.ext hx)
          have HRB := Lib.hid (show ∀ W, Ext w4 W → RdL tNd W _ v4 N2 from fun W hW => ho.rd.ext (by decide) hW)
          obtain ⟨A4, n4, c4, rfl⟩ := ho.shape3
          obtain rfl : n4 = N2.length := by obtain ⟨_, _, e, _⟩ := ho.rd; injection e
          clear hx ho hn2 H'
          go_wp2
          go_loopw [7, 35] (fun c i wq => ∃ k : Nat, k ≤ N2.length ∧ i = .int .i64 k ∧ c = .int .i64 (cntK (kNs N1) (N2.take k) : Nat) ∧ Ext w4 wq) (fun _ i _ => N2.length - (intOf i).toNat)
          case atStart => exact ⟨0, by omega, rfl, by rw [List.take_zero, cntK_zero]; rfl, Ext.refl _⟩
          case round =>
            obtain ⟨j, hj, rfl, rfl, hx⟩ := hrel
            have HQ := Lib.hid hx
            clear hx
            by_cases hltj : j < N2.length
            · obtain ⟨A', c', e9, h9, h10, h11, h12⟩ := HRB.out wr HQ.out
              injection e9 with e91 e92 e93
              subst e91 e93
              obtain ⟨g, o, rfl, hs0, hcell⟩ := h11.elem h12 j hltj
              have hfk := HF2.out j hltj
              have ht1 := List.take_succ_eq_append_getElem hltj
              have hsn := cntK_snoc (kNs N1) (N2.take j) N2[j]
              have hbd : cntK (kNs N1) (N2.take j) ≤ 64 := Nat.le_trans (cntK_le _ _) (by rw [List.length_take]; have := HLe2.out; omega)
              clear h9 h10 h11 h12 hs0
              generalize N2[j] = x at hcell hfk ht1 hsn
              have HD := Lib.hid hcell
              have HXO := Lib.hid hfk.1
              have hky := kN_ok x
              have hct := fun W => nodeKey_any x hfk.1 hfk.2 W
              rw [show hashL 5 (nodeL x) = kN x by rw [kN]] at hct
              have hst := Nd.st hfk.1
              have HST := Lib.hid hst
              have hsz := hst.size
              have hi : (0 : Int) ≤ (j : Int) := by omega
              have hi2 : (j : Int) < (N2.length : Int) := by omega
              rw [← ht1] at hsn
              generalize cntK (kNs N1) (N2.take j) = cn9 at hsn hbd ⊢
              have HKY := Lib.hid hky
              have hle := HLe2.out
              clear hcell hfk ht1 hky hst
              obtain ⟨bb, hbb⟩ : ∃ bb, (kNs N1).contains (kN x) = bb := ⟨_, rfl⟩
              have HBB := Lib.hid hbb
              rw [hbb] at hsn
              have HSN := Lib.hid hsn
              clear hbb hsn
              go_wp2_with (first
                | (refine wpl_load ⟨g, o + j * 66, none⟩ x.enc (by rw [Nd.enc_length HXO.out]; exact aggNodeI) rfl _ rfl rfl (fun j u hu => by rw [Addr.add_lit]; exact HD.out j u hu) ?_)
                | (refine wpl_storeNewB aggNodeI HST.out rfl rfl _ _ rfl rfl rfl rfl ?_)
                | (refine wpl_loadB (Blk.new wr _ _) aggNodeI hsz rfl _ rfl rfl ?_))
              refine (hct _).mono ?_
              rintro e w5 ⟨rfl, hx⟩
              have HX5 := Lib.hid ((HQ.out.alloc _).trans hx)
              have HM5 := Lib.hid (HM4.out.ext HX5.out)
              clear hx hct
              cases bb with
              | true =>
                go_wp2_with (at_lookup; refine wpl_setHas rfl rfl _ _ _ rfl (by kernel_rfl) w2.heap.size _ rfl HM5.out (kN x) HKY.out rfl ?_; rw [HBB.out])
                go_roundw
                case rel => exact ⟨j + 1, by omega, by go_num, by rw [HSN.out, if_pos (by trivial)]; go_num, HX5.out⟩
                case measure => simp [intOf]; omega
              | false =>
                go_wp2_with (at_lookup; refine wpl_setHas rfl rfl _ _ _ rfl (by kernel_rfl) w2.heap.size _ rfl HM5.out (kN x) HKY.out rfl ?_; rw [HBB.out])
                go_roundw
                case rel => exact ⟨j + 1, by omega, by go_num, by rw [HSN.out, if_neg (by simp)], HX5.out⟩
                case measure => simp [intOf]; omega
            · obtain rfl : j = N2.length := by omega
              rw [List.take_length]
              go_wp2
              go_ret2
              exact ⟨rfl, HX4.out.trans HQ.out⟩
end Go.Proofs.Ytmndkbheehcoaaa
/- An entry as an argument of a law. No condition. -/
namespace Go.Proofs.Ytmndkbheehcoaaa
open Go.RowKit
set_option linter.unusedVariables false
set_option linter.unusedSimpArgs false

theorem szEntry_u (x : En) (hx : tEnt.ok x) (l : Int) (w : World) (h0 : -1 ≤ l) (h1 : l ≤ 1048576) :
    Calls Try.prog 74 #[.agg #[.string x.1, .string x.2], .int .i64 l] w fun e w' => e = .returned (.int .i64 (if l - (x.1.size + x.2.size : Nat) < 0 then -1 else l - (x.1.size + x.2.size : Nat))) ∧ Ext w w' := by
  have := szEntry_any x.1 x.2 hx.1 hx.2 l h0 h1 w
  rw [show l - (x.1.size + x.2.size : Nat) = l - x.1.size - x.2.size by omega]
  exact this
end Go.Proofs.Ytmndkbheehcoaaa
/- The walk of the law FnExactSharedNodes. No condition. -/
namespace Go.Proofs.Ytmndkbheehcoaaa
open Go.RowKit
set_option linter.unusedVariables false
set_option linter.unusedSimpArgs false

set_option maxHeartbeats 1000000 in
set_option maxRecDepth 100000 in
theorem FnExactSharedNodes_any (w : World) (v0 : Value) (x0 : List En) (S0 : Nat → Prop) (h0 : RdL tEnt w S0 v0 x0) (v1 : Value) (x1 : List En) (S1 : Nat → Prop) (h1 : RdL tEnt w S1 v1 x1) :
    Calls Try.prog 6 #[v0, v1] w fun e w' => e = .returned (.bool true) ∧ Ext w w' := by
  obtain ⟨A0, cap0, rfl, _, hlen0, _⟩ := id h0
  have H0 := Lib.hid h0
  clear h0
  obtain ⟨A1, cap1, rfl, _, hlen1, _⟩ := id h1
  have H1 := Lib.hid h1
  clear h1
  by_cases hz0 : (1048576 - (entsN x0 : Nat) : Int) < 0
  · go_enter Try.func6, Try.ntmps6
    go_wp2_with fail
    refine (szEntryS_u _ x0 (1048576) _ _ (H0.out.ext (by decide) (Ext.refl _)) (by omega) (by omega)).mono ?_
    rintro e w1 ⟨rfl, hx⟩
    rw [if_pos (by omega)]
    have XW := Lib.hid hx
    clear hx
    go_wp2_with fail
    go_ret
    exact ⟨rfl, XW.out⟩
  by_cases hz1 : (1048576 - (entsN x0 : Nat) - (entsN x1 : Nat) : Int) < 0
  · go_enter Try.func6, Try.ntmps6
    go_wp2_with fail
    refine (szEntryS_u _ x0 (1048576) _ _ (H0.out.ext (by decide) (Ext.refl _)) (by omega) (by omega)).mono ?_
    rintro e w1 ⟨rfl, hx⟩
    rw [if_neg (by omega)]
    have XW := Lib.hid hx
    clear hx
    go_wp2_with fail
    refine (szEntryS_u _ x1 (1048576 - (entsN x0 : Nat)) _ _ (H1.out.ext (by decide) XW.out) (by omega) (by omega)).mono ?_
    rintro e w2 ⟨rfl, hx⟩
    rw [if_pos (by omega)]
    replace XW := Lib.hid (XW.out.trans hx)
    clear hx
    go_wp2_with fail
    go_ret
    exact ⟨rfl, XW.out⟩
  have hln0 : x0.length ≤ 1048576 := by have := entsN_eq x0; omega
  have hln1 : x1.length ≤ 1048576 := by have := entsN_eq x1; omega
  obtain ⟨R, c, hR⟩ : ∃ R c, sharR x0 x1 = (R, c) := ⟨_, _, rfl⟩
  have HR := Lib.hid hR
  clear hR
  have hq : (c != c) = false := by simp
  have hq2 : (R != R) = false := by simp
  go_enter Try.func6, Try.ntmps6
  go_wp2_with fail
  refine (szEntryS_u _ x0 (1048576) _ _ (H0.out.ext (by decide) (Ext.refl _)) (by omega) (by omega)).mono ?_
  rintro e w1 ⟨rfl, hx⟩
  rw [if_neg (by omega)]
  have XW := Lib.hid hx
  clear hx
  go_wp2_with fail
  refine (szEntryS_u _ x1 (1048576 - (entsN x0 : Nat)) _ _ (H1.out.ext (by decide) XW.out) (by omega) (by omega)).mono ?_
  rintro e w2 ⟨rfl, hx⟩
  rw [if_neg (by omega)]
  replace XW := Lib.hid (XW.out.trans hx)
  clear hx
  go_wp2_with fail
  refine (toEntryS_u _ x0 _ _ (H0.out.ext (by decide) XW.out) hln0).mono ?_
  rintro e w3 ⟨vs0, rfl, ho, hx⟩
  replace XW := Lib.hid (XW.out.trans hx)
  obtain ⟨As0, cs0, rfl⟩ := ho.shape
  have Os0 := Lib.hid ho.rd
  clear ho
  clear hx
  go_wp2_with fail
  refine (toEntryS_u _ x1 _ _ (H1.out.ext (by decide) XW.out) hln1).mono ?_
  rintro e w4 ⟨vs1, rfl, ho, hx⟩
  replace Os0 := Lib.hid (Os0.out.ext (by decide) hx)
  replace XW := Lib.hid (XW.out.trans hx)
  obtain ⟨As1, cs1, rfl⟩ := ho.shape
  have Os1 := Lib.hid ho.rd
  clear ho
  clear hx
  go_wp2_with fail
  refine (specShared_any _ _ x0 x1 _ _ _ Os0.out Os1.out).mono ?_
  rintro e w5 ⟨he, hx⟩
  rw [HR.out] at he
  subst he
  replace Os0 := Lib.hid (Os0.out.ext (by decide) hx)
  replace Os1 := Lib.hid (Os1.out.ext (by decide) hx)
  replace XW := Lib.hid (XW.out.trans hx)
  clear hx
  clear Os0
  clear Os1
  go_wp2_with fail
  refine (toEntryS_u _ x0 _ _ (H0.out.ext (by decide) XW.out) hln0).mono ?_
  rintro e w6 ⟨vx0, rfl, ho, hx⟩
  replace XW := Lib.hid (XW.out.trans hx)
  obtain ⟨Ax0, cx0, rfl⟩ := ho.shape
  have Ox0 := Lib.hid ho.rd
  clear ho
  clear hx
  go_wp2_with fail
  refine (toEntryS_u _ x1 _ _ (H1.out.ext (by decide) XW.out) hln1).mono ?_
  rintro e w7 ⟨vx1, rfl, ho, hx⟩
  replace Ox0 := Lib.hid (Ox0.out.ext (by decide) hx)
  replace XW := Lib.hid (XW.out.trans hx)
  obtain ⟨Ax1, cx1, rfl⟩ := ho.shape
  have Ox1 := Lib.hid ho.rd
  clear ho
  clear hx
  go_wp2_with fail
  refine (implShared_any _ _ x0 x1 _ _ _ Ox0.out Ox1.out).mono ?_
  rintro e w8 ⟨he, hx⟩
  rw [HR.out] at he
  subst he
  replace Ox0 := Lib.hid (Ox0.out.ext (by decide) hx)
  replace Ox1 := Lib.hid (Ox1.out.ext (by decide) hx)
  replace XW := Lib.hid (XW.out.trans hx)
  clear hx
  go_wp2_with fail
  refine (toEntryS_u _ x0 _ _ (H0.out.ext (by decide) XW.out) hln0).mono ?_
  rintro e w9 ⟨vy0, rfl, ho, hx⟩
  replace Ox0 := Lib.hid (Ox0.out.ext (by decide) hx)
  replace Ox1 := Lib.hid (Ox1.out.ext (by decide) hx)
  replace XW := Lib.hid (XW.out.trans hx)
  obtain ⟨Ay0, cy0, rfl⟩ := ho.shape
  have Oy0 := Lib.hid ho.rd
  clear ho
  clear hx
  go_wp2_with fail
  refine (eqEntryS_u _ _ x0 _ _ _ Ox0.out Oy0.out).mono ?_
  rintro e w10 ⟨rfl, hx⟩
  replace Ox0 := Lib.hid (Ox0.out.ext (by decide) hx)
  replace Ox1 := Lib.hid (Ox1.out.ext (by decide) hx)
  replace Oy0 := Lib.hid (Oy0.out.ext (by decide) hx)
  replace XW := Lib.hid (XW.out.trans hx)
  clear hx
  clear Oy0
  go_wp2_with fail
  refine (toEntryS_u _ x1 _ _ (H1.out.ext (by decide) XW.out) hln1).mono ?_
  rintro e w11 ⟨vy1, rfl, ho, hx⟩
  replace Ox0 := Lib.hid (Ox0.out.ext (by decide) hx)
  replace Ox1 := Lib.hid (Ox1.out.ext (by decide) hx)
  replace XW := Lib.hid (XW.out.trans hx)
  obtain ⟨Ay1, cy1, rfl⟩ := ho.shape
  have Oy1 := Lib.hid ho.rd
  clear ho
  clear hx
  go_wp2_with fail
  refine (eqEntryS_u _ _ x1 _ _ _ Ox1.out Oy1.out).mono ?_
  rintro e w12 ⟨rfl, hx⟩
  replace Ox0 := Lib.hid (Ox0.out.ext (by decide) hx)
  replace Ox1 := Lib.hid (Ox1.out.ext (by decide) hx)
  replace Oy1 := Lib.hid (Oy1.out.ext (by decide) hx)
  replace XW := Lib.hid (XW.out.trans hx)
  clear hx
  clear Oy1
  go_wp2_with fail
  go_ret
  exact ⟨rfl, XW.out⟩
end Go.Proofs.Ytmndkbheehcoaaa
/- A list of entries as an argument. No condition. -/
namespace Go.Proofs.Ytmndkbheehcoaaa
open Go.RowKit
theorem c_ent : ∀ {w : World} {S : Nat → Prop} (es : List Value) (x : ByteArray × ByteArray), cPair cStr cStr w S es x → es = tEnt.enc x ∧ tEnt.ok x := by
  rintro w S es x ⟨c1, c2, rfl, ⟨rfl, h1⟩, rfl, h2⟩
  exact ⟨rfl, h1, h2⟩
end Go.Proofs.Ytmndkbheehcoaaa
