/- What the walk of the law FnChanges needs, part 5 of 7. No condition. -/
import Derived.Laws.BytesArg
import Derived.Test.YtmndkbheehcoaaaPFnChanges4
/- The tree of a map, plainly. No condition. -/
namespace Go.Proofs.Ytmndkbheehcoaaa
open Go.RowKit
set_option linter.unusedVariables false
set_option linter.unusedSimpArgs false

inductive Tr where
  | leaf : Tr
  | node : Nd → Tr → Tr → Tr
def Tr.key : Tr → List Int
  | .leaf => emptyL
  | .node x _ _ => hashL 5 (nodeL x)
def Tr.all : Tr → List Nd
  | .leaf => []
  | .node x l r => x :: (l.all ++ r.all)
def Tr.ok : Tr → Prop
  | .leaf => True
  | .node x l r => x.ok ∧ entB x.n x.v = true ∧ x.l = l.key ∧ x.r = r.key ∧ l.ok ∧ r.ok
theorem Tr.key_ok (T : Tr) : K32 T.key := by
  cases T with
  | leaf => exact emptyL_ok
  | node x l r => exact hashL_ok _ _
theorem Tr.all_ok (T : Tr) (h : T.ok) : ∀ x ∈ T.all, x.ok ∧ entB x.n x.v = true := by
  induction T with
  | leaf => intro x hx; simp [Tr.all] at hx
  | node y l r il ir =>
    obtain ⟨h1, h2, _, _, h5, h6⟩ := h
    intro x hx
    simp only [Tr.all, List.mem_cons, List.mem_append] at hx
    rcases hx with rfl | hx | hx
    · exact ⟨h1, h2⟩
    · exact il h5 x hx
    · exact ir h6 x hx
/-- the place of the greatest of the first k priorities -/
def gK (ps : List (List Int)) (k : Nat) : List Int := ps.getD k []
theorem gK_lt {ps : List (List Int)} {k : Nat} (h : k < ps.length) : gK ps k = ps[k] := by simp [gK, List.getD_eq_getElem?_getD, h]
def topS (ps : List (List Int)) (k t : Nat) : Nat := if 0 < cmpL (gK ps k) (gK ps t) then k else t
def topI (ps : List (List Int)) : Nat → Nat
  | 0 => 0
  | k + 1 => topS ps k (topI ps k)
theorem topI_zero (ps : List (List Int)) : topI ps 0 = 0 := rfl
theorem topI_succ (ps : List (List Int)) (k : Nat) : topI ps (k + 1) = if 0 < cmpL (gK ps k) (gK ps (topI ps k)) then k else topI ps k := rfl
attribute [irreducible] topI
theorem topI_one (ps : List (List Int)) : topI ps 1 = 0 := by rw [topI_succ, topI_zero, cmpL_self]; simp
theorem topI_lt (ps : List (List Int)) (k : Nat) (h : 0 < k) : topI ps k < k := by
  induction k with
  | zero => omega
  | succ k ih =>
    rw [topI_succ]
    split
    · omega
    · rcases Nat.eq_zero_or_pos k with rfl | hk
      · rw [topI_zero]; omega
      · have := ih hk; omega
def prios (L : List En) : List (List Int) := L.map fun e => prioL e.1
theorem prios_length (L : List En) : (prios L).length = L.length := by simp [prios]
theorem prios_at (L : List En) (k : Nat) (h : k < L.length) : gK (prios L) k = prioL L[k].1 := by rw [gK_lt (by rw [prios_length]; exact h)]; simp [prios]
theorem prios_ok (L : List En) : ∀ p ∈ prios L, K32 p := by
  intro p hp
  simp only [prios, List.mem_map] at hp
  obtain ⟨e, _, rfl⟩ := hp
  exact prioL_ok _
theorem prios_take (L : List En) (k : Nat) : prios (L.take k) = (prios L).take k := by simp [prios]
theorem prios_drop (L : List En) (k : Nat) : prios (L.drop k) = (prios L).drop k := by simp [prios]
def topE (L : List En) : Nat := topI (prios L) L.length
theorem topE_lt {L : List En} (h : 0 < L.length) : topE L < L.length := topI_lt _ _ h
/-- the tree -/
def trS (L : List En) (l r : Tr) : Tr := if L.length = 0 then .leaf else .node ⟨l.key, r.key, (gE L (topE L)).1, (gE L (topE L)).2⟩ l r
def trF : Nat → List En → Tr
  | 0, _ => .leaf
  | f + 1, L => trS L (trF f (L.take (topE L))) (trF f (L.drop (topE L + 1)))
theorem trF_zero (L : List En) : trF 0 L = .leaf := rfl
theorem trF_succ (f : Nat) (L : List En) : trF (f + 1) L = trS L (trF f (L.take (topE L))) (trF f (L.drop (topE L + 1))) := rfl
attribute [irreducible] trF
theorem trF_nil (f : Nat) (L : List En) (h : L.length = 0) : trF f L = .leaf := by
  cases f with
  | zero => rw [trF_zero]
  | succ f => rw [trF_succ, trS, if_pos h]
theorem trF_cons (f : Nat) (L : List En) (h : ¬ L.length = 0) : trF (f + 1) L = .node ⟨(trF f (L.take (topE L))).key, (trF f (L.drop (topE L + 1))).key, (gE L (topE L)).1, (gE L (topE L)).2⟩ (trF f (L.take (topE L))) (trF f (L.drop (topE L + 1))) := by rw [trF_succ, trS, if_neg h]
/-- entries that a map may hold -/
def good (L : List En) : Prop := ∀ e ∈ L, tEnt.ok e ∧ entB e.1 e.2 = true
theorem good_of {L : List En} (h : okE L = true) (hok : ∀ e ∈ L, tEnt.ok e) : good L := by
  intro e he
  refine ⟨hok e he, ?_⟩
  rw [okE_eq, Bool.and_eq_true, incs, List.all_eq_true] at h
  obtain ⟨i, hi, rfl⟩ := List.getElem_of_mem he
  have := h.1 i (List.mem_range.2 hi)
  simp only [incC, Bool.and_eq_true] at this
  rw [gE_lt hi] at this
  exact this.1
theorem good.take {L : List En} (h : good L) (k : Nat) : good (L.take k) := fun e he => h e (List.mem_of_mem_take he)
theorem good.drop {L : List En} (h : good L) (k : Nat) : good (L.drop k) := fun e he => h e (List.mem_of_mem_drop he)
theorem good.at_ {L : List En} (h : good L) {k : Nat} (hk : k < L.length) : tEnt.ok (gE L k) ∧ entB (gE L k).1 (gE L k).2 = true := by rw [gE_lt hk]; exact h _ (List.getElem_mem hk)
theorem trF_ok (f : Nat) (L : List En) (h : good L) : (trF f L).ok := by
  induction f generalizing L with
  | zero => rw [trF_zero]; trivial
  | succ f ih =>
    by_cases h0 : L.length = 0
    · rw [trF_nil _ _ h0]; trivial
    · rw [trF_cons _ _ h0]
      have hg := h.at_ (topE_lt (L := L) (by omega))
      exact ⟨⟨Tr.key_ok _, Tr.key_ok _, hg.1.1, hg.1.2⟩, hg.2, rfl, rfl, ih _ (h.take _), ih _ (h.drop _)⟩
theorem trF_len (f : Nat) (L : List En) : (trF f L).all.length ≤ L.length := by
  induction f generalizing L with
  | zero => rw [trF_zero]; simp [Tr.all]
  | succ f ih =>
    by_cases h0 : L.length = 0
    · rw [trF_nil _ _ h0]; simp [Tr.all]
    · rw [trF_cons _ _ h0]
      have h1 := ih (L.take (topE L))
      have h2 := ih (L.drop (topE L + 1))
      have h3 := topE_lt (L := L) (by omega)
      simp only [Tr.all, List.length_cons, List.length_append]
      rw [List.length_take] at h1
      rw [List.length_drop] at h2
      omega
def tNd : Ty Nd := ⟨66, Nd.enc, Nd.ok, fun _ h => Nd.enc_length h, fun x => Nd.enc_one x⟩
theorem Rd.cutL {α : Type} {T : Ty α} {w : World} {S : Nat → Prop} {A : Option Addr} {xs : List α} (h : Rd w S T.sz A xs.length (xs.flatMap T.enc)) (hok : ∀ x ∈ xs, T.ok x) {k cap : Nat} (hk : k ≤ xs.length) (hc : xs.length ≤ cap) :
    Rd w S T.sz (if cap = k then A else A.map (·.add (k * T.sz))) (xs.drop k).length ((xs.drop k).flatMap T.enc) := by
  have h1 := h.cut hk hc
  have e : (xs.flatMap T.enc).drop (k * T.sz) = (xs.drop k).flatMap T.enc := by
    conv => lhs; rw [← List.take_append_drop k xs, List.flatMap_append]
    rw [List.drop_append_of_le_length (by rw [flat_length T _ (fun x hx => hok x (List.mem_of_mem_take hx)), List.length_take, Nat.min_eq_left hk]; exact Nat.le_refl _), List.drop_eq_nil_of_le (by rw [flat_length T _ (fun x hx => hok x (List.mem_of_mem_take hx)), List.length_take, Nat.min_eq_left hk]; exact Nat.le_refl _), List.nil_append]
  rw [e, ← List.length_drop] at h1
  exact h1
theorem Rd.headL {α : Type} {T : Ty α} {w : World} {S : Nat → Prop} {A : Option Addr} {xs : List α} (h : Rd w S T.sz A xs.length (xs.flatMap T.enc)) (hok : ∀ x ∈ xs, T.ok x) {k : Nat} (hk : k ≤ xs.length) :
    Rd w S T.sz A (xs.take k).length ((xs.take k).flatMap T.enc) := by
  have h1 := h.head hk
  have e : (xs.flatMap T.enc).take (k * T.sz) = (xs.take k).flatMap T.enc := by
    conv => lhs; rw [← List.take_append_drop k xs, List.flatMap_append]
    rw [List.take_append_of_le_length (by rw [flat_length T _ (fun x hx => hok x (List.mem_of_mem_take hx)), List.length_take, Nat.min_eq_left hk]; exact Nat.le_refl _), List.take_of_length_le (by rw [flat_length T _ (fun x hx => hok x (List.mem_of_mem_take hx)), List.length_take, Nat.min_eq_left hk]; exact Nat.le_refl _)]
  have hl : (xs.take k).length = k := by rw [List.length_take]; omega
  rw [e] at h1
  rw [hl]
  exact h1
/-- the first k of a list that is read -/
theorem RdL.head {α : Type} {T : Ty α} {w : World} {S : Nat → Prop} {A : Option Addr} {xs : List α} {cap : Nat} (h : RdL T w S (.slice A xs.length cap) xs) {k : Nat} (hk : k ≤ xs.length) : RdL T w S (.slice A k cap) (xs.take k) := by
  obtain ⟨A', cap', e, h1, h2, h3, h4⟩ := h
  injection e with e1 _ e3
  subst e1 e3
  have hl : (xs.take k).length = k := by rw [List.length_take]; omega
  exact ⟨A, cap, by rw [hl], by omega, by omega, h3.headL h4 hk, fun x hx => h4 x (List.mem_of_mem_take hx)⟩
theorem RdL.cut {α : Type} {T : Ty α} {w : World} {S : Nat → Prop} {A : Option Addr} {xs : List α} {cap : Nat} (h : RdL T w S (.slice A xs.length cap) xs) {k : Nat} (hk : k ≤ xs.length) :
    RdL T w S (.slice (if cap = k then A else A.map (·.add (k * T.sz))) (xs.length - k) (cap - k)) (xs.drop k) := by
  obtain ⟨A', cap', e, h1, h2, h3, h4⟩ := h
  injection e with e1 _ e3
  subst e1 e3
  exact ⟨_, cap - k, by rw [List.length_drop], by rw [List.length_drop]; omega, by rw [List.length_drop]; omega, h3.cutL h4 hk h1, fun x hx => h4 x (List.mem_of_mem_drop hx)⟩
end Go.Proofs.Ytmndkbheehcoaaa
/- The changes that make one map of another one, plainly. No condition. -/
namespace Go.Proofs.Ytmndkbheehcoaaa
open Go.RowKit
set_option linter.unusedVariables false
set_option linter.unusedSimpArgs false

/-- the changes between two lists of entries, so many steps at most -/
def chgN : Nat → List En → List En → List Chg
  | 0, _, _ => []
  | _ + 1, [], [] => []
  | f + 1, x :: a, [] => ⟨x.1, true, x.2, false, ⟨#[]⟩⟩ :: chgN f a []
  | f + 1, [], y :: b => ⟨y.1, false, ⟨#[]⟩, true, y.2⟩ :: chgN f [] b
  | f + 1, x :: a, y :: b => if ltB x.1 y.1 then ⟨x.1, true, x.2, false, ⟨#[]⟩⟩ :: chgN f a (y :: b) else if ltB y.1 x.1 then ⟨y.1, false, ⟨#[]⟩, true, y.2⟩ :: chgN f (x :: a) b else if x.2 = y.2 then chgN f a b else ⟨x.1, true, x.2, true, y.2⟩ :: chgN f a b
theorem chgN_enough (f : Nat) : ∀ (a b : List En), a.length + b.length ≤ f → ∀ e, chgN (f + e) a b = chgN f a b := by
  induction f with
  | zero =>
    intro a b h e
    obtain rfl : a = [] := List.eq_nil_of_length_eq_zero (by omega)
    obtain rfl : b = [] := List.eq_nil_of_length_eq_zero (by simp at h; simpa using h)
    cases e with
    | zero => rfl
    | succ e => rw [Nat.zero_add]; rfl
  | succ f ih =>
    intro a b h e
    rw [show f + 1 + e = (f + e) + 1 by omega]
    match a, b, h with
    | [], [], h => rfl
    | x :: a, [], h => rw [chgN, chgN, ih a [] (by simp at h ⊢; omega)]
    | [], y :: b, h => rw [chgN, chgN, ih [] b (by simp at h ⊢; omega)]
    | x :: a, y :: b, h =>
      simp only [List.length_cons] at h
      rw [chgN, chgN, ih a (y :: b) (by simp only [List.length_cons]; omega), ih (x :: a) b (by simp only [List.length_cons]; omega), ih a b (by omega)]
/-- the changes from places on -/
@[irreducible] def chgI (a b : List En) (i k : Nat) : List Chg := chgN (a.length + b.length) (a.drop i) (b.drop k)
theorem chgI_eq (a b : List En) (i k : Nat) : chgI a b i k = chgN (a.length + b.length) (a.drop i) (b.drop k) := by rw [chgI]
theorem chgI_step (a b : List En) (i k : Nat) (h : 0 < a.length + b.length) : chgI a b i k = chgN ((a.length + b.length - 1) + 1) (a.drop i) (b.drop k) := by rw [chgI_eq, Nat.sub_add_cancel h]
theorem chgI_less (a b : List En) (i k : Nat) (h : 0 < i + k) (hi : i ≤ a.length) (hk : k ≤ b.length) : chgN (a.length + b.length - 1) (a.drop i) (b.drop k) = chgI a b i k := by
  rw [chgI_eq]
  have := chgN_enough (a.length + b.length - 1) (a.drop i) (b.drop k) (by simp only [List.length_drop]; omega) 1
  rw [Nat.sub_add_cancel (by omega)] at this
  exact this.symm
theorem chgI_end (a b : List En) : chgI a b a.length b.length = [] := by
  rw [chgI_eq, List.drop_length, List.drop_length]
  cases a.length + b.length <;> rfl
theorem chgI_del {a b : List En} {i k : Nat} (hi : i < a.length) (hk : k ≤ b.length) (h : ∀ hk : k < b.length, ltB a[i].1 b[k].1 = true) : chgI a b i k = ⟨a[i].1, true, a[i].2, false, ⟨#[]⟩⟩ :: chgI a b (i + 1) k := by
  rw [chgI_step _ _ _ _ (by omega), ← chgI_less a b (i + 1) k (by omega) (by omega) hk, List.drop_eq_getElem_cons hi]
  by_cases hlt : k < b.length
  · rw [List.drop_eq_getElem_cons hlt, chgN, if_pos (h hlt)]
  · rw [List.drop_eq_nil_of_le (by omega : b.length ≤ k), chgN]
theorem chgI_add {a b : List En} {i k : Nat} (hi : i ≤ a.length) (hk : k < b.length) (h : ∀ hi : i < a.length, ltB b[k].1 a[i].1 = true) : chgI a b i k = ⟨b[k].1, false, ⟨#[]⟩, true, b[k].2⟩ :: chgI a b i (k + 1) := by
  rw [chgI_step _ _ _ _ (by omega), ← chgI_less a b i (k + 1) (by omega) hi (by omega), List.drop_eq_getElem_cons hk]
  by_cases hlt : i < a.length
  · rw [List.drop_eq_getElem_cons hlt, chgN, if_neg (by rw [ltB_asymm (h hlt)]; decide), if_pos (h hlt)]
  · rw [List.drop_eq_nil_of_le (by omega : a.length ≤ i), chgN]
theorem chgI_both {a b : List En} {i k : Nat} (hi : i < a.length) (hk : k < b.length) (h1 : ltB a[i].1 b[k].1 = false) (h2 : ltB b[k].1 a[i].1 = false) : chgI a b i k = if a[i].2 = b[k].2 then chgI a b (i + 1) (k + 1) else ⟨a[i].1, true, a[i].2, true, b[k].2⟩ :: chgI a b (i + 1) (k + 1) := by
  rw [chgI_step _ _ _ _ (by omega), ← chgI_less a b (i + 1) (k + 1) (by omega) (by omega) (by omega), List.drop_eq_getElem_cons hi, List.drop_eq_getElem_cons hk, chgN, if_neg (by rw [h1]; decide), if_neg (by rw [h2]; decide)]
/-- the changes, and the code -/
def chgsR (a b : List En) : List Chg × Int := if okE a && okE b then (chgI a b 0 0, 0) else ([], 1)
theorem wp_world {P : Program} {c : Code} {Q : Exit → Act → World → Prop} {a : Act} {w0 w : World} (hd : Drawn w0 w) (h : ∀ w1, Drawn w0 w1 → Code.wp P c Q a w1) : Code.wp P c Q a w := h w hd
theorem rowChg : Row Try.prog tChg 48 90 64 := Row.mk' Try.underlying48 (.agg #[.string ⟨#[]⟩, .bool false, .string ⟨#[]⟩, .bool false, .string ⟨#[]⟩]) (by kernel_rfl) rfl (by decide) (by decide)
end Go.Proofs.Ytmndkbheehcoaaa
/- Steps of regions that make and fill variables; structs built of parts. No condition. -/
namespace Go.Proofs.Ytmndkbheehcoaaa
open Go.RowKit
set_option linter.unusedVariables false
set_option linter.unusedSimpArgs false

section
variable {P : Program} {ops : Array Oper} {o : Oper} {a : Act} {w : World} {K : Act → World → Prop} {Q : Exit → Act → World → Prop} {E : Prop}
/-- a new variable: one step of a region -/
theorem stp_alloc {t : TypeId} (z : Array Value) (hz : (P.info? t).map (·.zero) = some (some (.agg z))) (hgd : o.guard = none) (ho : o.op = .alloc t)
    (h : K (a.put o.dst (.pointer (some ⟨w.heap.size, 0, none⟩))) (w.alloc (.cells z t))) : if Region.wanted o (yielded ops a.tmps) = true then Oper.wp P o a w K Q else E := by
  have hw : Region.wanted o (yielded ops a.tmps) = true := by simp [Region.wanted, hgd]
  rw [if_pos hw]
  cases hq : P.info? t with
  | none => simp [hq] at hz
  | some i =>
    have hz' : i.zero = some (.agg z) := by simpa [hq] using hz
    have hrun : (Instr.alloc t true (.tuple #[])).run P w = .ok (.pointer (some ⟨w.heap.size, 0, none⟩)) (w.alloc (.cells z t)) := by
      simp [Instr.alloc, zeroValue, typeInfo, hq, hz', newVar, newRow, Value.cells]
    unfold Oper.wp execOp
    simp only [ho, Sem.run_bind, hrun, Result.andThen_ok, Sem.run_pure]
    exact h
/-- a variable of a struct's type, made full: one step of a region -/
theorem stp_box {t : TypeId} {cs : Array Value} (hgd : o.guard = none) (x : Operand) (ho : o.op = .box t x) (hx : a.eval x = .agg cs)
    (h : K (a.put o.dst (.pointer (some ⟨w.heap.size, 0, none⟩))) (w.alloc (.cells cs t))) : if Region.wanted o (yielded ops a.tmps) = true then Oper.wp P o a w K Q else E := by
  have hw : Region.wanted o (yielded ops a.tmps) = true := by simp [Region.wanted, hgd]
  rw [if_pos hw]
  have hrun : (Instr.box t (.agg cs)).run P w = .ok (.pointer (some ⟨w.heap.size, 0, none⟩)) (w.alloc (.cells cs t)) := by
    simp [Instr.box, newVar, newRow, Value.cells]
  unfold Oper.wp execOp
  simp only [ho, hx, Sem.run_bind, hrun, Result.andThen_ok, Sem.run_pure]
  exact h
/-- a struct is stored: one step of a region -/
theorem stp_storeP {t g e n off : Nat} {cs cur : Array Value} (hb : Blk w g e cur) (ht : Agg P t n) (hs : St n cs) (hl : off + n ≤ cur.size) (hgd : o.guard = none) (x y : Operand) (ho : o.op = .store t x y)
    (hx : a.eval x = .pointer (some ⟨g, off, none⟩)) (hy : a.eval y = .agg cs) (hd : o.dst = none) (h : K a (w.setRow g (splice cur off cs.toList))) :
    if Region.wanted o (yielded ops a.tmps) = true then Oper.wp P o a w K Q else E := by
  have hw : Region.wanted o (yielded ops a.tmps) = true := by simp [Region.wanted, hgd]
  rw [if_pos hw]
  have hsz : cs.toList.length = n := by rw [Array.length_toList, hs.size]
  have hrun := run_storeCells_at P g off e cs.toList 0 cur w hb (by rw [hsz]; simpa using hl) hs.one
  simp only [Nat.add_zero] at hrun
  have ht2 := ht.2
  cases hq : P.info? t with
  | none => simp [hq] at ht2
  | some i =>
    have hs' : i.size = cs.toList.length := by rw [hsz]; simpa [hq] using ht2
    unfold Oper.wp execOp
    simp only [ho, hx, hy, Instr.storeAt, Instr.sureAddr, Sem.run_bind, Sem.run_pure, Result.andThen_ok]
    have hst : (storeVar t ⟨g, off, none⟩ (.agg cs)).run P w = .ok () (w.setRow g (splice cur off cs.toList)) := by
      simp only [storeVar, Sem.run_bind, sizeOf, typeInfo]
      simp only [Array.length_toList] at hs'
      simp [hq, hs', Value.cells, hrun, splice]
    rw [hst]
    simp only [Result.andThen_ok, Sem.run_pure]
    simpa [hd, Act.put, Oper.upon] using h
theorem yields_build {S : World → Prop} {t : TypeId} {parts : Array (Nat × Operand)} {cells : Array Value} (hw : Region.wanted o (yielded ops a.tmps) = true) (ho : o.op = .build t parts)
    (hb : P.built t (parts.toList.map fun p => (p.1, a.eval p.2)) = some cells) : YieldsIf P ops S o (.agg cells) a := Or.inl ⟨hw, fun W hW => by
  replace hb : P.built t (parts.map fun (i, x) => (i, a.eval x)).toList = some cells := by rw [Array.toList_map]; exact hb
  unfold execOp
  simp only [ho, Sem.run_bind, run_build (P := P) W t _ cells hb, Result.andThen_ok, Sem.run_pure]⟩
theorem wpl_buildN {rest : List Oper} {t : TypeId} {parts : Array (Nat × Operand)} {cells : Array Value} (hgd : o.guard = none) (ho : o.op = .build t parts)
    (hb : P.built t (parts.toList.map fun p => (p.1, a.eval p.2)) = some cells) (h : wpList P ops Q rest (a.put o.dst (.agg cells)) w) : wpList P ops Q (o :: rest) a w := by
  replace hb : P.built t (parts.map fun (i, x) => (i, a.eval x)).toList = some cells := by rw [Array.toList_map]; exact hb
  refine wpList_plain hgd fun K hK => ?_
  refine wp_build t parts ho (by rw [hb]; rfl) ?_
  rw [hb]
  exact hK _ _ h
end
theorem fill_at (l : List Value) (n off : Nat) (Z : Array Value) (h : off + n + l.length ≤ Z.size) : ((l.zipIdx n).foldl (fun cs x => cs.setIfInBounds (off + x.2) x.1) Z) = splice Z (off + n) l := by
  induction l generalizing n Z with
  | nil =>
    simp only [List.zipIdx_nil, List.foldl_nil, splice, List.length_nil, Nat.add_zero, List.append_nil, List.take_append_drop, Array.toArray_toList]
  | cons x r ih =>
    simp only [List.length_cons] at h
    simp only [List.zipIdx_cons, List.foldl_cons]
    rw [ih (n + 1) _ (by simp; omega)]
    have e := list_seg_step Z.toList (off + n) x r (by simp; omega)
    unfold splice
    rw [Array.toList_setIfInBounds, List.length_cons]
    rw [show off + (n + 1) = off + n + 1 by omega, e]
theorem fill_one (place : Nat → Option (Nat × Nat)) (Z : Array Value) (i off n : Nat) (v : Value) (rest : List (Nat × Value)) (hp : place i = some (off, n)) (hv : v.cells.size = n) (hl : off + n ≤ Z.size) :
    Instr.fill place Z ((i, v) :: rest) = Instr.fill place (splice Z off v.cells.toList) rest := by
  have hf := fill_at v.cells.toList 0 off Z (by rw [Array.length_toList, hv]; omega)
  have hz : v.cells.zipIdx.foldl (fun cs x => cs.setIfInBounds (off + x.2) x.1) Z = splice Z off v.cells.toList := by
    rw [← Array.foldl_toList, Array.toList_zipIdx]
    simpa using hf
  rw [Instr.fill, hp]
  simp only [hv]
  rw [if_neg (by simp; omega)]
  exact congrArg (fun z => Instr.fill place z rest) hz
def zNd : List Value := List.replicate 64 (Value.int .u8 0) ++ [Value.string ⟨#[]⟩, Value.string ⟨#[]⟩]
theorem fold_fillA (cs Z : Array Value) (n : Nat) (hn : cs.size = n) (h : Z.size = n) : Array.foldl (fun cs x => cs.setIfInBounds x.2 x.1) Z cs.zipIdx 0 n = cs := by
  subst hn
  have e := fold_fill cs.toList Z (by simpa using h)
  rw [← Array.toList_zipIdx, Array.foldl_toList] at e
  simpa using e
/-- a node, built of its parts -/
theorem built_node (x : Nd) (hx : x.ok) : Try.prog.built 31 [(0, .agg (numsA .u8 x.l)), (1, .agg (numsA .u8 x.r)), (2, .agg #[.string x.n, .string x.v])] = some x.enc.toArray := by
  have hb : ∀ parts, Try.prog.built 31 parts = Instr.fill (fun i => #[(0, 32), (32, 32), (64, 2)][i]?) zNd.toArray parts := fun parts => by kernel_rfl
  have hnl : (nums .u8 x.l).length = 32 := by rw [nums_length, hx.1.1]
  have hnr : (nums .u8 x.r).length = 32 := by rw [nums_length, hx.2.1.1]
  have e1 : splice zNd.toArray 0 (nums .u8 x.l) = (nums .u8 x.l ++ zNd.drop 32).toArray := by
    have := splice_next [] zNd (nums .u8 x.l) (o := 0) rfl
    rw [hnl] at this
    simpa using this
  have e2 : splice (nums .u8 x.l ++ zNd.drop 32).toArray 32 (nums .u8 x.r) = (nums .u8 x.l ++ nums .u8 x.r ++ zNd.drop 64).toArray := by
    have := splice_next (nums .u8 x.l) (zNd.drop 32) (nums .u8 x.r) (o := 32) hnl
    rw [hnr, List.drop_drop] at this
    exact this
  have e3 : splice (nums .u8 x.l ++ nums .u8 x.r ++ zNd.drop 64).toArray 64 [.string x.n, .string x.v] = x.enc.toArray := by
    have := splice_next (nums .u8 x.l ++ nums .u8 x.r) (zNd.drop 64) [.string x.n, .string x.v] (o := 64) (by rw [List.length_append, hnl, hnr])
    rw [show (zNd.drop 64).drop ([Value.string x.n, Value.string x.v]).length = [] from rfl, List.append_nil] at this
    exact this
  have c1 : (Value.agg (numsA .u8 x.l)).cells.toList = nums .u8 x.l := rfl
  have c2 : (Value.agg (numsA .u8 x.r)).cells.toList = nums .u8 x.r := rfl
  have c3 : (Value.agg #[.string x.n, .string x.v]).cells.toList = [.string x.n, .string x.v] := rfl
  have z1 : zNd.length = 66 := rfl
  rw [hb, fill_one _ _ 0 0 32 _ _ rfl (by rw [← Array.length_toList, c1, hnl]) (by rw [List.size_toArray, z1]; decide), c1, e1,
    fill_one _ _ 1 32 32 _ _ rfl (by rw [← Array.length_toList, c2, hnr]) (by rw [List.size_toArray, List.length_append, hnl]; decide), c2, e2,
    fill_one _ _ 2 64 2 _ _ rfl rfl (by rw [List.size_toArray, List.length_append, List.length_append, hnl, hnr]; decide), c3, e3, Instr.fill]
/-- a number and a whole array in a variable are the results -/
theorem results_tb {P : Program} {w : World} {fn : Func} {c d : Tmp} {t g e n : Nat} {cs : Array Value} (hr : fn.results = #[.tmp d, .cell c t]) (tmps : Array Value) (hp : tmps.getD c undef = .pointer (some ⟨g, 0, none⟩)) (ht : Agg P t n) (hn : cs.size = n) (hb : Blk w g e cs) {v : Value} (hv : tmps.getD d undef = v) :
    (results fn tmps).run P w = .ok (.tuple #[v, .agg cs]) w := by
  have hl := run_loadB (P := P) hb ht hn
  have hp' : tmps[c]?.getD undef = .pointer (some ⟨g, 0, none⟩) := by simpa using hp
  have hv' : tmps[d]?.getD undef = v := by simpa using hv
  simp [results, hr, hp', hv', asAddr, hl]
theorem rowNd : Row Try.prog tNd 36 31 96 := Row.mk' Try.underlying36 (.agg zNd.toArray) (by kernel_rfl) rfl (by decide) (by decide)
theorem rd_nd {w : World} {S : Nat → Prop} {A : Option Addr} {c n : Nat} {xs : List Nd} (h : RdL tNd w S (.slice A n c) xs) : Rd w S tNd.sz A xs.length (xs.flatMap tNd.enc) := by
  obtain ⟨A', cap, e, h1, h2, h3, h4⟩ := h
  injection e with e1 e2 e3
  subst e1
  exact h3
theorem ok_nd {w : World} {S : Nat → Prop} {v : Value} {xs : List Nd} (h : RdL tNd w S v xs) : ∀ y ∈ xs, tNd.ok y := by
  obtain ⟨A', cap, e, h1, h2, h3, h4⟩ := h
  exact h4
end Go.Proofs.Ytmndkbheehcoaaa
/- A slice of one struct is made: one step of a region. No condition. -/
namespace Go.Proofs.Ytmndkbheehcoaaa
open Go.RowKit
set_option linter.unusedVariables false
set_option linter.unusedSimpArgs false

theorem run_build1 {P : Program} {t e n : Nat} {cs : Array Value} (W : World) (ht : P.underlying t = some (.slice e)) (hz : (P.info? e).map (fun i => (i.size, i.zero.isSome)) = some (n, true)) (hn : cs.size = n) (h0 : 0 < n) (h1 : n ≤ 1000) :
    (Instr.buildSlice t 1 #[(0, .agg cs)]).run P W = .ok (.slice (some ⟨W.heap.size, 0, none⟩) 1 1) (W.alloc (.cells cs e)) := by
  cases hq : P.info? e with
  | none => simp [hq] at hz
  | some i =>
    have hz' : i.size = n ∧ i.zero.isSome = true := by simpa [hq] using hz
    obtain ⟨hs, hz2⟩ := hz'
    obtain ⟨z, hz3⟩ := Option.isSome_iff_exists.1 hz2
    have hne : ¬ (1 * n > 2 ^ 24) := by omega
    have hne0 : ¬ (1 * n = 0) := by omega
    have hf : ∀ Z : Array Value, Z.size = n → Instr.fill (fun i => some (i * n, n)) Z [(0, .agg cs)] = some cs := fun Z hZ => by
      rw [fill_one _ _ 0 0 n _ _ (by simp) (by simp only [Value.cells]; exact hn) (by omega), Instr.fill]
      simp only [Value.cells]
      rw [splice_all _ _ (by rw [Array.length_toList, hn, hZ]), Array.toArray_toList]
    have hff := hf ((Array.range (1 * n)).map fun x => z.cells[x % z.cells.size]!) (by simp)
    simp only [Nat.one_mul] at hff
    simp [Instr.buildSlice, run_underlying ht, sizeOf, typeInfo, zeroValue, hq, hs, hz3, newRow, show ¬ n = 0 by omega, show ¬ 16777216 < n by omega, hff]
/-- a slice of one struct: one step of a region -/
theorem stp_build1 {P : Program} {ops : Array Oper} {o : Oper} {a : Act} {w : World} {K : Act → World → Prop} {Q : Exit → Act → World → Prop} {E : Prop} {t e n : Nat} {cs : Array Value} (ht : P.underlying t = some (.slice e)) (hz : (P.info? e).map (fun i => (i.size, i.zero.isSome)) = some (n, true)) (hn : cs.size = n) (h0 : 0 < n) (h1 : n ≤ 1000)
    (hgd : o.guard = none) (x : Operand) (ho : o.op = .buildSlice t 1 #[(0, x)]) (hx : a.eval x = .agg cs)
    (h : K (a.put o.dst (.slice (some ⟨w.heap.size, 0, none⟩) 1 1)) (w.alloc (.cells cs e))) : if Region.wanted o (yielded ops a.tmps) = true then Oper.wp P o a w K Q else E := by
  have hw : Region.wanted o (yielded ops a.tmps) = true := by simp [Region.wanted, hgd]
  rw [if_pos hw]
  have hrun := run_build1 (P := P) w ht hz hn h0 h1
  have hm : (#[((0 : Nat), x)] : Array (Nat × Operand)).map (fun p => (p.1, a.eval p.2)) = #[(0, .agg cs)] := by simp [hx]
  unfold Oper.wp execOp
  simp only [ho, hm, hrun, Sem.run_bind, Result.andThen_ok, Sem.run_pure]
  exact h
theorem zeroNd : (Try.prog.info? 31).map (fun i => (i.size, i.zero.isSome)) = some (66, true) := by kernel_rfl
end Go.Proofs.Ytmndkbheehcoaaa
/- The texts that mark entries. No condition. -/
namespace Go.Proofs.Ytmndkbheehcoaaa
open Go.RowKit
set_option linter.unusedVariables false
set_option linter.unusedSimpArgs false

theorem convS {A : Option Addr} {cap : Nat} {xs : List Int} {w : World} {S : Nat → Prop} (h : RdL tByte w S (.slice A xs.length cap) xs) : (convert 56 9 (.slice A xs.length cap)).run Try.prog w = .ok (.string (strOfNums xs)) w := by
  obtain ⟨A', cap', e, hcap, hlen, hrd, hok⟩ := h
  obtain ⟨rfl, _, rfl⟩ := Value.slice.inj e
  rw [flat_bytes] at hrd
  rcases Nat.eq_zero_or_pos xs.length with h0 | h0
  · obtain rfl : xs = [] := List.eq_nil_of_length_eq_zero h0
    rw [run_convert_bytes_string w _ _ _ A _ cap Try.underlying56 Try.underlying5 Try.underlying9]
    cases A <;> simp [Conv.bytesToString, loadCells] <;> rfl
  · obtain ⟨g, o, rfl, _, hc⟩ := hrd.2 h0
    exact run_convert_bytes_arg w _ _ Try.underlying56 Try.underlying5 g o xs.length cap xs rfl (fun i hi => hc i _ (nums_at _ _ _ hi)) _ Try.underlying9
/-- the digits of n ahead of s -/
def digs (n : Nat) (s : ByteArray) : ByteArray := if n = 0 then s else digs (n / 10) (strOfNums [(48 + (n % 10 : Nat) : Int)] ++ s)
termination_by n
decreasing_by omega
theorem digs_zero (s : ByteArray) : digs 0 s = s := by rw [digs]; rfl
theorem digs_pos {n : Nat} (h : 0 < n) (s : ByteArray) : digs n s = digs (n / 10) (strOfNums [(48 + (n % 10 : Nat) : Int)] ++ s) := by rw [digs, if_neg (by omega)]
/-- the text of a mark -/
@[irreducible] def mtxt (m : Int) : ByteArray := ⟨#[109]⟩ ++ digs m.toNat ⟨#[]⟩
theorem mtxt_eq (m : Int) : mtxt m = ⟨#[109]⟩ ++ digs m.toNat ⟨#[]⟩ := by rw [mtxt]
set_option maxHeartbeats 1000000 in
set_option maxRecDepth 100000 in
theorem markText_any (m : Int) (h0 : 0 < m) (h1 : m ≤ 1000000000000000) (w : World) :
    Calls Try.prog 94 #[.int .i64 m] w fun e w' => e = .returned (.string (mtxt m)) ∧ Ext w w' := by
  obtain ⟨M, rfl⟩ : ∃ M : Nat, m = (M : Int) := ⟨m.toNat, by omega⟩
  have HT := Lib.hid (mtxt_eq (M : Int))
  go_enter Try.func94, Try.ntmps94
  go_wp2
  go_loopw [0, 3] (fun q s wr => ∃ (k : Nat) (S : ByteArray), k ≤ M ∧ q = .int .i64 k ∧ s = .string S ∧ digs k S = digs M ⟨#[]⟩ ∧ S.size + k ≤ M ∧ Ext w wr) (fun q _ _ => (intOf q).toNat)
  case atStart => exact ⟨M, _, by omega, rfl, rfl, rfl, by show 0 + M ≤ M; omega, Ext.refl _⟩
  case round =>
    obtain ⟨k, S, hk, rfl, rfl, hd, hz, hx⟩ := hrel
    have HX := Lib.hid hx
    have HD := Lib.hid hd
    clear hx hd
    by_cases hp : 0 < k
    · have hcv : ∀ (W : World) (v : Int), v = 48 + ((k % 10 : Nat) : Int) → (convert 56 9 (.slice (some ⟨W.heap.size, 0, none⟩) 1 1)).run Try.prog (W.alloc (.cells #[.int .u8 v] 5)) = .ok (.string (strOfNums [(48 + (k % 10 : Nat) : Int)])) (W.alloc (.cells #[.int .u8 v] 5)) := by
        rintro W v rfl
        exact convS (xs := [(48 + (k % 10 : Nat) : Int)]) (Own.of_blk8 (base := 0) (e := 5) (Blk.new W 5 _) (Nat.zero_le _) (by simp) (by intro y hy; simp at hy; subst hy; omega)).rd
      have HC := Lib.hid hcv
      have hs1 : (strOfNums [48 + (k : Int) % 10]).size = 1 := strOfNums_size _
      have hcc : ((k % 10 : Nat) : Int) = (k : Int) % 10 := by omega
      have he : digs (k / 10) (strOfNums [48 + (k : Int) % 10] ++ S) = digs M ⟨#[]⟩ := by
        rw [← HD.out, digs_pos hp, hcc]
      have hz2 : (strOfNums [48 + (k : Int) % 10] ++ S).size + k / 10 ≤ M := by
        rw [ByteArray.size_append, hs1]; omega
      have HE := Lib.hid he
      have HZ := Lib.hid hz2
      clear he hz2
      go_wp2
      go_roundw
      case rel => exact ⟨k / 10, _, by omega, by go_num, rfl, HE.out, HZ.out, HX.out.alloc _⟩
      case measure => simp [intOf]; omega
    · obtain rfl : k = 0 := by omega
      go_wp2
      go_ret
      exact ⟨by rw [HT.out]; simp; rw [← HD.out, digs_zero], HX.out⟩
end Go.Proofs.Ytmndkbheehcoaaa
/- The changes between two maps: the reference. No condition. -/
namespace Go.Proofs.Ytmndkbheehcoaaa
open Go.RowKit
set_option linter.unusedVariables false
set_option linter.unusedSimpArgs false

set_option maxHeartbeats 1000000 in
set_option maxRecDepth 100000 in
theorem l04Changes_any (v u : Value) (a b : List En) (h64a : a.length ≤ 64) (h64b : b.length ≤ 64) (w : World) (S S' : Nat → Prop) (h : RdL tEnt w S v a) (h' : RdL tEnt w S' u b) :
    Calls Try.prog 95 #[v, u] w fun e w' => ∃ v', e = .returned v' ∧ Own tChg 90 w' w.heap.size v' (chgI a b 0 0) ∧ Ext w w' := by
  obtain ⟨A, capa, rfl, hcapa, hlena, hrda, hoka⟩ := h
  obtain ⟨B, capb, rfl, hcapb, hlenb, hrdb, hokb⟩ := h'
  have HRa := Lib.hid hrda
  have HRb := Lib.hid hrdb
  have HKa := Lib.hid hoka
  have HKb := Lib.hid hokb
  obtain ⟨R, hR⟩ : ∃ R, chgI a b 0 0 = R := ⟨_, rfl⟩
  rw [hR]
  have HR := Lib.hid hR
  clear hrda hrdb hoka hokb hR
  go_enter Try.func95, Try.ntmps95
  go_wp2_with fail
  go_loopw [5, 6, 7] (fun o ii kk wr => ∃ (i k : Nat) (done : List Chg), i ≤ a.length ∧ k ≤ b.length ∧ ii = .int .i64 i ∧ kk = .int .i64 k ∧ Own tChg 90 wr w.heap.size o done ∧ done ++ chgI a b i k = R ∧ done.length ≤ i + k ∧ Ext w wr) (fun _ ii kk _ => a.length - (intOf ii).toNat + (b.length - (intOf kk).toNat))
  case atStart => exact ⟨0, 0, [], by omega, by omega, rfl, rfl, Own.empty tChg _ 90 _ (Nat.le_refl _), HR.out, by simp, ext_alloc _ _⟩
  case round =>
    obtain ⟨i, k, done, hi, hk, rfl, rfl, ho, hd, hl, hx⟩ := hrel
    obtain ⟨C, cn, cc, rfl⟩ := ho.shape3
    have HX := Lib.hid hx
    have HO := Lib.hid ho
    have HD := Lib.hid hd
    have HL := Lib.hid (show done.length ≤ 128 by omega)
    have HLL := Lib.hid hl
    clear hx ho hd hl HR
    by_cases ha : i < a.length
    · by_cases hb : k < b.length
      · obtain ⟨ga, oa, hpa, _, hca⟩ := HRa.out.elem HKa.out i ha
        obtain rfl := hpa
        have a0 : ∀ W, Ext w W → W.cell? ⟨ga, oa + i * 2, none⟩ = some (.string a[i].1) := fun W hW => hW.cell (hca 0 _ rfl)
        have a1 : ∀ W, Ext w W → W.cell? ⟨ga, oa + i * 2 + 1, none⟩ = some (.string a[i].2) := fun W hW => hW.cell (hca 1 _ rfl)
        have hao : tEnt.ok a[i] := HKa.out _ (List.getElem_mem ha)
        have a0r := a0 _ HX.out
        have a1r := a1 _ HX.out
        clear hca
        obtain ⟨gb, ob, hpb, _, hcb⟩ := HRb.out.elem HKb.out k hb
        obtain rfl := hpb
        have b0 : ∀ W, Ext w W → W.cell? ⟨gb, ob + k * 2, none⟩ = some (.string b[k].1) := fun W hW => hW.cell (hcb 0 _ rfl)
        have b1 : ∀ W, Ext w W → W.cell? ⟨gb, ob + k * 2 + 1, none⟩ = some (.string b[k].2) := fun W hW => hW.cell (hcb 1 _ rfl)
        have hbo : tEnt.ok b[k] := HKb.out _ (List.getElem_mem hb)
        have b0r := b0 _ HX.out
        have b1r := b1 _ HX.out
        clear hcb
        have hi1 : (i : Int) < (a.length : Int) := by omega
        have hi0 : (0 : Int) ≤ (i : Int) := by omega
        have hk1 : (k : Int) < (b.length : Int) := by omega
        have hk0 : (0 : Int) ≤ (k : Int) := by omega
        have hke : ((k : Int) == (b.length : Int)) = false := by rw [beq_eq_false_iff_ne]; omega
        have hie : ((i : Int) == (a.length : Int)) = false := by rw [beq_eq_false_iff_ne]; omega
        have q1 := ltB_eq a[i].1 b[k].1
        have q2 := ltB_eq b[k].1 a[i].1
        cases h1 : ltB a[i].1 b[k].1 with
        | true =>
          rw [h1] at q1
          have HCO := Lib.hid (show tChg.ok (⟨a[i].1, true, a[i].2, false, ⟨#[]⟩⟩ : Chg) from ⟨hao.1, hao.2, by show (0 : Nat) ≤ 140737488351232; decide⟩)
          have HN := Lib.hid (chgI_del ha hk (fun _ => h1))
          go_wp2_with fail
          go_quiet (fail)
          go_wp2_with fail
          refine wp_world (w0 := wr) ((Drawn.refl _).drewN _) (fun wq hwq => ?_)
          have HXq := Lib.hid (HX.out.trans hwq.ext)
          have HOq := Lib.hid (HO.out.ext hwq.ext)
          clear hwq
          refine wp_region_held_drew (S := fun W => Ext w W) (by kernel_rfl) HXq.out.drew (fun hHeld => ?_)
          have HOz := Lib.hid (show Own tChg 90 wq.drew w.heap.size (.slice C cn cc) done from HOq.out)
          generalize wq.drew = wz at hHeld HOz ⊢
          refine wpAnyH_take (i := 0) (oi := ?oiz1) (v := ?vz1) ?hiz1 (by kernel_rfl) (by kernel_rfl) (by kernel_rfl) ?hQz1 ?hyz1 (by assumption) ?restz1
          case hiz1 => simp only [List.getElem?_toArray, List.getElem?_cons_zero, List.getElem?_cons_succ]; rfl
          case hQz1 => exact fun _ _ _ h => h
          case hyz1 => exact Or.inl ⟨by rfl, by intro w hSw; (try dsimp only at hSw); go_simp; with_reducible rfl⟩
          try simp only [Act.put, List.setIfInBounds_toArray, List.set_cons_zero, List.set_cons_succ]
          refine wpAnyH_take (i := 1) (oi := ?oiz2) (v := ?vz2) ?hiz2 (by kernel_rfl) (by kernel_rfl) (by kernel_rfl) ?hQz2 ?hyz2 (by assumption) ?restz2
          case hiz2 => simp only [List.getElem?_toArray, List.getElem?_cons_zero, List.getElem?_cons_succ]; rfl
          case hQz2 => exact fun _ _ _ h => h
          case hyz2 => exact Or.inl ⟨by rfl, by intro w hSw; (try dsimp only at hSw); go_simp; with_reducible rfl⟩
          try simp only [Act.put, List.setIfInBounds_toArray, List.set_cons_zero, List.set_cons_succ]
          refine wpAnyH_take (i := 2) (oi := ?oiz3) (v := ?vz3) ?hiz3 (by kernel_rfl) (by kernel_rfl) (by kernel_rfl) ?hQz3 ?hyz3 (by assumption) ?restz3
          case hiz3 => simp only [List.getElem?_toArray, List.getElem?_cons_zero, List.getElem?_cons_succ]; rfl
          case hQz3 => exact fun _ _ _ h => h
          case hyz3 => exact Or.inl ⟨by rfl, by intro w hSw; (try dsimp only at hSw); go_simp; with_reducible rfl⟩
          try simp only [Act.put, List.setIfInBounds_toArray, List.set_cons_zero, List.set_cons_succ]
          refine wpAnyH_take (i := 3) (oi := ?oiz4) (v := ?vz4) ?hiz4 (by kernel_rfl) (by kernel_rfl) (by kernel_rfl) ?hQz4 ?hyz4 (by assumption) ?restz4
          case hiz4 => simp only [List.getElem?_toArray, List.getElem?_cons_zero, List.getElem?_cons_succ]; rfl
          case hQz4 => exact fun _ _ _ h => h
          case hyz4 => exact Or.inl ⟨by rfl, by intro w hSw; (try dsimp only at hSw); go_simp; with_reducible rfl⟩
          try simp only [Act.put, List.setIfInBounds_toArray, List.set_cons_zero, List.set_cons_succ]
          refine wpAnyH_take (i := 4) (oi := ?oiz5) (v := ?vz5) ?hiz5 (by kernel_rfl) (by kernel_rfl) (by kernel_rfl) ?hQz5 ?hyz5 (by assumption) ?restz5
          case hiz5 => simp only [List.getElem?_toArray, List.getElem?_cons_zero, List.getElem?_cons_succ]; rfl
          case hQz5 => exact fun _ _ _ h => h
          case hyz5 => exact Or.inl ⟨by rfl, by intro w hSw; (try dsimp only at hSw); go_simp; with_reducible rfl⟩
          try simp only [Act.put, List.setIfInBounds_toArray, List.set_cons_zero, List.set_cons_succ]
          refine wpAnyH_take (i := 5) (oi := ?oiz6) (v := ?vz6) ?hiz6 (by kernel_rfl) (by kernel_rfl) (by kernel_rfl) ?hQz6 ?hyz6 (by assumption) ?restz6
          case hiz6 => simp only [List.getElem?_toArray, List.getElem?_cons_zero, List.getElem?_cons_succ]; rfl
          case hQz6 => exact fun _ _ _ h => h
          case hyz6 => exact Or.inl ⟨by rfl, by intro w hSw; (try dsimp only at hSw); go_simp; with_reducible rfl⟩
          try simp only [Act.put, List.setIfInBounds_toArray, List.set_cons_zero, List.set_cons_succ]
          refine wpAnyH_take (i := 6) (oi := ?oiz7) (v := ?vz7) ?hiz7 (by kernel_rfl) (by kernel_rfl) (by kernel_rfl) ?hQz7 ?hyz7 (by assumption) ?restz7
          case hiz7 => simp only [List.getElem?_toArray, List.getElem?_cons_zero, List.getElem?_cons_succ]; rfl
          case hQz7 => exact fun _ _ _ h => h
          case hyz7 => exact Or.inl ⟨by rfl, by intro w hSw; (try dsimp only at hSw); go_simp; with_reducible rfl⟩
          try simp only [Act.put, List.setIfInBounds_toArray, List.set_cons_zero, List.set_cons_succ]
          refine wpAnyH_take (i := 7) (oi := ?oiz8) (v := ?vz8) ?hiz8 (by kernel_rfl) (by kernel_rfl) (by kernel_rfl) ?hQz8 ?hyz8 (by assumption) ?restz8
          case hiz8 => simp only [List.getElem?_toArray, List.getElem?_cons_zero, List.getElem?_cons_succ]; rfl
          case hQz8 => exact fun _ _ _ h => h
          case hyz8 => exact Or.inl ⟨by rfl, by intro w hSw; (try dsimp only at hSw); go_simp; with_reducible rfl⟩
          try simp only [Act.put, List.setIfInBounds_toArray, List.set_cons_zero, List.set_cons_succ]
          refine wpAnyH_take (i := 8) (oi := ?oiz9) (v := ?vz9) ?hiz9 (by kernel_rfl) (by kernel_rfl) (by kernel_rfl) ?hQz9 ?hyz9 (by assumption) ?restz9
          case hiz9 => simp only [List.getElem?_toArray, List.getElem?_cons_zero, List.getElem?_cons_succ]; rfl
          case hQz9 => exact fun _ _ _ h => h
          case hyz9 => exact Or.inl ⟨by rfl, by intro w hSw; (try dsimp only at hSw); go_simp; with_reducible rfl⟩
          try simp only [Act.put, List.setIfInBounds_toArray, List.set_cons_zero, List.set_cons_succ]
          refine wpAnyH_take (i := 9) (oi := ?oiz10) (v := ?vz10) ?hiz10 (by kernel_rfl) (by kernel_rfl) (by kernel_rfl) ?hQz10 ?hyz10 (by assumption) ?restz10
          case hiz10 => simp only [List.getElem?_toArray, List.getElem?_cons_zero, List.getElem?_cons_succ]; rfl
          case hQz10 => exact fun _ _ _ h => h
          case hyz10 => exact Or.inl ⟨by rfl, by intro w hSw; (try dsimp only at hSw); go_simp; with_reducible rfl⟩
          try simp only [Act.put, List.setIfInBounds_toArray, List.set_cons_zero, List.set_cons_succ]
          refine wpAnyH_take (i := 10) (oi := ?oiz11) (v := ?vz11) ?hiz11 (by kernel_rfl) (by kernel_rfl) (by kernel_rfl) ?hQz11 ?hyz11 (by assumption) ?restz11
          case hiz11 => simp only [List.getElem?_toArray, List.getElem?_cons_zero, List.getElem?_cons_succ]; rfl
          case hQz11 => exact fun _ _ _ h => h
          case hyz11 => exact Or.inl ⟨by rfl, by intro w hSw; (try dsimp only at hSw); go_simp; with_reducible rfl⟩
          try simp only [Act.put, List.setIfInBounds_toArray, List.set_cons_zero, List.set_cons_succ]
          refine wpAnyH_take (i := 11) (oi := ?oiz12) (v := ?vz12) ?hiz12 (by kernel_rfl) (by kernel_rfl) (by kernel_rfl) ?hQz12 ?hyz12 (by assumption) ?restz12
          case hiz12 => simp only [List.getElem?_toArray, List.getElem?_cons_zero, List.getElem?_cons_succ]; rfl
          case hQz12 => exact fun _ _ _ h => h
          case hyz12 => exact Or.inl ⟨by rfl, by intro w hSw; (try dsimp only at hSw); go_simp; with_reducible rfl⟩
          try simp only [Act.put, List.setIfInBounds_toArray, List.set_cons_zero, List.set_cons_succ]
          refine wpAnyH_ready (rs := [12]) (by kernel_rfl) (by simp) (AllReadyH.cons (o := ?oy1312) ?hy1312 (fun K hK => ?sy1312) AllReadyH.nil)
          case hy1312 => simp only [List.getElem?_toArray, List.getElem?_cons_zero, List.getElem?_cons_succ]; rfl
          go_simp
          have hH2 := hHeld.alloc (.cells (tChg.enc (⟨a[i].1, true, a[i].2, false, ⟨#[]⟩⟩ : Chg)).toArray 90)
          refine hK.out _ _ hH2 (fun _ => ?_)
          clear hK K hH2
          try simp only [Act.put, List.setIfInBounds_toArray, List.set_cons_zero, List.set_cons_succ]
          refine wpAnyH_ready (rs := [13]) (by kernel_rfl) (by simp) (AllReadyH.cons (o := ?oy1413) ?hy1413 (fun K hK => ?sy1413) AllReadyH.nil)
          case hy1413 => simp only [List.getElem?_toArray, List.getElem?_cons_zero, List.getElem?_cons_succ]; rfl
          refine stp_append rowChg rfl _ _ rfl (v := .slice C cn cc) rfl (HOz.out.alloc (.cells (tChg.enc (⟨a[i].1, true, a[i].2, false, ⟨#[]⟩⟩ : Chg)).toArray 90)) _ _ rfl (A := some ⟨wz.heap.size, 0, none⟩) (ys := [(⟨a[i].1, true, a[i].2, false, ⟨#[]⟩⟩ : Chg)]) rfl (rd_one (T := tChg) wz (⟨a[i].1, true, a[i].2, false, ⟨#[]⟩⟩ : Chg) HCO.out _) (by intro y hy; obtain rfl := List.mem_singleton.1 hy; exact HCO.out) (by have := HL.out; simp only [List.length_singleton]; omega) (hHeld.alloc _).size ?_
          intro v9 w9 ho1 hg1 hat1
          obtain ⟨C9, n9, c9, rfl⟩ := ho1.shape3
          have hH2 := (HOz.out.alloc (.cells (tChg.enc (⟨a[i].1, true, a[i].2, false, ⟨#[]⟩⟩ : Chg)).toArray 90)).ext_app (hHeld.alloc _) hg1
          refine hK.out _ _ hH2 (fun _ => ?_)
          have HO9 := Lib.hid ho1
          have HX9 := Lib.hid hH2
          clear hK K ho1 hg1 hat1 hH2 hHeld HOz
          try simp only [Act.put, List.setIfInBounds_toArray, List.set_cons_zero, List.set_cons_succ]
          refine wpAnyH_take (i := 14) (oi := ?oiz15) (v := ?vz15) ?hiz15 (by kernel_rfl) (by kernel_rfl) (by kernel_rfl) ?hQz15 ?hyz15 (by assumption) ?restz15
          case hiz15 => simp only [List.getElem?_toArray, List.getElem?_cons_zero, List.getElem?_cons_succ]; rfl
          case hQz15 => exact fun _ _ _ h => h
          case hyz15 => exact Or.inl ⟨by rfl, by intro w hSw; (try dsimp only at hSw); go_simp; with_reducible rfl⟩
          try simp only [Act.put, List.setIfInBounds_toArray, List.set_cons_zero, List.set_cons_succ]
          refine wpAnyH_done (by kernel_rfl) ?_ _
          go_wp2
          go_roundw
          case rel => exact ⟨i + 1, k, _, by omega, by omega, by go_num, by go_num, HO9.out, by rw [List.append_assoc, List.singleton_append, ← HN.out]; exact HD.out, by have := HLL.out; simp only [List.length_append, List.length_singleton]; omega, HX9.out⟩
          case measure => simp [intOf]; omega
        | false =>
          rw [h1] at q1
          cases h2 : ltB b[k].1 a[i].1 with
          | true =>
            rw [h2] at q2
            have HCO := Lib.hid (show tChg.ok (⟨b[k].1, false, ⟨#[]⟩, true, b[k].2⟩ : Chg) from ⟨hbo.1, by show (0 : Nat) ≤ 140737488351232; decide, hbo.2⟩)
            have HN := Lib.hid (chgI_add hi hb (fun _ => h2))
            go_wp2_with fail
            go_quiet (fail)
            go_wp2_with fail
            go_quiet (fail)
            go_wp2_with fail
            refine wp_world (w0 := wr) (((Drawn.refl _).drewN _).drewN _) (fun wq hwq => ?_)
            have HXq := Lib.hid (HX.out.trans hwq.ext)
            have HOq := Lib.hid (HO.out.ext hwq.ext)
            clear hwq
            refine wp_region_held_drew (S := fun W => Ext w W) (by kernel_rfl) HXq.out.drew (fun hHeld => ?_)
            have HOz := Lib.hid (show Own tChg 90 wq.drew w.heap.size (.slice C cn cc) done from HOq.out)
            generalize wq.drew = wz at hHeld HOz ⊢
            refine wpAnyH_take (i := 0) (oi := ?oiz16) (v := ?vz16) ?hiz16 (by kernel_rfl) (by kernel_rfl) (by kernel_rfl) ?hQz16 ?hyz16 (by assumption) ?restz16
            case hiz16 => simp only [List.getElem?_toArray, List.getElem?_cons_zero, List.getElem?_cons_succ]; rfl
            case hQz16 => exact fun _ _ _ h => h
            case hyz16 => exact Or.inl ⟨by rfl, by intro w hSw; (try dsimp only at hSw); go_simp; with_reducible rfl⟩
            try simp only [Act.put, List.setIfInBounds_toArray, List.set_cons_zero, List.set_cons_succ]
            refine wpAnyH_take (i := 1) (oi := ?oiz17) (v := ?vz17) ?hiz17 (by kernel_rfl) (by kernel_rfl) (by kernel_rfl) ?hQz17 ?hyz17 (by assumption) ?restz17
            case hiz17 => simp only [List.getElem?_toArray, List.getElem?_cons_zero, List.getElem?_cons_succ]; rfl
            case hQz17 => exact fun _ _ _ h => h
            case hyz17 => exact Or.inl ⟨by rfl, by intro w hSw; (try dsimp only at hSw); go_simp; with_reducible rfl⟩
            try simp only [Act.put, List.setIfInBounds_toArray, List.set_cons_zero, List.set_cons_succ]
            refine wpAnyH_take (i := 2) (oi := ?oiz18) (v := ?vz18) ?hiz18 (by kernel_rfl) (by kernel_rfl) (by kernel_rfl) ?hQz18 ?hyz18 (by assumption) ?restz18
            case hiz18 => simp only [List.getElem?_toArray, List.getElem?_cons_zero, List.getElem?_cons_succ]; rfl
            case hQz18 => exact fun _ _ _ h => h
            case hyz18 => exact Or.inl ⟨by rfl, by intro w hSw; (try dsimp only at hSw); go_simp; with_reducible rfl⟩
            try simp only [Act.put, List.setIfInBounds_toArray, List.set_cons_zero, List.set_cons_succ]
            refine wpAnyH_take (i := 3) (oi := ?oiz19) (v := ?vz19) ?hiz19 (by kernel_rfl) (by kernel_rfl) (by kernel_rfl) ?hQz19 ?hyz19 (by assumption) ?restz19
            case hiz19 => simp only [List.getElem?_toArray, List.getElem?_cons_zero, List.getElem?_cons_succ]; rfl
            case hQz19 => exact fun _ _ _ h => h
            case hyz19 => exact Or.inl ⟨by rfl, by intro w hSw; (try dsimp only at hSw); go_simp; with_reducible rfl⟩
            try simp only [Act.put, List.setIfInBounds_toArray, List.set_cons_zero, List.set_cons_succ]
            refine wpAnyH_take (i := 4) (oi := ?oiz20) (v := ?vz20) ?hiz20 (by kernel_rfl) (by kernel_rfl) (by kernel_rfl) ?hQz20 ?hyz20 (by assumption) ?restz20
            case hiz20 => simp only [List.getElem?_toArray, List.getElem?_cons_zero, List.getElem?_cons_succ]; rfl
            case hQz20 => exact fun _ _ _ h => h
            case hyz20 => exact Or.inl ⟨by rfl, by intro w hSw; (try dsimp only at hSw); go_simp; with_reducible rfl⟩
            try simp only [Act.put, List.setIfInBounds_toArray, List.set_cons_zero, List.set_cons_succ]
            refine wpAnyH_take (i := 5) (oi := ?oiz21) (v := ?vz21) ?hiz21 (by kernel_rfl) (by kernel_rfl) (by kernel_rfl) ?hQz21 ?hyz21 (by assumption) ?restz21
            case hiz21 => simp only [List.getElem?_toArray, List.getElem?_cons_zero, List.getElem?_cons_succ]; rfl
            case hQz21 => exact fun _ _ _ h => h
            case hyz21 => exact Or.inl ⟨by rfl, by intro w hSw; (try dsimp only at hSw); go_simp; with_reducible rfl⟩
            try simp only [Act.put, List.setIfInBounds_toArray, List.set_cons_zero, List.set_cons_succ]
            refine wpAnyH_take (i := 6) (oi := ?oiz22) (v := ?vz22) ?hiz22 (by kernel_rfl) (by kernel_rfl) (by kernel_rfl) ?hQz22 ?hyz22 (by assumption) ?restz22
            case hiz22 => simp only [List.getElem?_toArray, List.getElem?_cons_zero, List.getElem?_cons_succ]; rfl
            case hQz22 => exact fun _ _ _ h => h
            case hyz22 => exact Or.inl ⟨by rfl, by intro w hSw; (try dsimp only at hSw); go_simp; with_reducible rfl⟩
            try simp only [Act.put, List.setIfInBounds_toArray, List.set_cons_zero, List.set_cons_succ]
            refine wpAnyH_take (i := 7) (oi := ?oiz23) (v := ?vz23) ?hiz23 (by kernel_rfl) (by kernel_rfl) (by kernel_rfl) ?hQz23 ?hyz23 (by assumption) ?restz23
            case hiz23 => simp only [List.getElem?_toArray, List.getElem?_cons_zero, List.getElem?_cons_succ]; rfl
            case hQz23 => exact fun _ _ _ h => h
            case hyz23 => exact Or.inl ⟨by rfl, by intro w hSw; (try dsimp only at hSw); go_simp; with_reducible rfl⟩
            try simp only [Act.put, List.setIfInBounds_toArray, List.set_cons_zero, List.set_cons_succ]
            refine wpAnyH_take (i := 8) (oi := ?oiz24) (v := ?vz24) ?hiz24 (by kernel_rfl) (by kernel_rfl) (by kernel_rfl) ?hQz24 ?hyz24 (by assumption) ?restz24
            case hiz24 => simp only [List.getElem?_toArray, List.getElem?_cons_zero, List.getElem?_cons_succ]; rfl
            case hQz24 => exact fun _ _ _ h => h
            case hyz24 => exact Or.inl ⟨by rfl, by intro w hSw; (try dsimp only at hSw); go_simp; with_reducible rfl⟩
            try simp only [Act.put, List.setIfInBounds_toArray, List.set_cons_zero, List.set_cons_succ]
            refine wpAnyH_take (i := 9) (oi := ?oiz25) (v := ?vz25) ?hiz25 (by kernel_rfl) (by kernel_rfl) (by kernel_rfl) ?hQz25 ?hyz25 (by assumption) ?restz25
            case hiz25 => simp only [List.getElem?_toArray, List.getElem?_cons_zero, List.getElem?_cons_succ]; rfl
            case hQz25 => exact fun _ _ _ h => h
            case hyz25 => exact Or.inl ⟨by rfl, by intro w hSw; (try dsimp only at hSw); go_simp; with_reducible rfl⟩
            try simp only [Act.put, List.setIfInBounds_toArray, List.set_cons_zero, List.set_cons_succ]
            refine wpAnyH_take (i := 10) (oi := ?oiz26) (v := ?vz26) ?hiz26 (by kernel_rfl) (by kernel_rfl) (by kernel_rfl) ?hQz26 ?hyz26 (by assumption) ?restz26
            case hiz26 => simp only [List.getElem?_toArray, List.getElem?_cons_zero, List.getElem?_cons_succ]; rfl
            case hQz26 => exact fun _ _ _ h => h
            case hyz26 => exact Or.inl ⟨by rfl, by intro w hSw; (try dsimp only at hSw); go_simp; with_reducible rfl⟩
            try simp only [Act.put, List.setIfInBounds_toArray, List.set_cons_zero, List.set_cons_succ]
            refine wpAnyH_take (i := 11) (oi := ?oiz27) (v := ?vz27) ?hiz27 (by kernel_rfl) (by kernel_rfl) (by kernel_rfl) ?hQz27 ?hyz27 (by assumption) ?restz27
            case hiz27 => simp only [List.getElem?_toArray, List.getElem?_cons_zero, List.getElem?_cons_succ]; rfl
            case hQz27 => exact fun _ _ _ h => h
            case hyz27 => exact Or.inl ⟨by rfl, by intro w hSw; (try dsimp only at hSw); go_simp; with_reducible rfl⟩
            try simp only [Act.put, List.setIfInBounds_toArray, List.set_cons_zero, List.set_cons_succ]
            refine wpAnyH_ready (rs := [12]) (by kernel_rfl) (by simp) (AllReadyH.cons (o := ?oy2812) ?hy2812 (fun K hK => ?sy2812) AllReadyH.nil)
            case hy2812 => simp only [List.getElem?_toArray, List.getElem?_cons_zero, List.getElem?_cons_succ]; rfl
            go_simp
            have hH2 := hHeld.alloc (.cells (tChg.enc (⟨b[k].1, false, ⟨#[]⟩, true, b[k].2⟩ : Chg)).toArray 90)
            refine hK.out _ _ hH2 (fun _ => ?_)
            clear hK K hH2
            try simp only [Act.put, List.setIfInBounds_toArray, List.set_cons_zero, List.set_cons_succ]
            refine wpAnyH_ready (rs := [13]) (by kernel_rfl) (by simp) (AllReadyH.cons (o := ?oy2913) ?hy2913 (fun K hK => ?sy2913) AllReadyH.nil)
            case hy2913 => simp only [List.getElem?_toArray, List.getElem?_cons_zero, List.getElem?_cons_succ]; rfl
            refine stp_append rowChg rfl _ _ rfl (v := .slice C cn cc) rfl (HOz.out.alloc (.cells (tChg.enc (⟨b[k].1, false, ⟨#[]⟩, true, b[k].2⟩ : Chg)).toArray 90)) _ _ rfl (A := some ⟨wz.heap.size, 0, none⟩) (ys := [(⟨b[k].1, false, ⟨#[]⟩, true, b[k].2⟩ : Chg)]) rfl (rd_one (T := tChg) wz (⟨b[k].1, false, ⟨#[]⟩, true, b[k].2⟩ : Chg) HCO.out _) (by intro y hy; obtain rfl := List.mem_singleton.1 hy; exact HCO.out) (by have := HL.out; simp only [List.length_singleton]; omega) (hHeld.alloc _).size ?_
            intro v9 w9 ho1 hg1 hat1
            obtain ⟨C9, n9, c9, rfl⟩ := ho1.shape3
            have hH2 := (HOz.out.alloc (.cells (tChg.enc (⟨b[k].1, false, ⟨#[]⟩, true, b[k].2⟩ : Chg)).toArray 90)).ext_app (hHeld.alloc _) hg1
            refine hK.out _ _ hH2 (fun _ => ?_)
            have HO9 := Lib.hid ho1
            have HX9 := Lib.hid hH2
            clear hK K ho1 hg1 hat1 hH2 hHeld HOz
            try simp only [Act.put, List.setIfInBounds_toArray, List.set_cons_zero, List.set_cons_succ]
            refine wpAnyH_take (i := 14) (oi := ?oiz30) (v := ?vz30) ?hiz30 (by kernel_rfl) (by kernel_rfl) (by kernel_rfl) ?hQz30 ?hyz30 (by assumption) ?restz30
            case hiz30 => simp only [List.getElem?_toArray, List.getElem?_cons_zero, List.getElem?_cons_succ]; rfl
            case hQz30 => exact fun _ _ _ h => h
            case hyz30 => exact Or.inl ⟨by rfl, by intro w hSw; (try dsimp only at hSw); go_simp; with_reducible rfl⟩
            try simp only [Act.put, List.setIfInBounds_toArray, List.set_cons_zero, List.set_cons_succ]
            refine wpAnyH_done (by kernel_rfl) ?_ _
            go_wp2
            go_roundw
            case rel => exact ⟨i, k + 1, _, by omega, by omega, by go_num, by go_num, HO9.out, by rw [List.append_assoc, List.singleton_append, ← HN.out]; exact HD.out, by have := HLL.out; simp only [List.length_append, List.length_singleton]; omega, HX9.out⟩
            case measure => simp [intOf]; omega
          | false =>
            rw [h2] at q2
            have hboth := chgI_both ha hb h1 h2
            by_cases h3 : a[i].2 = b[k].2
            · rw [if_pos h3] at hboth
              have HN := Lib.hid hboth
              have q3 : (a[i].2.toList == b[k].2.toList) = true := by rw [h3]; simp
              clear hboth h3
              go_wp2_with fail
              go_quiet (fail)
              go_wp2_with fail
              go_quiet (fail)
              go_wp2_with fail
              go_quiet (fail)
              go_wp2
              go_roundw
              case rel => exact ⟨i + 1, k + 1, done, by omega, by omega, by go_num, by go_num, HO.out.drewN _, by rw [← HN.out]; exact HD.out, by have := HLL.out; omega, HX.out.drewN _⟩
              case measure => simp [intOf]; omega
            · rw [if_neg h3] at hboth
              have q3 : (a[i].2.toList == b[k].2.toList) = false := by rw [beq_eq_false_iff_ne]; exact fun e => h3 (toList_inj e)
              have HCO := Lib.hid (show tChg.ok (⟨a[i].1, true, a[i].2, true, b[k].2⟩ : Chg) from ⟨hao.1, hao.2, hbo.2⟩)
              have HN := Lib.hid (hboth)
              go_wp2_with fail
              go_quiet (fail)
              go_wp2_with fail
              go_quiet (fail)
              go_wp2_with fail
              go_quiet (fail)
              go_wp2_with fail
              refine wp_world (w0 := wr) ((((Drawn.refl _).drewN _).drewN _).drewN _) (fun wq hwq => ?_)
              have HXq := Lib.hid (HX.out.trans hwq.ext)
              have HOq := Lib.hid (HO.out.ext hwq.ext)
              clear hwq
              refine wp_region_held_drew (S := fun W => Ext w W) (by kernel_rfl) HXq.out.drew (fun hHeld => ?_)
              have HOz := Lib.hid (show Own tChg 90 wq.drew w.heap.size (.slice C cn cc) done from HOq.out)
              generalize wq.drew = wz at hHeld HOz ⊢
              refine wpAnyH_take (i := 0) (oi := ?oiz31) (v := ?vz31) ?hiz31 (by kernel_rfl) (by kernel_rfl) (by kernel_rfl) ?hQz31 ?hyz31 (by assumption) ?restz31
              case hiz31 => simp only [List.getElem?_toArray, List.getElem?_cons_zero, List.getElem?_cons_succ]; rfl
              case hQz31 => exact fun _ _ _ h => h
              case hyz31 => exact Or.inl ⟨by rfl, by intro w hSw; (try dsimp only at hSw); go_simp; with_reducible rfl⟩
              try simp only [Act.put, List.setIfInBounds_toArray, List.set_cons_zero, List.set_cons_succ]
              refine wpAnyH_take (i := 1) (oi := ?oiz32) (v := ?vz32) ?hiz32 (by kernel_rfl) (by kernel_rfl) (by kernel_rfl) ?hQz32 ?hyz32 (by assumption) ?restz32
              case hiz32 => simp only [List.getElem?_toArray, List.getElem?_cons_zero, List.getElem?_cons_succ]; rfl
              case hQz32 => exact fun _ _ _ h => h
              case hyz32 => exact Or.inl ⟨by rfl, by intro w hSw; (try dsimp only at hSw); go_simp; with_reducible rfl⟩
              try simp only [Act.put, List.setIfInBounds_toArray, List.set_cons_zero, List.set_cons_succ]
              refine wpAnyH_take (i := 2) (oi := ?oiz33) (v := ?vz33) ?hiz33 (by kernel_rfl) (by kernel_rfl) (by kernel_rfl) ?hQz33 ?hyz33 (by assumption) ?restz33
              case hiz33 => simp only [List.getElem?_toArray, List.getElem?_cons_zero, List.getElem?_cons_succ]; rfl
              case hQz33 => exact fun _ _ _ h => h
              case hyz33 => exact Or.inl ⟨by rfl, by intro w hSw; (try dsimp only at hSw); go_simp; with_reducible rfl⟩
              try simp only [Act.put, List.setIfInBounds_toArray, List.set_cons_zero, List.set_cons_succ]
              refine wpAnyH_take (i := 3) (oi := ?oiz34) (v := ?vz34) ?hiz34 (by kernel_rfl) (by kernel_rfl) (by kernel_rfl) ?hQz34 ?hyz34 (by assumption) ?restz34
              case hiz34 => simp only [List.getElem?_toArray, List.getElem?_cons_zero, List.getElem?_cons_succ]; rfl
              case hQz34 => exact fun _ _ _ h => h
              case hyz34 => exact Or.inl ⟨by rfl, by intro w hSw; (try dsimp only at hSw); go_simp; with_reducible rfl⟩
              try simp only [Act.put, List.setIfInBounds_toArray, List.set_cons_zero, List.set_cons_succ]
              refine wpAnyH_take (i := 4) (oi := ?oiz35) (v := ?vz35) ?hiz35 (by kernel_rfl) (by kernel_rfl) (by kernel_rfl) ?hQz35 ?hyz35 (by assumption) ?restz35
              case hiz35 => simp only [List.getElem?_toArray, List.getElem?_cons_zero, List.getElem?_cons_succ]; rfl
              case hQz35 => exact fun _ _ _ h => h
              case hyz35 => exact Or.inl ⟨by rfl, by intro w hSw; (try dsimp only at hSw); go_simp; with_reducible rfl⟩
              try simp only [Act.put, List.setIfInBounds_toArray, List.set_cons_zero, List.set_cons_succ]
              refine wpAnyH_take (i := 5) (oi := ?oiz36) (v := ?vz36) ?hiz36 (by kernel_rfl) (by kernel_rfl) (by kernel_rfl) ?hQz36 ?hyz36 (by assumption) ?restz36
              case hiz36 => simp only [List.getElem?_toArray, List.getElem?_cons_zero, List.getElem?_cons_succ]; rfl
              case hQz36 => exact fun _ _ _ h => h
              case hyz36 => exact Or.inl ⟨by rfl, by intro w hSw; (try dsimp only at hSw); go_simp; with_reducible rfl⟩
              try simp only [Act.put, List.setIfInBounds_toArray, List.set_cons_zero, List.set_cons_succ]
              refine wpAnyH_take (i := 6) (oi := ?oiz37) (v := ?vz37) ?hiz37 (by kernel_rfl) (by kernel_rfl) (by kernel_rfl) ?hQz37 ?hyz37 (by assumption) ?restz37
              case hiz37 => simp only [List.getElem?_toArray, List.getElem?_cons_zero, List.getElem?_cons_succ]; rfl
              case hQz37 => exact fun _ _ _ h => h
              case hyz37 => exact Or.inl ⟨by rfl, by intro w hSw; (try dsimp only at hSw); go_simp; with_reducible rfl⟩
              try simp only [Act.put, List.setIfInBounds_toArray, List.set_cons_zero, List.set_cons_succ]
              refine wpAnyH_take (i := 7) (oi := ?oiz38) (v := ?vz38) ?hiz38 (by kernel_rfl) (by kernel_rfl) (by kernel_rfl) ?hQz38 ?hyz38 (by assumption) ?restz38
              case hiz38 => simp only [List.getElem?_toArray, List.getElem?_cons_zero, List.getElem?_cons_succ]; rfl
              case hQz38 => exact fun _ _ _ h => h
              case hyz38 => exact Or.inl ⟨by rfl, by intro w hSw; (try dsimp only at hSw); go_simp; with_reducible rfl⟩
              try simp only [Act.put, List.setIfInBounds_toArray, List.set_cons_zero, List.set_cons_succ]
              refine wpAnyH_take (i := 8) (oi := ?oiz39) (v := ?vz39) ?hiz39 (by kernel_rfl) (by kernel_rfl) (by kernel_rfl) ?hQz39 ?hyz39 (by assumption) ?restz39
              case hiz39 => simp only [List.getElem?_toArray, List.getElem?_cons_zero, List.getElem?_cons_succ]; rfl
              case hQz39 => exact fun _ _ _ h => h
              case hyz39 => exact Or.inl ⟨by rfl, by intro w hSw; (try dsimp only at hSw); go_simp; with_reducible rfl⟩
              try simp only [Act.put, List.setIfInBounds_toArray, List.set_cons_zero, List.set_cons_succ]
              refine wpAnyH_take (i := 9) (oi := ?oiz40) (v := ?vz40) ?hiz40 (by kernel_rfl) (by kernel_rfl) (by kernel_rfl) ?hQz40 ?hyz40 (by assumption) ?restz40
              case hiz40 => simp only [List.getElem?_toArray, List.getElem?_cons_zero, List.getElem?_cons_succ]; rfl
              case hQz40 => exact fun _ _ _ h => h
              case hyz40 => exact Or.inl ⟨by rfl, by intro w hSw; (try dsimp only at hSw); go_simp; with_reducible rfl⟩
              try simp only [Act.put, List.setIfInBounds_toArray, List.set_cons_zero, List.set_cons_succ]
              refine wpAnyH_take (i := 10) (oi := ?oiz41) (v := ?vz41) ?hiz41 (by kernel_rfl) (by kernel_rfl) (by kernel_rfl) ?hQz41 ?hyz41 (by assumption) ?restz41
              case hiz41 => simp only [List.getElem?_toArray, List.getElem?_cons_zero, List.getElem?_cons_succ]; rfl
              case hQz41 => exact fun _ _ _ h => h
              case hyz41 => exact Or.inl ⟨by rfl, by intro w hSw; (try dsimp only at hSw); go_simp; with_reducible rfl⟩
              try simp only [Act.put, List.setIfInBounds_toArray, List.set_cons_zero, List.set_cons_succ]
              refine wpAnyH_take (i := 11) (oi := ?oiz42) (v := ?vz42) ?hiz42 (by kernel_rfl) (by kernel_rfl) (by kernel_rfl) ?hQz42 ?hyz42 (by assumption) ?restz42
              case hiz42 => simp only [List.getElem?_toArray, List.getElem?_cons_zero, List.getElem?_cons_succ]; rfl
              case hQz42 => exact fun _ _ _ h => h
              case hyz42 => exact Or.inl ⟨by rfl, by intro w hSw; (try dsimp only at hSw); go_simp; with_reducible rfl⟩
              try simp only [Act.put, List.setIfInBounds_toArray, List.set_cons_zero, List.set_cons_succ]
              refine wpAnyH_take (i := 12) (oi := ?oiz43) (v := ?vz43) ?hiz43 (by kernel_rfl) (by kernel_rfl) (by kernel_rfl) ?hQz43 ?hyz43 (by assumption) ?restz43
              case hiz43 => simp only [List.getElem?_toArray, List.getElem?_cons_zero, List.getElem?_cons_succ]; rfl
              case hQz43 => exact fun _ _ _ h => h
              case hyz43 => exact Or.inl ⟨by rfl, by intro w hSw; (try dsimp only at hSw); go_simp; with_reducible rfl⟩
              try simp only [Act.put, List.setIfInBounds_toArray, List.set_cons_zero, List.set_cons_succ]
              refine wpAnyH_take (i := 13) (oi := ?oiz44) (v := ?vz44) ?hiz44 (by kernel_rfl) (by kernel_rfl) (by kernel_rfl) ?hQz44 ?hyz44 (by assumption) ?restz44
              case hiz44 => simp only [List.getElem?_toArray, List.getElem?_cons_zero, List.getElem?_cons_succ]; rfl
              case hQz44 => exact fun _ _ _ h => h
              case hyz44 => exact Or.inl ⟨by rfl, by intro w hSw; (try dsimp only at hSw); go_simp; with_reducible rfl⟩
              try simp only [Act.put, List.setIfInBounds_toArray, List.set_cons_zero, List.set_cons_succ]
              refine wpAnyH_take (i := 14) (oi := ?oiz45) (v := ?vz45) ?hiz45 (by kernel_rfl) (by kernel_rfl) (by kernel_rfl) ?hQz45 ?hyz45 (by assumption) ?restz45
              case hiz45 => simp only [List.getElem?_toArray, List.getElem?_cons_zero, List.getElem?_cons_succ]; rfl
              case hQz45 => exact fun _ _ _ h => h
              case hyz45 => exact Or.inl ⟨by rfl, by intro w hSw; (try dsimp only at hSw); go_simp; with_reducible rfl⟩
              try simp only [Act.put, List.setIfInBounds_toArray, List.set_cons_zero, List.set_cons_succ]
              refine wpAnyH_take (i := 15) (oi := ?oiz46) (v := ?vz46) ?hiz46 (by kernel_rfl) (by kernel_rfl) (by kernel_rfl) ?hQz46 ?hyz46 (by assumption) ?restz46
              case hiz46 => simp only [List.getElem?_toArray, List.getElem?_cons_zero, List.getElem?_cons_succ]; rfl
              case hQz46 => exact fun _ _ _ h => h
              case hyz46 => exact Or.inl ⟨by rfl, by intro w hSw; (try dsimp only at hSw); go_simp; with_reducible rfl⟩
              try simp only [Act.put, List.setIfInBounds_toArray, List.set_cons_zero, List.set_cons_succ]
              refine wpAnyH_take (i := 16) (oi := ?oiz47) (v := ?vz47) ?hiz47 (by kernel_rfl) (by kernel_rfl) (by kernel_rfl) ?hQz47 ?hyz47 (by assumption) ?restz47
              case hiz47 => simp only [List.getElem?_toArray, List.getElem?_cons_zero, List.getElem?_cons_succ]; rfl
              case hQz47 => exact fun _ _ _ h => h
              case hyz47 => exact Or.inl ⟨by rfl, by intro w hSw; (try dsimp only at hSw); go_simp; with_reducible rfl⟩
              try simp only [Act.put, List.setIfInBounds_toArray, List.set_cons_zero, List.set_cons_succ]
              refine wpAnyH_ready (rs := [17]) (by kernel_rfl) (by simp) (AllReadyH.cons (o := ?oy4817) ?hy4817 (fun K hK => ?sy4817) AllReadyH.nil)
              case hy4817 => simp only [List.getElem?_toArray, List.getElem?_cons_zero, List.getElem?_cons_succ]; rfl
              go_simp
              have hH2 := hHeld.alloc (.cells (tChg.enc (⟨a[i].1, true, a[i].2, true, b[k].2⟩ : Chg)).toArray 90)
              refine hK.out _ _ hH2 (fun _ => ?_)
              clear hK K hH2
              try simp only [Act.put, List.setIfInBounds_toArray, List.set_cons_zero, List.set_cons_succ]
              refine wpAnyH_ready (rs := [18]) (by kernel_rfl) (by simp) (AllReadyH.cons (o := ?oy4918) ?hy4918 (fun K hK => ?sy4918) AllReadyH.nil)
              case hy4918 => simp only [List.getElem?_toArray, List.getElem?_cons_zero, List.getElem?_cons_succ]; rfl
              refine stp_append rowChg rfl _ _ rfl (v := .slice C cn cc) rfl (HOz.out.alloc (.cells (tChg.enc (⟨a[i].1, true, a[i].2, true, b[k].2⟩ : Chg)).toArray 90)) _ _ rfl (A := some ⟨wz.heap.size, 0, none⟩) (ys := [(⟨a[i].1, true, a[i].2, true, b[k].2⟩ : Chg)]) rfl (rd_one (T := tChg) wz (⟨a[i].1, true, a[i].2, true, b[k].2⟩ : Chg) HCO.out _) (by intro y hy; obtain rfl := List.mem_singleton.1 hy; exact HCO.out) (by have := HL.out; simp only [List.length_singleton]; omega) (hHeld.alloc _).size ?_
              intro v9 w9 ho1 hg1 hat1
              obtain ⟨C9, n9, c9, rfl⟩ := ho1.shape3
              have hH2 := (HOz.out.alloc (.cells (tChg.enc (⟨a[i].1, true, a[i].2, true, b[k].2⟩ : Chg)).toArray 90)).ext_app (hHeld.alloc _) hg1
              refine hK.out _ _ hH2 (fun _ => ?_)
              have HO9 := Lib.hid ho1
              have HX9 := Lib.hid hH2
              clear hK K ho1 hg1 hat1 hH2 hHeld HOz
              try simp only [Act.put, List.setIfInBounds_toArray, List.set_cons_zero, List.set_cons_succ]
              refine wpAnyH_take (i := 19) (oi := ?oiz50) (v := ?vz50) ?hiz50 (by kernel_rfl) (by kernel_rfl) (by kernel_rfl) ?hQz50 ?hyz50 (by assumption) ?restz50
              case hiz50 => simp only [List.getElem?_toArray, List.getElem?_cons_zero, List.getElem?_cons_succ]; rfl
              case hQz50 => exact fun _ _ _ h => h
              case hyz50 => exact Or.inl ⟨by rfl, by intro w hSw; (try dsimp only at hSw); go_simp; with_reducible rfl⟩
              try simp only [Act.put, List.setIfInBounds_toArray, List.set_cons_zero, List.set_cons_succ]
              refine wpAnyH_done (by kernel_rfl) ?_ _
              go_wp2
              go_roundw
              case rel => exact ⟨i + 1, k + 1, _, by omega, by omega, by go_num, by go_num, HO9.out, by rw [List.append_assoc, List.singleton_append, ← HN.out]; exact HD.out, by have := HLL.out; simp only [List.length_append, List.length_singleton]; omega, HX9.out⟩
              case measure => simp [intOf]; omega
      · have hbe : k = b.length := by omega
        subst hbe
        obtain ⟨ga, oa, hpa, _, hca⟩ := HRa.out.elem HKa.out i ha
        obtain rfl := hpa
        have a0 : ∀ W, Ext w W → W.cell? ⟨ga, oa + i * 2, none⟩ = some (.string a[i].1) := fun W hW => hW.cell (hca 0 _ rfl)
        have a1 : ∀ W, Ext w W → W.cell? ⟨ga, oa + i * 2 + 1, none⟩ = some (.string a[i].2) := fun W hW => hW.cell (hca 1 _ rfl)
        have hao : tEnt.ok a[i] := HKa.out _ (List.getElem_mem ha)
        have a0r := a0 _ HX.out
        have a1r := a1 _ HX.out
        clear hca
        have hi1 : (i : Int) < (a.length : Int) := by omega
        have hi0 : (0 : Int) ≤ (i : Int) := by omega
        have hke : ((b.length : Int) == (b.length : Int)) = true := by simp
        have HCO := Lib.hid (show tChg.ok (⟨a[i].1, true, a[i].2, false, ⟨#[]⟩⟩ : Chg) from ⟨hao.1, hao.2, by show (0 : Nat) ≤ 140737488351232; decide⟩)
        have HN := Lib.hid (chgI_del ha hk (fun h => absurd h (by omega)))
        go_wp2_with fail
        go_quiet (fail)
        go_wp2_with fail
        refine wp_world (w0 := wr) ((Drawn.refl _).drewN _) (fun wq hwq => ?_)
        have HXq := Lib.hid (HX.out.trans hwq.ext)
        have HOq := Lib.hid (HO.out.ext hwq.ext)
        clear hwq
        refine wp_region_held_drew (S := fun W => Ext w W) (by kernel_rfl) HXq.out.drew (fun hHeld => ?_)
        have HOz := Lib.hid (show Own tChg 90 wq.drew w.heap.size (.slice C cn cc) done from HOq.out)
        generalize wq.drew = wz at hHeld HOz ⊢
        refine wpAnyH_take (i := 0) (oi := ?oiz51) (v := ?vz51) ?hiz51 (by kernel_rfl) (by kernel_rfl) (by kernel_rfl) ?hQz51 ?hyz51 (by assumption) ?restz51
        case hiz51 => simp only [List.getElem?_toArray, List.getElem?_cons_zero, List.getElem?_cons_succ]; rfl
        case hQz51 => exact fun _ _ _ h => h
        case hyz51 => exact Or.inl ⟨by rfl, by intro w hSw; (try dsimp only at hSw); go_simp; with_reducible rfl⟩
        try simp only [Act.put, List.setIfInBounds_toArray, List.set_cons_zero, List.set_cons_succ]
        refine wpAnyH_take (i := 1) (oi := ?oiz52) (v := ?vz52) ?hiz52 (by kernel_rfl) (by kernel_rfl) (by kernel_rfl) ?hQz52 ?hyz52 (by assumption) ?restz52
        case hiz52 => simp only [List.getElem?_toArray, List.getElem?_cons_zero, List.getElem?_cons_succ]; rfl
        case hQz52 => exact fun _ _ _ h => h
        case hyz52 => exact Or.inl ⟨by rfl, by intro w hSw; (try dsimp only at hSw); go_simp; with_reducible rfl⟩
        try simp only [Act.put, List.setIfInBounds_toArray, List.set_cons_zero, List.set_cons_succ]
        refine wpAnyH_take (i := 2) (oi := ?oiz53) (v := ?vz53) ?hiz53 (by kernel_rfl) (by kernel_rfl) (by kernel_rfl) ?hQz53 ?hyz53 (by assumption) ?restz53
        case hiz53 => simp only [List.getElem?_toArray, List.getElem?_cons_zero, List.getElem?_cons_succ]; rfl
        case hQz53 => exact fun _ _ _ h => h
        case hyz53 => exact Or.inl ⟨by rfl, by intro w hSw; (try dsimp only at hSw); go_simp; with_reducible rfl⟩
        try simp only [Act.put, List.setIfInBounds_toArray, List.set_cons_zero, List.set_cons_succ]
        refine wpAnyH_take (i := 3) (oi := ?oiz54) (v := ?vz54) ?hiz54 (by kernel_rfl) (by kernel_rfl) (by kernel_rfl) ?hQz54 ?hyz54 (by assumption) ?restz54
        case hiz54 => simp only [List.getElem?_toArray, List.getElem?_cons_zero, List.getElem?_cons_succ]; rfl
        case hQz54 => exact fun _ _ _ h => h
        case hyz54 => exact Or.inl ⟨by rfl, by intro w hSw; (try dsimp only at hSw); go_simp; with_reducible rfl⟩
        try simp only [Act.put, List.setIfInBounds_toArray, List.set_cons_zero, List.set_cons_succ]
        refine wpAnyH_take (i := 4) (oi := ?oiz55) (v := ?vz55) ?hiz55 (by kernel_rfl) (by kernel_rfl) (by kernel_rfl) ?hQz55 ?hyz55 (by assumption) ?restz55
        case hiz55 => simp only [List.getElem?_toArray, List.getElem?_cons_zero, List.getElem?_cons_succ]; rfl
        case hQz55 => exact fun _ _ _ h => h
        case hyz55 => exact Or.inl ⟨by rfl, by intro w hSw; (try dsimp only at hSw); go_simp; with_reducible rfl⟩
        try simp only [Act.put, List.setIfInBounds_toArray, List.set_cons_zero, List.set_cons_succ]
        refine wpAnyH_take (i := 5) (oi := ?oiz56) (v := ?vz56) ?hiz56 (by kernel_rfl) (by kernel_rfl) (by kernel_rfl) ?hQz56 ?hyz56 (by assumption) ?restz56
        case hiz56 => simp only [List.getElem?_toArray, List.getElem?_cons_zero, List.getElem?_cons_succ]; rfl
        case hQz56 => exact fun _ _ _ h => h
        case hyz56 => exact Or.inl ⟨by rfl, by intro w hSw; (try dsimp only at hSw); go_simp; with_reducible rfl⟩
        try simp only [Act.put, List.setIfInBounds_toArray, List.set_cons_zero, List.set_cons_succ]
        refine wpAnyH_take (i := 6) (oi := ?oiz57) (v := ?vz57) ?hiz57 (by kernel_rfl) (by kernel_rfl) (by kernel_rfl) ?hQz57 ?hyz57 (by assumption) ?restz57
        case hiz57 => simp only [List.getElem?_toArray, List.getElem?_cons_zero, List.getElem?_cons_succ]; rfl
        case hQz57 => exact fun _ _ _ h => h
        case hyz57 => exact Or.inl ⟨by rfl, by intro w hSw; (try dsimp only at hSw); go_simp; with_reducible rfl⟩
        try simp only [Act.put, List.setIfInBounds_toArray, List.set_cons_zero, List.set_cons_succ]
        refine wpAnyH_take (i := 7) (oi := ?oiz58) (v := ?vz58) ?hiz58 (by kernel_rfl) (by kernel_rfl) (by kernel_rfl) ?hQz58 ?hyz58 (by assumption) ?restz58
        case hiz58 => simp only [List.getElem?_toArray, List.getElem?_cons_zero, List.getElem?_cons_succ]; rfl
        case hQz58 => exact fun _ _ _ h => h
        case hyz58 => exact Or.inl ⟨by rfl, by intro w hSw; (try dsimp only at hSw); go_simp; with_reducible rfl⟩
        try simp only [Act.put, List.setIfInBounds_toArray, List.set_cons_zero, List.set_cons_succ]
        refine wpAnyH_take (i := 8) (oi := ?oiz59) (v := ?vz59) ?hiz59 (by kernel_rfl) (by kernel_rfl) (by kernel_rfl) ?hQz59 ?hyz59 (by assumption) ?restz59
        case hiz59 => simp only [List.getElem?_toArray, List.getElem?_cons_zero, List.getElem?_cons_succ]; rfl
        case hQz59 => exact fun _ _ _ h => h
        case hyz59 => exact Or.inl ⟨by rfl, by intro w hSw; (try dsimp only at hSw); go_simp; with_reducible rfl⟩
        try simp only [Act.put, List.setIfInBounds_toArray, List.set_cons_zero, List.set_cons_succ]
        refine wpAnyH_take (i := 9) (oi := ?oiz60) (v := ?vz60) ?hiz60 (by kernel_rfl) (by kernel_rfl) (by kernel_rfl) ?hQz60 ?hyz60 (by assumption) ?restz60
        case hiz60 => simp only [List.getElem?_toArray, List.getElem?_cons_zero, List.getElem?_cons_succ]; rfl
        case hQz60 => exact fun _ _ _ h => h
        case hyz60 => exact Or.inl ⟨by rfl, by intro w hSw; (try dsimp only at hSw); go_simp; with_reducible rfl⟩
        try simp only [Act.put, List.setIfInBounds_toArray, List.set_cons_zero, List.set_cons_succ]
        refine wpAnyH_take (i := 10) (oi := ?oiz61) (v := ?vz61) ?hiz61 (by kernel_rfl) (by kernel_rfl) (by kernel_rfl) ?hQz61 ?hyz61 (by assumption) ?restz61
        case hiz61 => simp only [List.getElem?_toArray, List.getElem?_cons_zero, List.getElem?_cons_succ]; rfl
        case hQz61 => exact fun _ _ _ h => h
        case hyz61 => exact Or.inl ⟨by rfl, by intro w hSw; (try dsimp only at hSw); go_simp; with_reducible rfl⟩
        try simp only [Act.put, List.setIfInBounds_toArray, List.set_cons_zero, List.set_cons_succ]
        refine wpAnyH_take (i := 11) (oi := ?oiz62) (v := ?vz62) ?hiz62 (by kernel_rfl) (by kernel_rfl) (by kernel_rfl) ?hQz62 ?hyz62 (by assumption) ?restz62
        case hiz62 => simp only [List.getElem?_toArray, List.getElem?_cons_zero, List.getElem?_cons_succ]; rfl
        case hQz62 => exact fun _ _ _ h => h
        case hyz62 => exact Or.inl ⟨by rfl, by intro w hSw; (try dsimp only at hSw); go_simp; with_reducible rfl⟩
        try simp only [Act.put, List.setIfInBounds_toArray, List.set_cons_zero, List.set_cons_succ]
        refine wpAnyH_ready (rs := [12]) (by kernel_rfl) (by simp) (AllReadyH.cons (o := ?oy6312) ?hy6312 (fun K hK => ?sy6312) AllReadyH.nil)
        case hy6312 => simp only [List.getElem?_toArray, List.getElem?_cons_zero, List.getElem?_cons_succ]; rfl
        go_simp
        have hH2 := hHeld.alloc (.cells (tChg.enc (⟨a[i].1, true, a[i].2, false, ⟨#[]⟩⟩ : Chg)).toArray 90)
        refine hK.out _ _ hH2 (fun _ => ?_)
        clear hK K hH2
        try simp only [Act.put, List.setIfInBounds_toArray, List.set_cons_zero, List.set_cons_succ]
        refine wpAnyH_ready (rs := [13]) (by kernel_rfl) (by simp) (AllReadyH.cons (o := ?oy6413) ?hy6413 (fun K hK => ?sy6413) AllReadyH.nil)
        case hy6413 => simp only [List.getElem?_toArray, List.getElem?_cons_zero, List.getElem?_cons_succ]; rfl
        refine stp_append rowChg rfl _ _ rfl (v := .slice C cn cc) rfl (HOz.out.alloc (.cells (tChg.enc (⟨a[i].1, true, a[i].2, false, ⟨#[]⟩⟩ : Chg)).toArray 90)) _ _ rfl (A := some ⟨wz.heap.size, 0, none⟩) (ys := [(⟨a[i].1, true, a[i].2, false, ⟨#[]⟩⟩ : Chg)]) rfl (rd_one (T := tChg) wz (⟨a[i].1, true, a[i].2, false, ⟨#[]⟩⟩ : Chg) HCO.out _) (by intro y hy; obtain rfl := List.mem_singleton.1 hy; exact HCO.out) (by have := HL.out; simp only [List.length_singleton]; omega) (hHeld.alloc _).size ?_
        intro v9 w9 ho1 hg1 hat1
        obtain ⟨C9, n9, c9, rfl⟩ := ho1.shape3
        have hH2 := (HOz.out.alloc (.cells (tChg.enc (⟨a[i].1, true, a[i].2, false, ⟨#[]⟩⟩ : Chg)).toArray 90)).ext_app (hHeld.alloc _) hg1
        refine hK.out _ _ hH2 (fun _ => ?_)
        have HO9 := Lib.hid ho1
        have HX9 := Lib.hid hH2
        clear hK K ho1 hg1 hat1 hH2 hHeld HOz
        try simp only [Act.put, List.setIfInBounds_toArray, List.set_cons_zero, List.set_cons_succ]
        refine wpAnyH_take (i := 14) (oi := ?oiz65) (v := ?vz65) ?hiz65 (by kernel_rfl) (by kernel_rfl) (by kernel_rfl) ?hQz65 ?hyz65 (by assumption) ?restz65
        case hiz65 => simp only [List.getElem?_toArray, List.getElem?_cons_zero, List.getElem?_cons_succ]; rfl
        case hQz65 => exact fun _ _ _ h => h
        case hyz65 => exact Or.inl ⟨by rfl, by intro w hSw; (try dsimp only at hSw); go_simp; with_reducible rfl⟩
        try simp only [Act.put, List.setIfInBounds_toArray, List.set_cons_zero, List.set_cons_succ]
        refine wpAnyH_done (by kernel_rfl) ?_ _
        go_wp2
        go_roundw
        case rel => exact ⟨i + 1, b.length, _, by omega, by omega, by go_num, by go_num, HO9.out, by rw [List.append_assoc, List.singleton_append, ← HN.out]; exact HD.out, by have := HLL.out; simp only [List.length_append, List.length_singleton]; omega, HX9.out⟩
        case measure => simp [intOf]; omega
    · have hae : i = a.length := by omega
      subst hae
      by_cases hb : k < b.length
      · obtain ⟨gb, ob, hpb, _, hcb⟩ := HRb.out.elem HKb.out k hb
        obtain rfl := hpb
        have b0 : ∀ W, Ext w W → W.cell? ⟨gb, ob + k * 2, none⟩ = some (.string b[k].1) := fun W hW => hW.cell (hcb 0 _ rfl)
        have b1 : ∀ W, Ext w W → W.cell? ⟨gb, ob + k * 2 + 1, none⟩ = some (.string b[k].2) := fun W hW => hW.cell (hcb 1 _ rfl)
        have hbo : tEnt.ok b[k] := HKb.out _ (List.getElem_mem hb)
        have b0r := b0 _ HX.out
        have b1r := b1 _ HX.out
        clear hcb
        have hk1 : (k : Int) < (b.length : Int) := by omega
        have hk0 : (0 : Int) ≤ (k : Int) := by omega
        have hke : ((k : Int) == (b.length : Int)) = false := by rw [beq_eq_false_iff_ne]; omega
        have hie : ((a.length : Int) == (a.length : Int)) = true := by simp
        have HCO := Lib.hid (show tChg.ok (⟨b[k].1, false, ⟨#[]⟩, true, b[k].2⟩ : Chg) from ⟨hbo.1, by show (0 : Nat) ≤ 140737488351232; decide, hbo.2⟩)
        have HN := Lib.hid (chgI_add hi hb (fun h => absurd h (by omega)))
        go_wp2_with fail
        go_quiet (fail)
        go_wp2_with fail
        go_quiet (fail)
        go_wp2_with fail
        refine wp_world (w0 := wr) (((Drawn.refl _).drewN _).drewN _) (fun wq hwq => ?_)
        have HXq := Lib.hid (HX.out.trans hwq.ext)
        have HOq := Lib.hid (HO.out.ext hwq.ext)
        clear hwq
        refine wp_region_held_drew (S := fun W => Ext w W) (by kernel_rfl) HXq.out.drew (fun hHeld => ?_)
        have HOz := Lib.hid (show Own tChg 90 wq.drew w.heap.size (.slice C cn cc) done from HOq.out)
        generalize wq.drew = wz at hHeld HOz ⊢
        refine wpAnyH_take (i := 0) (oi := ?oiz66) (v := ?vz66) ?hiz66 (by kernel_rfl) (by kernel_rfl) (by kernel_rfl) ?hQz66 ?hyz66 (by assumption) ?restz66
        case hiz66 => simp only [List.getElem?_toArray, List.getElem?_cons_zero, List.getElem?_cons_succ]; rfl
        case hQz66 => exact fun _ _ _ h => h
        case hyz66 => exact Or.inl ⟨by rfl, by intro w hSw; (try dsimp only at hSw); go_simp; with_reducible rfl⟩
        try simp only [Act.put, List.setIfInBounds_toArray, List.set_cons_zero, List.set_cons_succ]
        refine wpAnyH_take (i := 1) (oi := ?oiz67) (v := ?vz67) ?hiz67 (by kernel_rfl) (by kernel_rfl) (by kernel_rfl) ?hQz67 ?hyz67 (by assumption) ?restz67
        case hiz67 => simp only [List.getElem?_toArray, List.getElem?_cons_zero, List.getElem?_cons_succ]; rfl
        case hQz67 => exact fun _ _ _ h => h
        case hyz67 => exact Or.inl ⟨by rfl, by intro w hSw; (try dsimp only at hSw); go_simp; with_reducible rfl⟩
        try simp only [Act.put, List.setIfInBounds_toArray, List.set_cons_zero, List.set_cons_succ]
        refine wpAnyH_take (i := 2) (oi := ?oiz68) (v := ?vz68) ?hiz68 (by kernel_rfl) (by kernel_rfl) (by kernel_rfl) ?hQz68 ?hyz68 (by assumption) ?restz68
        case hiz68 => simp only [List.getElem?_toArray, List.getElem?_cons_zero, List.getElem?_cons_succ]; rfl
        case hQz68 => exact fun _ _ _ h => h
        case hyz68 => exact Or.inl ⟨by rfl, by intro w hSw; (try dsimp only at hSw); go_simp; with_reducible rfl⟩
        try simp only [Act.put, List.setIfInBounds_toArray, List.set_cons_zero, List.set_cons_succ]
        refine wpAnyH_take (i := 3) (oi := ?oiz69) (v := ?vz69) ?hiz69 (by kernel_rfl) (by kernel_rfl) (by kernel_rfl) ?hQz69 ?hyz69 (by assumption) ?restz69
        case hiz69 => simp only [List.getElem?_toArray, List.getElem?_cons_zero, List.getElem?_cons_succ]; rfl
        case hQz69 => exact fun _ _ _ h => h
        case hyz69 => exact Or.inl ⟨by rfl, by intro w hSw; (try dsimp only at hSw); go_simp; with_reducible rfl⟩
        try simp only [Act.put, List.setIfInBounds_toArray, List.set_cons_zero, List.set_cons_succ]
        refine wpAnyH_take (i := 4) (oi := ?oiz70) (v := ?vz70) ?hiz70 (by kernel_rfl) (by kernel_rfl) (by kernel_rfl) ?hQz70 ?hyz70 (by assumption) ?restz70
        case hiz70 => simp only [List.getElem?_toArray, List.getElem?_cons_zero, List.getElem?_cons_succ]; rfl
        case hQz70 => exact fun _ _ _ h => h
        case hyz70 => exact Or.inl ⟨by rfl, by intro w hSw; (try dsimp only at hSw); go_simp; with_reducible rfl⟩
        try simp only [Act.put, List.setIfInBounds_toArray, List.set_cons_zero, List.set_cons_succ]
        refine wpAnyH_take (i := 5) (oi := ?oiz71) (v := ?vz71) ?hiz71 (by kernel_rfl) (by kernel_rfl) (by kernel_rfl) ?hQz71 ?hyz71 (by assumption) ?restz71
        case hiz71 => simp only [List.getElem?_toArray, List.getElem?_cons_zero, List.getElem?_cons_succ]; rfl
        case hQz71 => exact fun _ _ _ h => h
        case hyz71 => exact Or.inl ⟨by rfl, by intro w hSw; (try dsimp only at hSw); go_simp; with_reducible rfl⟩
        try simp only [Act.put, List.setIfInBounds_toArray, List.set_cons_zero, List.set_cons_succ]
        refine wpAnyH_take (i := 6) (oi := ?oiz72) (v := ?vz72) ?hiz72 (by kernel_rfl) (by kernel_rfl) (by kernel_rfl) ?hQz72 ?hyz72 (by assumption) ?restz72
        case hiz72 => simp only [List.getElem?_toArray, List.getElem?_cons_zero, List.getElem?_cons_succ]; rfl
        case hQz72 => exact fun _ _ _ h => h
        case hyz72 => exact Or.inl ⟨by rfl, by intro w hSw; (try dsimp only at hSw); go_simp; with_reducible rfl⟩
        try simp only [Act.put, List.setIfInBounds_toArray, List.set_cons_zero, List.set_cons_succ]
        refine wpAnyH_take (i := 7) (oi := ?oiz73) (v := ?vz73) ?hiz73 (by kernel_rfl) (by kernel_rfl) (by kernel_rfl) ?hQz73 ?hyz73 (by assumption) ?restz73
        case hiz73 => simp only [List.getElem?_toArray, List.getElem?_cons_zero, List.getElem?_cons_succ]; rfl
        case hQz73 => exact fun _ _ _ h => h
        case hyz73 => exact Or.inl ⟨by rfl, by intro w hSw; (try dsimp only at hSw); go_simp; with_reducible rfl⟩
        try simp only [Act.put, List.setIfInBounds_toArray, List.set_cons_zero, List.set_cons_succ]
        refine wpAnyH_take (i := 8) (oi := ?oiz74) (v := ?vz74) ?hiz74 (by kernel_rfl) (by kernel_rfl) (by kernel_rfl) ?hQz74 ?hyz74 (by assumption) ?restz74
        case hiz74 => simp only [List.getElem?_toArray, List.getElem?_cons_zero, List.getElem?_cons_succ]; rfl
        case hQz74 => exact fun _ _ _ h => h
        case hyz74 => exact Or.inl ⟨by rfl, by intro w hSw; (try dsimp only at hSw); go_simp; with_reducible rfl⟩
        try simp only [Act.put, List.setIfInBounds_toArray, List.set_cons_zero, List.set_cons_succ]
        refine wpAnyH_take (i := 9) (oi := ?oiz75) (v := ?vz75) ?hiz75 (by kernel_rfl) (by kernel_rfl) (by kernel_rfl) ?hQz75 ?hyz75 (by assumption) ?restz75
        case hiz75 => simp only [List.getElem?_toArray, List.getElem?_cons_zero, List.getElem?_cons_succ]; rfl
        case hQz75 => exact fun _ _ _ h => h
        case hyz75 => exact Or.inl ⟨by rfl, by intro w hSw; (try dsimp only at hSw); go_simp; with_reducible rfl⟩
        try simp only [Act.put, List.setIfInBounds_toArray, List.set_cons_zero, List.set_cons_succ]
        refine wpAnyH_take (i := 10) (oi := ?oiz76) (v := ?vz76) ?hiz76 (by kernel_rfl) (by kernel_rfl) (by kernel_rfl) ?hQz76 ?hyz76 (by assumption) ?restz76
        case hiz76 => simp only [List.getElem?_toArray, List.getElem?_cons_zero, List.getElem?_cons_succ]; rfl
        case hQz76 => exact fun _ _ _ h => h
        case hyz76 => exact Or.inl ⟨by rfl, by intro w hSw; (try dsimp only at hSw); go_simp; with_reducible rfl⟩
        try simp only [Act.put, List.setIfInBounds_toArray, List.set_cons_zero, List.set_cons_succ]
        refine wpAnyH_take (i := 11) (oi := ?oiz77) (v := ?vz77) ?hiz77 (by kernel_rfl) (by kernel_rfl) (by kernel_rfl) ?hQz77 ?hyz77 (by assumption) ?restz77
        case hiz77 => simp only [List.getElem?_toArray, List.getElem?_cons_zero, List.getElem?_cons_succ]; rfl
        case hQz77 => exact fun _ _ _ h => h
        case hyz77 => exact Or.inl ⟨by rfl, by intro w hSw; (try dsimp only at hSw); go_simp; with_reducible rfl⟩
        try simp only [Act.put, List.setIfInBounds_toArray, List.set_cons_zero, List.set_cons_succ]
        refine wpAnyH_ready (rs := [12]) (by kernel_rfl) (by simp) (AllReadyH.cons (o := ?oy7812) ?hy7812 (fun K hK => ?sy7812) AllReadyH.nil)
        case hy7812 => simp only [List.getElem?_toArray, List.getElem?_cons_zero, List.getElem?_cons_succ]; rfl
        go_simp
        have hH2 := hHeld.alloc (.cells (tChg.enc (⟨b[k].1, false, ⟨#[]⟩, true, b[k].2⟩ : Chg)).toArray 90)
        refine hK.out _ _ hH2 (fun _ => ?_)
        clear hK K hH2
        try simp only [Act.put, List.setIfInBounds_toArray, List.set_cons_zero, List.set_cons_succ]
        refine wpAnyH_ready (rs := [13]) (by kernel_rfl) (by simp) (AllReadyH.cons (o := ?oy7913) ?hy7913 (fun K hK => ?sy7913) AllReadyH.nil)
        case hy7913 => simp only [List.getElem?_toArray, List.getElem?_cons_zero, List.getElem?_cons_succ]; rfl
        refine stp_append rowChg rfl _ _ rfl (v := .slice C cn cc) rfl (HOz.out.alloc (.cells (tChg.enc (⟨b[k].1, false, ⟨#[]⟩, true, b[k].2⟩ : Chg)).toArray 90)) _ _ rfl (A := some ⟨wz.heap.size, 0, none⟩) (ys := [(⟨b[k].1, false, ⟨#[]⟩, true, b[k].2⟩ : Chg)]) rfl (rd_one (T := tChg) wz (⟨b[k].1, false, ⟨#[]⟩, true, b[k].2⟩ : Chg) HCO.out _) (by intro y hy; obtain rfl := List.mem_singleton.1 hy; exact HCO.out) (by have := HL.out; simp only [List.length_singleton]; omega) (hHeld.alloc _).size ?_
        intro v9 w9 ho1 hg1 hat1
        obtain ⟨C9, n9, c9, rfl⟩ := ho1.shape3
        have hH2 := (HOz.out.alloc (.cells (tChg.enc (⟨b[k].1, false, ⟨#[]⟩, true, b[k].2⟩ : Chg)).toArray 90)).ext_app (hHeld.alloc _) hg1
        refine hK.out _ _ hH2 (fun _ => ?_)
        have HO9 := Lib.hid ho1
        have HX9 := Lib.hid hH2
        clear hK K ho1 hg1 hat1 hH2 hHeld HOz
        try simp only [Act.put, List.setIfInBounds_toArray, List.set_cons_zero, List.set_cons_succ]
        refine wpAnyH_take (i := 14) (oi := ?oiz80) (v := ?vz80) ?hiz80 (by kernel_rfl) (by kernel_rfl) (by kernel_rfl) ?hQz80 ?hyz80 (by assumption) ?restz80
        case hiz80 => simp only [List.getElem?_toArray, List.getElem?_cons_zero, List.getElem?_cons_succ]; rfl
        case hQz80 => exact fun _ _ _ h => h
        case hyz80 => exact Or.inl ⟨by rfl, by intro w hSw; (try dsimp only at hSw); go_simp; with_reducible rfl⟩
        try simp only [Act.put, List.setIfInBounds_toArray, List.set_cons_zero, List.set_cons_succ]
        refine wpAnyH_done (by kernel_rfl) ?_ _
        go_wp2
        go_roundw
        case rel => exact ⟨a.length, k + 1, _, by omega, by omega, by go_num, by go_num, HO9.out, by rw [List.append_assoc, List.singleton_append, ← HN.out]; exact HD.out, by have := HLL.out; simp only [List.length_append, List.length_singleton]; omega, HX9.out⟩
        case measure => simp [intOf]; omega
      · have hbe : k = b.length := by omega
        subst hbe
        rw [chgI_end, List.append_nil] at HD
        go_wp2
        go_ret
        exact ⟨_, rfl, by rw [← HD.out]; exact HO.out, HX.out⟩
end Go.Proofs.Ytmndkbheehcoaaa
/- The changes between two maps: the program. No condition. -/
namespace Go.Proofs.Ytmndkbheehcoaaa
open Go.RowKit
set_option linter.unusedVariables false
set_option linter.unusedSimpArgs false

theorem RdL.step {w : World} {S : Nat → Prop} {g o c n : Nat} {xs : List En} (h : RdL tEnt w S (.slice (some ⟨g, o, none⟩) n c) xs) (hn : 0 < n) : RdL tEnt w S (.slice (if c = 1 then some ⟨g, o, none⟩ else some ⟨g, o + 2, none⟩) (n - 1) (c - 1)) (xs.drop 1) := by
  obtain ⟨A', c', e, _⟩ := id h
  obtain ⟨e1, rfl, e3⟩ := Value.slice.inj e
  have := h.cut (k := 1) (by omega)
  have e4 : (if c = 1 then (some ⟨g, o, none⟩ : Option Addr) else (some (⟨g, o, none⟩ : Addr)).map (·.add (1 * tEnt.sz))) = if c = 1 then some ⟨g, o, none⟩ else some ⟨g, o + 2, none⟩ := by
    split
    · rfl
    · simp [Addr.add_lit, tEnt]
  rw [e4] at this
  exact this
theorem RdL.first {w : World} {S : Nat → Prop} {A : Option Addr} {c n : Nat} {xs : List En} (h : RdL tEnt w S (.slice A n c) xs) (hn : 0 < n) : n = xs.length ∧ n ≤ c ∧ ∃ g o, A = some ⟨g, o, none⟩ ∧ ∀ h0 : 0 < xs.length, ∀ W, Ext w W → W.cell? ⟨g, o, none⟩ = some (.string xs[0].1) ∧ W.cell? ⟨g, o + 1, none⟩ = some (.string xs[0].2) := by
  obtain ⟨A', c', e, h1, h2, h3, h4⟩ := id h
  obtain ⟨rfl, rfl, rfl⟩ := Value.slice.inj e
  obtain ⟨g, o, hp, _, hc⟩ := h3.elem h4 0 hn
  refine ⟨rfl, h1, g, o, hp, fun h0 W hW => ⟨hW.cell ?_, hW.cell ?_⟩⟩
  · have := hc 0 (.string xs[0].1) rfl
    have e : o + 0 * tEnt.sz + 0 = o := by rw [Nat.zero_mul]; rfl
    rwa [e] at this
  · have := hc 1 (.string xs[0].2) rfl
    have e : o + 0 * tEnt.sz + 1 = o + 1 := by rw [Nat.zero_mul]
    rwa [e] at this
set_option maxHeartbeats 1000000 in
set_option maxRecDepth 100000 in
theorem changes_any (v u : Value) (a b : List En) (h64a : a.length ≤ 64) (h64b : b.length ≤ 64) (w : World) (S S' : Nat → Prop) (h : RdL tEnt w S v a) (h' : RdL tEnt w S' u b) :
    Calls Try.prog 96 #[v, u] w fun e w' => ∃ v', e = .returned v' ∧ Own tChg 90 w' w.heap.size v' (chgI a b 0 0) ∧ Ext w w' := by
  have HKa := Lib.hid (show ∀ x ∈ a, tEnt.ok x from h.choose_spec.choose_spec.2.2.2.2)
  have HKb := Lib.hid (show ∀ x ∈ b, tEnt.ok x from h'.choose_spec.choose_spec.2.2.2.2)
  have HA := Lib.hid h
  have HB := Lib.hid h'
  obtain ⟨A, capa, rfl, hcapa, _⟩ := h
  obtain ⟨B, capb, rfl, hcapb, _⟩ := h'
  obtain ⟨R, hR⟩ : ∃ R, chgI a b 0 0 = R := ⟨_, rfl⟩
  rw [hR]
  have HR := Lib.hid hR
  clear hR
  go_enter Try.func96, Try.ntmps96
  go_wp2_with fail
  go_loopw [0, 1, 5] (fun va vb o wr => ∃ (i k : Nat) (done : List Chg) (A1 B1 : Option Addr) (c1 d1 : Nat), i ≤ a.length ∧ k ≤ b.length ∧ va = .slice A1 (a.length - i) c1 ∧ vb = .slice B1 (b.length - k) d1 ∧ RdL tEnt w S (.slice A1 (a.length - i) c1) (a.drop i) ∧ RdL tEnt w S' (.slice B1 (b.length - k) d1) (b.drop k) ∧ Own tChg 90 wr w.heap.size o done ∧ done ++ chgI a b i k = R ∧ done.length ≤ i + k ∧ Ext w wr) (fun va vb _ _ => lenV va + lenV vb)
  case atStart => exact ⟨0, 0, [], A, B, capa, capb, by omega, by omega, rfl, rfl, HA.out, HB.out, Own.empty tChg _ 90 _ (Nat.le_refl _), HR.out, by simp, ext_alloc _ _⟩
  case round =>
    obtain ⟨i, k, done, A1, B1, c1, d1, hi, hk, rfl, rfl, hra, hrb, ho, hd, hl, hx⟩ := hrel
    obtain ⟨C, cn, cc, rfl⟩ := ho.shape3
    have HX := Lib.hid hx
    have HO := Lib.hid ho
    have HD := Lib.hid hd
    have HRa := Lib.hid hra
    have HRb := Lib.hid hrb
    have HL := Lib.hid (show done.length ≤ 128 by omega)
    have HLL := Lib.hid hl
    clear hx ho hd hl HR hra hrb HA HB
    generalize hna : a.length - i = na at HRa ⊢
    generalize hnb : b.length - k = nb at HRb ⊢
    have HNA := Lib.hid hna
    have HNB := Lib.hid hnb
    clear hna hnb
    by_cases ha : 0 < na
    · by_cases hb : 0 < nb
      · have hila : i < a.length := by have := HNA.out; omega
        have hda : (a.drop i)[0]'(by rw [List.length_drop]; omega) = a[i] := by simp
        obtain ⟨hnx, hca, ga, oa, hpa, hcell⟩ := HRa.out.first ha
        clear hnx
        obtain rfl := hpa
        have hcl := hcell (by rw [List.length_drop]; omega)
        rw [hda] at hcl
        have a0 : ∀ W, Ext w W → W.cell? ⟨ga, oa, none⟩ = some (.string a[i].1) := fun W hW => (hcl W hW).1
        have a1 : ∀ W, Ext w W → W.cell? ⟨ga, oa + 1, none⟩ = some (.string a[i].2) := fun W hW => (hcl W hW).2
        have hao : tEnt.ok a[i] := HKa.out _ (List.getElem_mem hila)
        have a0r := a0 _ HX.out
        have a1r := a1 _ HX.out
        have HSa := Lib.hid (show RdL tEnt w S (.slice (if c1 = 1 then some ⟨ga, oa, none⟩ else some ⟨ga, oa + 2, none⟩) (na - 1) (c1 - 1)) (a.drop (i + 1)) by have := HRa.out.step ha; rwa [List.drop_drop] at this)
        have ha1 : (1 : Int) ≤ (na : Int) := by omega
        have ha2 : (na : Int) ≤ (c1 : Int) := by omega
        have ha3 : (0 : Int) < (na : Int) := by omega
        have hae : ((na : Int) == 0) = false := by rw [beq_eq_false_iff_ne]; omega
        clear hcell hcl hda hca
        have hilb : k < b.length := by have := HNB.out; omega
        have hdb : (b.drop k)[0]'(by rw [List.length_drop]; omega) = b[k] := by simp
        obtain ⟨hnx, hcb, gb, ob, hpb, hcell⟩ := HRb.out.first hb
        clear hnx
        obtain rfl := hpb
        have hcl := hcell (by rw [List.length_drop]; omega)
        rw [hdb] at hcl
        have b0 : ∀ W, Ext w W → W.cell? ⟨gb, ob, none⟩ = some (.string b[k].1) := fun W hW => (hcl W hW).1
        have b1 : ∀ W, Ext w W → W.cell? ⟨gb, ob + 1, none⟩ = some (.string b[k].2) := fun W hW => (hcl W hW).2
        have hbo : tEnt.ok b[k] := HKb.out _ (List.getElem_mem hilb)
        have b0r := b0 _ HX.out
        have b1r := b1 _ HX.out
        have HSb := Lib.hid (show RdL tEnt w S' (.slice (if d1 = 1 then some ⟨gb, ob, none⟩ else some ⟨gb, ob + 2, none⟩) (nb - 1) (d1 - 1)) (b.drop (k + 1)) by have := HRb.out.step hb; rwa [List.drop_drop] at this)
        have hb1 : (1 : Int) ≤ (nb : Int) := by omega
        have hb2 : (nb : Int) ≤ (d1 : Int) := by omega
        have hb3 : (0 : Int) < (nb : Int) := by omega
        have hbe : ((nb : Int) == 0) = false := by rw [beq_eq_false_iff_ne]; omega
        clear hcell hcl hdb hcb
        have q1 := ltB_eq a[i].1 b[k].1
        have q2 := ltB_eq b[k].1 a[i].1
        cases h1 : ltB a[i].1 b[k].1 with
        | true =>
          rw [h1] at q1
          have HCO := Lib.hid (show tChg.ok (⟨a[i].1, true, a[i].2, false, ⟨#[]⟩⟩ : Chg) from ⟨hao.1, hao.2, by show (0 : Nat) ≤ 140737488351232; decide⟩)
          have HN := Lib.hid (chgI_del hila hk (fun _ => h1))
          go_wp2_with fail
          go_quiet (fail)
          go_wp2_with fail
          refine wp_world (w0 := wr) ((Drawn.refl _).drewN _) (fun wq hwq => ?_)
          have HXq := Lib.hid (HX.out.trans hwq.ext)
          have HOq := Lib.hid (HO.out.ext hwq.ext)
          clear hwq
          refine wp_region_held_drew (S := fun W => Ext w W) (by kernel_rfl) HXq.out.drew (fun hHeld => ?_)
          have HOz := Lib.hid (show Own tChg 90 wq.drew w.heap.size (.slice C cn cc) done from HOq.out)
          generalize wq.drew = wz at hHeld HOz ⊢
          refine wpAnyH_take (i := 0) (oi := ?oiz81) (v := ?vz81) ?hiz81 (by kernel_rfl) (by kernel_rfl) (by kernel_rfl) ?hQz81 ?hyz81 (by assumption) ?restz81
          case hiz81 => simp only [List.getElem?_toArray, List.getElem?_cons_zero, List.getElem?_cons_succ]; rfl
          case hQz81 => exact fun _ _ _ h => h
          case hyz81 => exact Or.inl ⟨by rfl, by intro w hSw; (try dsimp only at hSw); go_simp; with_reducible rfl⟩
          try simp only [Act.put, List.setIfInBounds_toArray, List.set_cons_zero, List.set_cons_succ]
          refine wpAnyH_take (i := 1) (oi := ?oiz82) (v := ?vz82) ?hiz82 (by kernel_rfl) (by kernel_rfl) (by kernel_rfl) ?hQz82 ?hyz82 (by assumption) ?restz82
          case hiz82 => simp only [List.getElem?_toArray, List.getElem?_cons_zero, List.getElem?_cons_succ]; rfl
          case hQz82 => exact fun _ _ _ h => h
          case hyz82 => exact Or.inl ⟨by rfl, by intro w hSw; (try dsimp only at hSw); go_simp; with_reducible rfl⟩
          try simp only [Act.put, List.setIfInBounds_toArray, List.set_cons_zero, List.set_cons_succ]
          refine wpAnyH_take (i := 2) (oi := ?oiz83) (v := ?vz83) ?hiz83 (by kernel_rfl) (by kernel_rfl) (by kernel_rfl) ?hQz83 ?hyz83 (by assumption) ?restz83
          case hiz83 => simp only [List.getElem?_toArray, List.getElem?_cons_zero, List.getElem?_cons_succ]; rfl
          case hQz83 => exact fun _ _ _ h => h
          case hyz83 => exact Or.inl ⟨by rfl, by intro w hSw; (try dsimp only at hSw); go_simp; with_reducible rfl⟩
          try simp only [Act.put, List.setIfInBounds_toArray, List.set_cons_zero, List.set_cons_succ]
          refine wpAnyH_take (i := 3) (oi := ?oiz84) (v := ?vz84) ?hiz84 (by kernel_rfl) (by kernel_rfl) (by kernel_rfl) ?hQz84 ?hyz84 (by assumption) ?restz84
          case hiz84 => simp only [List.getElem?_toArray, List.getElem?_cons_zero, List.getElem?_cons_succ]; rfl
          case hQz84 => exact fun _ _ _ h => h
          case hyz84 => exact Or.inl ⟨by rfl, by intro w hSw; (try dsimp only at hSw); go_simp; with_reducible rfl⟩
          try simp only [Act.put, List.setIfInBounds_toArray, List.set_cons_zero, List.set_cons_succ]
          refine wpAnyH_take (i := 4) (oi := ?oiz85) (v := ?vz85) ?hiz85 (by kernel_rfl) (by kernel_rfl) (by kernel_rfl) ?hQz85 ?hyz85 (by assumption) ?restz85
          case hiz85 => simp only [List.getElem?_toArray, List.getElem?_cons_zero, List.getElem?_cons_succ]; rfl
          case hQz85 => exact fun _ _ _ h => h
          case hyz85 => exact Or.inl ⟨by rfl, by intro w hSw; (try dsimp only at hSw); go_simp; with_reducible rfl⟩
          try simp only [Act.put, List.setIfInBounds_toArray, List.set_cons_zero, List.set_cons_succ]
          refine wpAnyH_take (i := 5) (oi := ?oiz86) (v := ?vz86) ?hiz86 (by kernel_rfl) (by kernel_rfl) (by kernel_rfl) ?hQz86 ?hyz86 (by assumption) ?restz86
          case hiz86 => simp only [List.getElem?_toArray, List.getElem?_cons_zero, List.getElem?_cons_succ]; rfl
          case hQz86 => exact fun _ _ _ h => h
          case hyz86 => exact Or.inl ⟨by rfl, by intro w hSw; (try dsimp only at hSw); go_simp; with_reducible rfl⟩
          try simp only [Act.put, List.setIfInBounds_toArray, List.set_cons_zero, List.set_cons_succ]
          refine wpAnyH_take (i := 6) (oi := ?oiz87) (v := ?vz87) ?hiz87 (by kernel_rfl) (by kernel_rfl) (by kernel_rfl) ?hQz87 ?hyz87 (by assumption) ?restz87
          case hiz87 => simp only [List.getElem?_toArray, List.getElem?_cons_zero, List.getElem?_cons_succ]; rfl
          case hQz87 => exact fun _ _ _ h => h
          case hyz87 => exact Or.inl ⟨by rfl, by intro w hSw; (try dsimp only at hSw); go_simp; with_reducible rfl⟩
          try simp only [Act.put, List.setIfInBounds_toArray, List.set_cons_zero, List.set_cons_succ]
          refine wpAnyH_take (i := 7) (oi := ?oiz88) (v := ?vz88) ?hiz88 (by kernel_rfl) (by kernel_rfl) (by kernel_rfl) ?hQz88 ?hyz88 (by assumption) ?restz88
          case hiz88 => simp only [List.getElem?_toArray, List.getElem?_cons_zero, List.getElem?_cons_succ]; rfl
          case hQz88 => exact fun _ _ _ h => h
          case hyz88 => exact Or.inl ⟨by rfl, by intro w hSw; (try dsimp only at hSw); go_simp; with_reducible rfl⟩
          try simp only [Act.put, List.setIfInBounds_toArray, List.set_cons_zero, List.set_cons_succ]
          refine wpAnyH_take (i := 8) (oi := ?oiz89) (v := ?vz89) ?hiz89 (by kernel_rfl) (by kernel_rfl) (by kernel_rfl) ?hQz89 ?hyz89 (by assumption) ?restz89
          case hiz89 => simp only [List.getElem?_toArray, List.getElem?_cons_zero, List.getElem?_cons_succ]; rfl
          case hQz89 => exact fun _ _ _ h => h
          case hyz89 => exact Or.inl ⟨by rfl, by intro w hSw; (try dsimp only at hSw); go_simp; with_reducible rfl⟩
          try simp only [Act.put, List.setIfInBounds_toArray, List.set_cons_zero, List.set_cons_succ]
          refine wpAnyH_take (i := 9) (oi := ?oiz90) (v := ?vz90) ?hiz90 (by kernel_rfl) (by kernel_rfl) (by kernel_rfl) ?hQz90 ?hyz90 (by assumption) ?restz90
          case hiz90 => simp only [List.getElem?_toArray, List.getElem?_cons_zero, List.getElem?_cons_succ]; rfl
          case hQz90 => exact fun _ _ _ h => h
          case hyz90 => exact Or.inl ⟨by rfl, by intro w hSw; (try dsimp only at hSw); go_simp; with_reducible rfl⟩
          try simp only [Act.put, List.setIfInBounds_toArray, List.set_cons_zero, List.set_cons_succ]
          refine wpAnyH_ready (rs := [10]) (by kernel_rfl) (by simp) (AllReadyH.cons (o := ?oy9110) ?hy9110 (fun K hK => ?sy9110) AllReadyH.nil)
          case hy9110 => simp only [List.getElem?_toArray, List.getElem?_cons_zero, List.getElem?_cons_succ]; rfl
          go_simp
          have hH2 := hHeld.alloc (.cells (tChg.enc (⟨a[i].1, true, a[i].2, false, ⟨#[]⟩⟩ : Chg)).toArray 90)
          refine hK.out _ _ hH2 (fun _ => ?_)
          clear hK K hH2
          try simp only [Act.put, List.setIfInBounds_toArray, List.set_cons_zero, List.set_cons_succ]
          refine wpAnyH_ready (rs := [11]) (by kernel_rfl) (by simp) (AllReadyH.cons (o := ?oy9211) ?hy9211 (fun K hK => ?sy9211) AllReadyH.nil)
          case hy9211 => simp only [List.getElem?_toArray, List.getElem?_cons_zero, List.getElem?_cons_succ]; rfl
          refine stp_append rowChg rfl _ _ rfl (v := .slice C cn cc) rfl (HOz.out.alloc (.cells (tChg.enc (⟨a[i].1, true, a[i].2, false, ⟨#[]⟩⟩ : Chg)).toArray 90)) _ _ rfl (A := some ⟨wz.heap.size, 0, none⟩) (ys := [(⟨a[i].1, true, a[i].2, false, ⟨#[]⟩⟩ : Chg)]) rfl (rd_one (T := tChg) wz (⟨a[i].1, true, a[i].2, false, ⟨#[]⟩⟩ : Chg) HCO.out _) (by intro y hy; obtain rfl := List.mem_singleton.1 hy; exact HCO.out) (by have := HL.out; simp only [List.length_singleton]; omega) (hHeld.alloc _).size ?_
          intro v9 w9 ho1 hg1 hat1
          obtain ⟨C9, n9, c9, rfl⟩ := ho1.shape3
          have hH2 := (HOz.out.alloc (.cells (tChg.enc (⟨a[i].1, true, a[i].2, false, ⟨#[]⟩⟩ : Chg)).toArray 90)).ext_app (hHeld.alloc _) hg1
          refine hK.out _ _ hH2 (fun _ => ?_)
          have HO9 := Lib.hid ho1
          have HX9 := Lib.hid hH2
          clear hK K ho1 hg1 hat1 hH2 hHeld HOz
          try simp only [Act.put, List.setIfInBounds_toArray, List.set_cons_zero, List.set_cons_succ]
          refine wpAnyH_take (i := 12) (oi := ?oiz93) (v := ?vz93) ?hiz93 (by kernel_rfl) (by kernel_rfl) (by kernel_rfl) ?hQz93 ?hyz93 (by assumption) ?restz93
          case hiz93 => simp only [List.getElem?_toArray, List.getElem?_cons_zero, List.getElem?_cons_succ]; rfl
          case hQz93 => exact fun _ _ _ h => h
          case hyz93 => exact Or.inl ⟨by rfl, by intro w hSw; (try dsimp only at hSw); go_simp; with_reducible rfl⟩
          try simp only [Act.put, List.setIfInBounds_toArray, List.set_cons_zero, List.set_cons_succ]
          refine wpAnyH_done (by kernel_rfl) ?_ _
          go_wp2
          go_roundw
          case rel =>
            have e1 : na - 1 = a.length - (i + 1) := by have := HNA.out; omega
            have e2 : nb = b.length - (k) := by have := HNB.out; omega
            have f1 := HSa.out
            have f2 := HRb.out
            rw [e1] at f1
            rw [e2] at f2
            exact ⟨i + 1, k, _, _, _, _, _, by omega, by omega, by rw [e1], by rw [e2], f1, f2, HO9.out, by rw [List.append_assoc, List.singleton_append, ← HN.out]; exact HD.out, by have := HLL.out; simp only [List.length_append, List.length_singleton]; omega, HX9.out⟩
          case measure => simp [lenV]; omega
        | false =>
          rw [h1] at q1
          cases h2 : ltB b[k].1 a[i].1 with
          | true =>
            rw [h2] at q2
            have q4 : (a[i].1.toList == b[k].1.toList) = false := by rw [beq_eq_false_iff_ne]; exact fun e => ltB_ne h2 (toList_inj e).symm
            have HCO := Lib.hid (show tChg.ok (⟨b[k].1, false, ⟨#[]⟩, true, b[k].2⟩ : Chg) from ⟨hbo.1, by show (0 : Nat) ≤ 140737488351232; decide, hbo.2⟩)
            have HN := Lib.hid (chgI_add hi hilb (fun _ => h2))
            go_wp2_with fail
            go_quiet (fail)
            go_wp2_with fail
            go_quiet (fail)
            go_wp2_with fail
            refine wp_world (w0 := wr) (((Drawn.refl _).drewN _).drewN _) (fun wq hwq => ?_)
            have HXq := Lib.hid (HX.out.trans hwq.ext)
            have HOq := Lib.hid (HO.out.ext hwq.ext)
            clear hwq
            refine wp_region_held_drew (S := fun W => Ext w W) (by kernel_rfl) HXq.out.drew (fun hHeld => ?_)
            have HOz := Lib.hid (show Own tChg 90 wq.drew w.heap.size (.slice C cn cc) done from HOq.out)
            generalize wq.drew = wz at hHeld HOz ⊢
            refine wpAnyH_take (i := 0) (oi := ?oiz94) (v := ?vz94) ?hiz94 (by kernel_rfl) (by kernel_rfl) (by kernel_rfl) ?hQz94 ?hyz94 (by assumption) ?restz94
            case hiz94 => simp only [List.getElem?_toArray, List.getElem?_cons_zero, List.getElem?_cons_succ]; rfl
            case hQz94 => exact fun _ _ _ h => h
            case hyz94 => exact Or.inl ⟨by rfl, by intro w hSw; (try dsimp only at hSw); go_simp; with_reducible rfl⟩
            try simp only [Act.put, List.setIfInBounds_toArray, List.set_cons_zero, List.set_cons_succ]
            refine wpAnyH_take (i := 1) (oi := ?oiz95) (v := ?vz95) ?hiz95 (by kernel_rfl) (by kernel_rfl) (by kernel_rfl) ?hQz95 ?hyz95 (by assumption) ?restz95
            case hiz95 => simp only [List.getElem?_toArray, List.getElem?_cons_zero, List.getElem?_cons_succ]; rfl
            case hQz95 => exact fun _ _ _ h => h
            case hyz95 => exact Or.inl ⟨by rfl, by intro w hSw; (try dsimp only at hSw); go_simp; with_reducible rfl⟩
            try simp only [Act.put, List.setIfInBounds_toArray, List.set_cons_zero, List.set_cons_succ]
            refine wpAnyH_take (i := 2) (oi := ?oiz96) (v := ?vz96) ?hiz96 (by kernel_rfl) (by kernel_rfl) (by kernel_rfl) ?hQz96 ?hyz96 (by assumption) ?restz96
            case hiz96 => simp only [List.getElem?_toArray, List.getElem?_cons_zero, List.getElem?_cons_succ]; rfl
            case hQz96 => exact fun _ _ _ h => h
            case hyz96 => exact Or.inl ⟨by rfl, by intro w hSw; (try dsimp only at hSw); go_simp; with_reducible rfl⟩
            try simp only [Act.put, List.setIfInBounds_toArray, List.set_cons_zero, List.set_cons_succ]
            refine wpAnyH_take (i := 3) (oi := ?oiz97) (v := ?vz97) ?hiz97 (by kernel_rfl) (by kernel_rfl) (by kernel_rfl) ?hQz97 ?hyz97 (by assumption) ?restz97
            case hiz97 => simp only [List.getElem?_toArray, List.getElem?_cons_zero, List.getElem?_cons_succ]; rfl
            case hQz97 => exact fun _ _ _ h => h
            case hyz97 => exact Or.inl ⟨by rfl, by intro w hSw; (try dsimp only at hSw); go_simp; with_reducible rfl⟩
            try simp only [Act.put, List.setIfInBounds_toArray, List.set_cons_zero, List.set_cons_succ]
            refine wpAnyH_take (i := 4) (oi := ?oiz98) (v := ?vz98) ?hiz98 (by kernel_rfl) (by kernel_rfl) (by kernel_rfl) ?hQz98 ?hyz98 (by assumption) ?restz98
            case hiz98 => simp only [List.getElem?_toArray, List.getElem?_cons_zero, List.getElem?_cons_succ]; rfl
            case hQz98 => exact fun _ _ _ h => h
            case hyz98 => exact Or.inl ⟨by rfl, by intro w hSw; (try dsimp only at hSw); go_simp; with_reducible rfl⟩
            try simp only [Act.put, List.setIfInBounds_toArray, List.set_cons_zero, List.set_cons_succ]
            refine wpAnyH_take (i := 5) (oi := ?oiz99) (v := ?vz99) ?hiz99 (by kernel_rfl) (by kernel_rfl) (by kernel_rfl) ?hQz99 ?hyz99 (by assumption) ?restz99
            case hiz99 => simp only [List.getElem?_toArray, List.getElem?_cons_zero, List.getElem?_cons_succ]; rfl
            case hQz99 => exact fun _ _ _ h => h
            case hyz99 => exact Or.inl ⟨by rfl, by intro w hSw; (try dsimp only at hSw); go_simp; with_reducible rfl⟩
            try simp only [Act.put, List.setIfInBounds_toArray, List.set_cons_zero, List.set_cons_succ]
            refine wpAnyH_take (i := 6) (oi := ?oiz100) (v := ?vz100) ?hiz100 (by kernel_rfl) (by kernel_rfl) (by kernel_rfl) ?hQz100 ?hyz100 (by assumption) ?restz100
            case hiz100 => simp only [List.getElem?_toArray, List.getElem?_cons_zero, List.getElem?_cons_succ]; rfl
            case hQz100 => exact fun _ _ _ h => h
            case hyz100 => exact Or.inl ⟨by rfl, by intro w hSw; (try dsimp only at hSw); go_simp; with_reducible rfl⟩
            try simp only [Act.put, List.setIfInBounds_toArray, List.set_cons_zero, List.set_cons_succ]
            refine wpAnyH_take (i := 7) (oi := ?oiz101) (v := ?vz101) ?hiz101 (by kernel_rfl) (by kernel_rfl) (by kernel_rfl) ?hQz101 ?hyz101 (by assumption) ?restz101
            case hiz101 => simp only [List.getElem?_toArray, List.getElem?_cons_zero, List.getElem?_cons_succ]; rfl
            case hQz101 => exact fun _ _ _ h => h
            case hyz101 => exact Or.inl ⟨by rfl, by intro w hSw; (try dsimp only at hSw); go_simp; with_reducible rfl⟩
            try simp only [Act.put, List.setIfInBounds_toArray, List.set_cons_zero, List.set_cons_succ]
            refine wpAnyH_take (i := 8) (oi := ?oiz102) (v := ?vz102) ?hiz102 (by kernel_rfl) (by kernel_rfl) (by kernel_rfl) ?hQz102 ?hyz102 (by assumption) ?restz102
            case hiz102 => simp only [List.getElem?_toArray, List.getElem?_cons_zero, List.getElem?_cons_succ]; rfl
            case hQz102 => exact fun _ _ _ h => h
            case hyz102 => exact Or.inl ⟨by rfl, by intro w hSw; (try dsimp only at hSw); go_simp; with_reducible rfl⟩
            try simp only [Act.put, List.setIfInBounds_toArray, List.set_cons_zero, List.set_cons_succ]
            refine wpAnyH_take (i := 9) (oi := ?oiz103) (v := ?vz103) ?hiz103 (by kernel_rfl) (by kernel_rfl) (by kernel_rfl) ?hQz103 ?hyz103 (by assumption) ?restz103
            case hiz103 => simp only [List.getElem?_toArray, List.getElem?_cons_zero, List.getElem?_cons_succ]; rfl
            case hQz103 => exact fun _ _ _ h => h
            case hyz103 => exact Or.inl ⟨by rfl, by intro w hSw; (try dsimp only at hSw); go_simp; with_reducible rfl⟩
            try simp only [Act.put, List.setIfInBounds_toArray, List.set_cons_zero, List.set_cons_succ]
            refine wpAnyH_ready (rs := [10]) (by kernel_rfl) (by simp) (AllReadyH.cons (o := ?oy10410) ?hy10410 (fun K hK => ?sy10410) AllReadyH.nil)
            case hy10410 => simp only [List.getElem?_toArray, List.getElem?_cons_zero, List.getElem?_cons_succ]; rfl
            go_simp
            have hH2 := hHeld.alloc (.cells (tChg.enc (⟨b[k].1, false, ⟨#[]⟩, true, b[k].2⟩ : Chg)).toArray 90)
            refine hK.out _ _ hH2 (fun _ => ?_)
            clear hK K hH2
            try simp only [Act.put, List.setIfInBounds_toArray, List.set_cons_zero, List.set_cons_succ]
            refine wpAnyH_ready (rs := [11]) (by kernel_rfl) (by simp) (AllReadyH.cons (o := ?oy10511) ?hy10511 (fun K hK => ?sy10511) AllReadyH.nil)
            case hy10511 => simp only [List.getElem?_toArray, List.getElem?_cons_zero, List.getElem?_cons_succ]; rfl
            refine stp_append rowChg rfl _ _ rfl (v := .slice C cn cc) rfl (HOz.out.alloc (.cells (tChg.enc (⟨b[k].1, false, ⟨#[]⟩, true, b[k].2⟩ : Chg)).toArray 90)) _ _ rfl (A := some ⟨wz.heap.size, 0, none⟩) (ys := [(⟨b[k].1, false, ⟨#[]⟩, true, b[k].2⟩ : Chg)]) rfl (rd_one (T := tChg) wz (⟨b[k].1, false, ⟨#[]⟩, true, b[k].2⟩ : Chg) HCO.out _) (by intro y hy; obtain rfl := List.mem_singleton.1 hy; exact HCO.out) (by have := HL.out; simp only [List.length_singleton]; omega) (hHeld.alloc _).size ?_
            intro v9 w9 ho1 hg1 hat1
            obtain ⟨C9, n9, c9, rfl⟩ := ho1.shape3
            have hH2 := (HOz.out.alloc (.cells (tChg.enc (⟨b[k].1, false, ⟨#[]⟩, true, b[k].2⟩ : Chg)).toArray 90)).ext_app (hHeld.alloc _) hg1
            refine hK.out _ _ hH2 (fun _ => ?_)
            have HO9 := Lib.hid ho1
            have HX9 := Lib.hid hH2
            clear hK K ho1 hg1 hat1 hH2 hHeld HOz
            try simp only [Act.put, List.setIfInBounds_toArray, List.set_cons_zero, List.set_cons_succ]
            refine wpAnyH_take (i := 12) (oi := ?oiz106) (v := ?vz106) ?hiz106 (by kernel_rfl) (by kernel_rfl) (by kernel_rfl) ?hQz106 ?hyz106 (by assumption) ?restz106
            case hiz106 => simp only [List.getElem?_toArray, List.getElem?_cons_zero, List.getElem?_cons_succ]; rfl
            case hQz106 => exact fun _ _ _ h => h
            case hyz106 => exact Or.inl ⟨by rfl, by intro w hSw; (try dsimp only at hSw); go_simp; with_reducible rfl⟩
            try simp only [Act.put, List.setIfInBounds_toArray, List.set_cons_zero, List.set_cons_succ]
            refine wpAnyH_done (by kernel_rfl) ?_ _
            go_wp2
            go_roundw
            case rel =>
              have e1 : na = a.length - (i) := by have := HNA.out; omega
              have e2 : nb - 1 = b.length - (k + 1) := by have := HNB.out; omega
              have f1 := HRa.out
              have f2 := HSb.out
              rw [e1] at f1
              rw [e2] at f2
              exact ⟨i, k + 1, _, _, _, _, _, by omega, by omega, by rw [e1], by rw [e2], f1, f2, HO9.out, by rw [List.append_assoc, List.singleton_append, ← HN.out]; exact HD.out, by have := HLL.out; simp only [List.length_append, List.length_singleton]; omega, HX9.out⟩
            case measure => simp [lenV]; omega
          | false =>
            rw [h2] at q2
            have q4 : (a[i].1.toList == b[k].1.toList) = true := by rw [ltB_total h1 h2]; simp
            have hboth := chgI_both hila hilb h1 h2
            by_cases h3 : a[i].2 = b[k].2
            · rw [if_pos h3] at hboth
              have HN := Lib.hid hboth
              have q3 : (a[i].2.toList == b[k].2.toList) = true := by rw [h3]; simp
              clear hboth h3
              go_wp2_with fail
              go_quiet (fail)
              go_wp2_with fail
              go_quiet (fail)
              go_wp2_with fail
              go_quiet (fail)
              go_wp2_with fail
              go_quiet (fail)
              go_wp2
              go_roundw
              case rel =>
                have e1 : na - 1 = a.length - (i + 1) := by have := HNA.out; omega
                have e2 : nb - 1 = b.length - (k + 1) := by have := HNB.out; omega
                have f1 := HSa.out
                have f2 := HSb.out
                rw [e1] at f1
                rw [e2] at f2
                exact ⟨i + 1, k + 1, done, _, _, _, _, by omega, by omega, by rw [e1], by rw [e2], f1, f2, (((HO.out.drewN _).drewN _).drewN _).drewN _, by rw [← HN.out]; exact HD.out, by have := HLL.out; omega, (((HX.out.drewN _).drewN _).drewN _).drewN _⟩
              case measure => simp [lenV]; omega
            · rw [if_neg h3] at hboth
              have q3 : (a[i].2.toList == b[k].2.toList) = false := by rw [beq_eq_false_iff_ne]; exact fun e => h3 (toList_inj e)
              have HCO := Lib.hid (show tChg.ok (⟨a[i].1, true, a[i].2, true, b[k].2⟩ : Chg) from ⟨hao.1, hao.2, hbo.2⟩)
              have HN := Lib.hid (hboth)
              go_wp2_with fail
              go_quiet (fail)
              go_wp2_with fail
              go_quiet (fail)
              go_wp2_with fail
              go_quiet (fail)
              go_wp2_with fail
              refine wp_world (w0 := wr) ((((Drawn.refl _).drewN _).drewN _).drewN _) (fun wq hwq => ?_)
              have HXq := Lib.hid (HX.out.trans hwq.ext)
              have HOq := Lib.hid (HO.out.ext hwq.ext)
              clear hwq
              refine wp_region_held_drew (S := fun W => Ext w W) (by kernel_rfl) HXq.out.drew (fun hHeld => ?_)
              have HOz := Lib.hid (show Own tChg 90 wq.drew w.heap.size (.slice C cn cc) done from HOq.out)
              generalize wq.drew = wz at hHeld HOz ⊢
              refine wpAnyH_take (i := 0) (oi := ?oiz107) (v := ?vz107) ?hiz107 (by kernel_rfl) (by kernel_rfl) (by kernel_rfl) ?hQz107 ?hyz107 (by assumption) ?restz107
              case hiz107 => simp only [List.getElem?_toArray, List.getElem?_cons_zero, List.getElem?_cons_succ]; rfl
              case hQz107 => exact fun _ _ _ h => h
              case hyz107 => exact Or.inl ⟨by rfl, by intro w hSw; (try dsimp only at hSw); go_simp; with_reducible rfl⟩
              try simp only [Act.put, List.setIfInBounds_toArray, List.set_cons_zero, List.set_cons_succ]
              refine wpAnyH_take (i := 1) (oi := ?oiz108) (v := ?vz108) ?hiz108 (by kernel_rfl) (by kernel_rfl) (by kernel_rfl) ?hQz108 ?hyz108 (by assumption) ?restz108
              case hiz108 => simp only [List.getElem?_toArray, List.getElem?_cons_zero, List.getElem?_cons_succ]; rfl
              case hQz108 => exact fun _ _ _ h => h
              case hyz108 => exact Or.inl ⟨by rfl, by intro w hSw; (try dsimp only at hSw); go_simp; with_reducible rfl⟩
              try simp only [Act.put, List.setIfInBounds_toArray, List.set_cons_zero, List.set_cons_succ]
              refine wpAnyH_take (i := 2) (oi := ?oiz109) (v := ?vz109) ?hiz109 (by kernel_rfl) (by kernel_rfl) (by kernel_rfl) ?hQz109 ?hyz109 (by assumption) ?restz109
              case hiz109 => simp only [List.getElem?_toArray, List.getElem?_cons_zero, List.getElem?_cons_succ]; rfl
              case hQz109 => exact fun _ _ _ h => h
              case hyz109 => exact Or.inl ⟨by rfl, by intro w hSw; (try dsimp only at hSw); go_simp; with_reducible rfl⟩
              try simp only [Act.put, List.setIfInBounds_toArray, List.set_cons_zero, List.set_cons_succ]
              refine wpAnyH_take (i := 3) (oi := ?oiz110) (v := ?vz110) ?hiz110 (by kernel_rfl) (by kernel_rfl) (by kernel_rfl) ?hQz110 ?hyz110 (by assumption) ?restz110
              case hiz110 => simp only [List.getElem?_toArray, List.getElem?_cons_zero, List.getElem?_cons_succ]; rfl
              case hQz110 => exact fun _ _ _ h => h
              case hyz110 => exact Or.inl ⟨by rfl, by intro w hSw; (try dsimp only at hSw); go_simp; with_reducible rfl⟩
              try simp only [Act.put, List.setIfInBounds_toArray, List.set_cons_zero, List.set_cons_succ]
              refine wpAnyH_take (i := 4) (oi := ?oiz111) (v := ?vz111) ?hiz111 (by kernel_rfl) (by kernel_rfl) (by kernel_rfl) ?hQz111 ?hyz111 (by assumption) ?restz111
              case hiz111 => simp only [List.getElem?_toArray, List.getElem?_cons_zero, List.getElem?_cons_succ]; rfl
              case hQz111 => exact fun _ _ _ h => h
              case hyz111 => exact Or.inl ⟨by rfl, by intro w hSw; (try dsimp only at hSw); go_simp; with_reducible rfl⟩
              try simp only [Act.put, List.setIfInBounds_toArray, List.set_cons_zero, List.set_cons_succ]
              refine wpAnyH_take (i := 5) (oi := ?oiz112) (v := ?vz112) ?hiz112 (by kernel_rfl) (by kernel_rfl) (by kernel_rfl) ?hQz112 ?hyz112 (by assumption) ?restz112
              case hiz112 => simp only [List.getElem?_toArray, List.getElem?_cons_zero, List.getElem?_cons_succ]; rfl
              case hQz112 => exact fun _ _ _ h => h
              case hyz112 => exact Or.inl ⟨by rfl, by intro w hSw; (try dsimp only at hSw); go_simp; with_reducible rfl⟩
              try simp only [Act.put, List.setIfInBounds_toArray, List.set_cons_zero, List.set_cons_succ]
              refine wpAnyH_take (i := 6) (oi := ?oiz113) (v := ?vz113) ?hiz113 (by kernel_rfl) (by kernel_rfl) (by kernel_rfl) ?hQz113 ?hyz113 (by assumption) ?restz113
              case hiz113 => simp only [List.getElem?_toArray, List.getElem?_cons_zero, List.getElem?_cons_succ]; rfl
              case hQz113 => exact fun _ _ _ h => h
              case hyz113 => exact Or.inl ⟨by rfl, by intro w hSw; (try dsimp only at hSw); go_simp; with_reducible rfl⟩
              try simp only [Act.put, List.setIfInBounds_toArray, List.set_cons_zero, List.set_cons_succ]
              refine wpAnyH_take (i := 7) (oi := ?oiz114) (v := ?vz114) ?hiz114 (by kernel_rfl) (by kernel_rfl) (by kernel_rfl) ?hQz114 ?hyz114 (by assumption) ?restz114
              case hiz114 => simp only [List.getElem?_toArray, List.getElem?_cons_zero, List.getElem?_cons_succ]; rfl
              case hQz114 => exact fun _ _ _ h => h
              case hyz114 => exact Or.inl ⟨by rfl, by intro w hSw; (try dsimp only at hSw); go_simp; with_reducible rfl⟩
              try simp only [Act.put, List.setIfInBounds_toArray, List.set_cons_zero, List.set_cons_succ]
              refine wpAnyH_take (i := 8) (oi := ?oiz115) (v := ?vz115) ?hiz115 (by kernel_rfl) (by kernel_rfl) (by kernel_rfl) ?hQz115 ?hyz115 (by assumption) ?restz115
              case hiz115 => simp only [List.getElem?_toArray, List.getElem?_cons_zero, List.getElem?_cons_succ]; rfl
              case hQz115 => exact fun _ _ _ h => h
              case hyz115 => exact Or.inl ⟨by rfl, by intro w hSw; (try dsimp only at hSw); go_simp; with_reducible rfl⟩
              try simp only [Act.put, List.setIfInBounds_toArray, List.set_cons_zero, List.set_cons_succ]
              refine wpAnyH_take (i := 9) (oi := ?oiz116) (v := ?vz116) ?hiz116 (by kernel_rfl) (by kernel_rfl) (by kernel_rfl) ?hQz116 ?hyz116 (by assumption) ?restz116
              case hiz116 => simp only [List.getElem?_toArray, List.getElem?_cons_zero, List.getElem?_cons_succ]; rfl
              case hQz116 => exact fun _ _ _ h => h
              case hyz116 => exact Or.inl ⟨by rfl, by intro w hSw; (try dsimp only at hSw); go_simp; with_reducible rfl⟩
              try simp only [Act.put, List.setIfInBounds_toArray, List.set_cons_zero, List.set_cons_succ]
              refine wpAnyH_take (i := 10) (oi := ?oiz117) (v := ?vz117) ?hiz117 (by kernel_rfl) (by kernel_rfl) (by kernel_rfl) ?hQz117 ?hyz117 (by assumption) ?restz117
              case hiz117 => simp only [List.getElem?_toArray, List.getElem?_cons_zero, List.getElem?_cons_succ]; rfl
              case hQz117 => exact fun _ _ _ h => h
              case hyz117 => exact Or.inl ⟨by rfl, by intro w hSw; (try dsimp only at hSw); go_simp; with_reducible rfl⟩
              try simp only [Act.put, List.setIfInBounds_toArray, List.set_cons_zero, List.set_cons_succ]
              refine wpAnyH_take (i := 11) (oi := ?oiz118) (v := ?vz118) ?hiz118 (by kernel_rfl) (by kernel_rfl) (by kernel_rfl) ?hQz118 ?hyz118 (by assumption) ?restz118
              case hiz118 => simp only [List.getElem?_toArray, List.getElem?_cons_zero, List.getElem?_cons_succ]; rfl
              case hQz118 => exact fun _ _ _ h => h
              case hyz118 => exact Or.inl ⟨by rfl, by intro w hSw; (try dsimp only at hSw); go_simp; with_reducible rfl⟩
              try simp only [Act.put, List.setIfInBounds_toArray, List.set_cons_zero, List.set_cons_succ]
              refine wpAnyH_take (i := 12) (oi := ?oiz119) (v := ?vz119) ?hiz119 (by kernel_rfl) (by kernel_rfl) (by kernel_rfl) ?hQz119 ?hyz119 (by assumption) ?restz119
              case hiz119 => simp only [List.getElem?_toArray, List.getElem?_cons_zero, List.getElem?_cons_succ]; rfl
              case hQz119 => exact fun _ _ _ h => h
              case hyz119 => exact Or.inl ⟨by rfl, by intro w hSw; (try dsimp only at hSw); go_simp; with_reducible rfl⟩
              try simp only [Act.put, List.setIfInBounds_toArray, List.set_cons_zero, List.set_cons_succ]
              refine wpAnyH_take (i := 13) (oi := ?oiz120) (v := ?vz120) ?hiz120 (by kernel_rfl) (by kernel_rfl) (by kernel_rfl) ?hQz120 ?hyz120 (by assumption) ?restz120
              case hiz120 => simp only [List.getElem?_toArray, List.getElem?_cons_zero, List.getElem?_cons_succ]; rfl
              case hQz120 => exact fun _ _ _ h => h
              case hyz120 => exact Or.inl ⟨by rfl, by intro w hSw; (try dsimp only at hSw); go_simp; with_reducible rfl⟩
              try simp only [Act.put, List.setIfInBounds_toArray, List.set_cons_zero, List.set_cons_succ]
              refine wpAnyH_ready (rs := [14]) (by kernel_rfl) (by simp) (AllReadyH.cons (o := ?oy12114) ?hy12114 (fun K hK => ?sy12114) AllReadyH.nil)
              case hy12114 => simp only [List.getElem?_toArray, List.getElem?_cons_zero, List.getElem?_cons_succ]; rfl
              go_simp
              have hH2 := hHeld.alloc (.cells (tChg.enc (⟨a[i].1, true, a[i].2, true, b[k].2⟩ : Chg)).toArray 90)
              refine hK.out _ _ hH2 (fun _ => ?_)
              clear hK K hH2
              try simp only [Act.put, List.setIfInBounds_toArray, List.set_cons_zero, List.set_cons_succ]
              refine wpAnyH_ready (rs := [15]) (by kernel_rfl) (by simp) (AllReadyH.cons (o := ?oy12215) ?hy12215 (fun K hK => ?sy12215) AllReadyH.nil)
              case hy12215 => simp only [List.getElem?_toArray, List.getElem?_cons_zero, List.getElem?_cons_succ]; rfl
              refine stp_append rowChg rfl _ _ rfl (v := .slice C cn cc) rfl (HOz.out.alloc (.cells (tChg.enc (⟨a[i].1, true, a[i].2, true, b[k].2⟩ : Chg)).toArray 90)) _ _ rfl (A := some ⟨wz.heap.size, 0, none⟩) (ys := [(⟨a[i].1, true, a[i].2, true, b[k].2⟩ : Chg)]) rfl (rd_one (T := tChg) wz (⟨a[i].1, true, a[i].2, true, b[k].2⟩ : Chg) HCO.out _) (by intro y hy; obtain rfl := List.mem_singleton.1 hy; exact HCO.out) (by have := HL.out; simp only [List.length_singleton]; omega) (hHeld.alloc _).size ?_
              intro v9 w9 ho1 hg1 hat1
              obtain ⟨C9, n9, c9, rfl⟩ := ho1.shape3
              have hH2 := (HOz.out.alloc (.cells (tChg.enc (⟨a[i].1, true, a[i].2, true, b[k].2⟩ : Chg)).toArray 90)).ext_app (hHeld.alloc _) hg1
              refine hK.out _ _ hH2 (fun _ => ?_)
              have HO9 := Lib.hid ho1
              have HX9 := Lib.hid hH2
              clear hK K ho1 hg1 hat1 hH2 hHeld HOz
              try simp only [Act.put, List.setIfInBounds_toArray, List.set_cons_zero, List.set_cons_succ]
              refine wpAnyH_take (i := 16) (oi := ?oiz123) (v := ?vz123) ?hiz123 (by kernel_rfl) (by kernel_rfl) (by kernel_rfl) ?hQz123 ?hyz123 (by assumption) ?restz123
              case hiz123 => simp only [List.getElem?_toArray, List.getElem?_cons_zero, List.getElem?_cons_succ]; rfl
              case hQz123 => exact fun _ _ _ h => h
              case hyz123 => exact Or.inl ⟨by rfl, by intro w hSw; (try dsimp only at hSw); go_simp; with_reducible rfl⟩
              try simp only [Act.put, List.setIfInBounds_toArray, List.set_cons_zero, List.set_cons_succ]
              refine wpAnyH_done (by kernel_rfl) ?_ _
              go_wp2_with fail
              go_quiet (fail)
              go_wp2
              go_roundw
              case rel =>
                have e1 : na - 1 = a.length - (i + 1) := by have := HNA.out; omega
                have e2 : nb - 1 = b.length - (k + 1) := by have := HNB.out; omega
                have f1 := HSa.out
                have f2 := HSb.out
                rw [e1] at f1
                rw [e2] at f2
                exact ⟨i + 1, k + 1, _, _, _, _, _, by omega, by omega, by rw [e1], by rw [e2], f1, f2, HO9.out.drewN _, by rw [List.append_assoc, List.singleton_append, ← HN.out]; exact HD.out, by have := HLL.out; simp only [List.length_append, List.length_singleton]; omega, HX9.out.drewN _⟩
              case measure => simp [lenV]; omega
      · obtain rfl : nb = 0 := by omega
        have hbk : k = b.length := by have := HNB.out; omega
        have hila : i < a.length := by have := HNA.out; omega
        have hda : (a.drop i)[0]'(by rw [List.length_drop]; omega) = a[i] := by simp
        obtain ⟨hnx, hca, ga, oa, hpa, hcell⟩ := HRa.out.first ha
        clear hnx
        obtain rfl := hpa
        have hcl := hcell (by rw [List.length_drop]; omega)
        rw [hda] at hcl
        have a0 : ∀ W, Ext w W → W.cell? ⟨ga, oa, none⟩ = some (.string a[i].1) := fun W hW => (hcl W hW).1
        have a1 : ∀ W, Ext w W → W.cell? ⟨ga, oa + 1, none⟩ = some (.string a[i].2) := fun W hW => (hcl W hW).2
        have hao : tEnt.ok a[i] := HKa.out _ (List.getElem_mem hila)
        have a0r := a0 _ HX.out
        have a1r := a1 _ HX.out
        have HSa := Lib.hid (show RdL tEnt w S (.slice (if c1 = 1 then some ⟨ga, oa, none⟩ else some ⟨ga, oa + 2, none⟩) (na - 1) (c1 - 1)) (a.drop (i + 1)) by have := HRa.out.step ha; rwa [List.drop_drop] at this)
        have ha1 : (1 : Int) ≤ (na : Int) := by omega
        have ha2 : (na : Int) ≤ (c1 : Int) := by omega
        have ha3 : (0 : Int) < (na : Int) := by omega
        have hae : ((na : Int) == 0) = false := by rw [beq_eq_false_iff_ne]; omega
        clear hcell hcl hda hca
        have HCO := Lib.hid (show tChg.ok (⟨a[i].1, true, a[i].2, false, ⟨#[]⟩⟩ : Chg) from ⟨hao.1, hao.2, by show (0 : Nat) ≤ 140737488351232; decide⟩)
        have HN := Lib.hid (chgI_del hila hk (fun h => absurd h (by omega)))
        go_wp2_with fail
        go_quiet (fail)
        go_wp2_with fail
        refine wp_world (w0 := wr) ((Drawn.refl _).drewN _) (fun wq hwq => ?_)
        have HXq := Lib.hid (HX.out.trans hwq.ext)
        have HOq := Lib.hid (HO.out.ext hwq.ext)
        clear hwq
        refine wp_region_held_drew (S := fun W => Ext w W) (by kernel_rfl) HXq.out.drew (fun hHeld => ?_)
        have HOz := Lib.hid (show Own tChg 90 wq.drew w.heap.size (.slice C cn cc) done from HOq.out)
        generalize wq.drew = wz at hHeld HOz ⊢
        refine wpAnyH_take (i := 0) (oi := ?oiz124) (v := ?vz124) ?hiz124 (by kernel_rfl) (by kernel_rfl) (by kernel_rfl) ?hQz124 ?hyz124 (by assumption) ?restz124
        case hiz124 => simp only [List.getElem?_toArray, List.getElem?_cons_zero, List.getElem?_cons_succ]; rfl
        case hQz124 => exact fun _ _ _ h => h
        case hyz124 => exact Or.inl ⟨by rfl, by intro w hSw; (try dsimp only at hSw); go_simp; with_reducible rfl⟩
        try simp only [Act.put, List.setIfInBounds_toArray, List.set_cons_zero, List.set_cons_succ]
        refine wpAnyH_take (i := 1) (oi := ?oiz125) (v := ?vz125) ?hiz125 (by kernel_rfl) (by kernel_rfl) (by kernel_rfl) ?hQz125 ?hyz125 (by assumption) ?restz125
        case hiz125 => simp only [List.getElem?_toArray, List.getElem?_cons_zero, List.getElem?_cons_succ]; rfl
        case hQz125 => exact fun _ _ _ h => h
        case hyz125 => exact Or.inl ⟨by rfl, by intro w hSw; (try dsimp only at hSw); go_simp; with_reducible rfl⟩
        try simp only [Act.put, List.setIfInBounds_toArray, List.set_cons_zero, List.set_cons_succ]
        refine wpAnyH_take (i := 2) (oi := ?oiz126) (v := ?vz126) ?hiz126 (by kernel_rfl) (by kernel_rfl) (by kernel_rfl) ?hQz126 ?hyz126 (by assumption) ?restz126
        case hiz126 => simp only [List.getElem?_toArray, List.getElem?_cons_zero, List.getElem?_cons_succ]; rfl
        case hQz126 => exact fun _ _ _ h => h
        case hyz126 => exact Or.inl ⟨by rfl, by intro w hSw; (try dsimp only at hSw); go_simp; with_reducible rfl⟩
        try simp only [Act.put, List.setIfInBounds_toArray, List.set_cons_zero, List.set_cons_succ]
        refine wpAnyH_take (i := 3) (oi := ?oiz127) (v := ?vz127) ?hiz127 (by kernel_rfl) (by kernel_rfl) (by kernel_rfl) ?hQz127 ?hyz127 (by assumption) ?restz127
        case hiz127 => simp only [List.getElem?_toArray, List.getElem?_cons_zero, List.getElem?_cons_succ]; rfl
        case hQz127 => exact fun _ _ _ h => h
        case hyz127 => exact Or.inl ⟨by rfl, by intro w hSw; (try dsimp only at hSw); go_simp; with_reducible rfl⟩
        try simp only [Act.put, List.setIfInBounds_toArray, List.set_cons_zero, List.set_cons_succ]
        refine wpAnyH_take (i := 4) (oi := ?oiz128) (v := ?vz128) ?hiz128 (by kernel_rfl) (by kernel_rfl) (by kernel_rfl) ?hQz128 ?hyz128 (by assumption) ?restz128
        case hiz128 => simp only [List.getElem?_toArray, List.getElem?_cons_zero, List.getElem?_cons_succ]; rfl
        case hQz128 => exact fun _ _ _ h => h
        case hyz128 => exact Or.inl ⟨by rfl, by intro w hSw; (try dsimp only at hSw); go_simp; with_reducible rfl⟩
        try simp only [Act.put, List.setIfInBounds_toArray, List.set_cons_zero, List.set_cons_succ]
        refine wpAnyH_take (i := 5) (oi := ?oiz129) (v := ?vz129) ?hiz129 (by kernel_rfl) (by kernel_rfl) (by kernel_rfl) ?hQz129 ?hyz129 (by assumption) ?restz129
        case hiz129 => simp only [List.getElem?_toArray, List.getElem?_cons_zero, List.getElem?_cons_succ]; rfl
        case hQz129 => exact fun _ _ _ h => h
        case hyz129 => exact Or.inl ⟨by rfl, by intro w hSw; (try dsimp only at hSw); go_simp; with_reducible rfl⟩
        try simp only [Act.put, List.setIfInBounds_toArray, List.set_cons_zero, List.set_cons_succ]
        refine wpAnyH_take (i := 6) (oi := ?oiz130) (v := ?vz130) ?hiz130 (by kernel_rfl) (by kernel_rfl) (by kernel_rfl) ?hQz130 ?hyz130 (by assumption) ?restz130
        case hiz130 => simp only [List.getElem?_toArray, List.getElem?_cons_zero, List.getElem?_cons_succ]; rfl
        case hQz130 => exact fun _ _ _ h => h
        case hyz130 => exact Or.inl ⟨by rfl, by intro w hSw; (try dsimp only at hSw); go_simp; with_reducible rfl⟩
        try simp only [Act.put, List.setIfInBounds_toArray, List.set_cons_zero, List.set_cons_succ]
        refine wpAnyH_take (i := 7) (oi := ?oiz131) (v := ?vz131) ?hiz131 (by kernel_rfl) (by kernel_rfl) (by kernel_rfl) ?hQz131 ?hyz131 (by assumption) ?restz131
        case hiz131 => simp only [List.getElem?_toArray, List.getElem?_cons_zero, List.getElem?_cons_succ]; rfl
        case hQz131 => exact fun _ _ _ h => h
        case hyz131 => exact Or.inl ⟨by rfl, by intro w hSw; (try dsimp only at hSw); go_simp; with_reducible rfl⟩
        try simp only [Act.put, List.setIfInBounds_toArray, List.set_cons_zero, List.set_cons_succ]
        refine wpAnyH_take (i := 8) (oi := ?oiz132) (v := ?vz132) ?hiz132 (by kernel_rfl) (by kernel_rfl) (by kernel_rfl) ?hQz132 ?hyz132 (by assumption) ?restz132
        case hiz132 => simp only [List.getElem?_toArray, List.getElem?_cons_zero, List.getElem?_cons_succ]; rfl
        case hQz132 => exact fun _ _ _ h => h
        case hyz132 => exact Or.inl ⟨by rfl, by intro w hSw; (try dsimp only at hSw); go_simp; with_reducible rfl⟩
        try simp only [Act.put, List.setIfInBounds_toArray, List.set_cons_zero, List.set_cons_succ]
        refine wpAnyH_take (i := 9) (oi := ?oiz133) (v := ?vz133) ?hiz133 (by kernel_rfl) (by kernel_rfl) (by kernel_rfl) ?hQz133 ?hyz133 (by assumption) ?restz133
        case hiz133 => simp only [List.getElem?_toArray, List.getElem?_cons_zero, List.getElem?_cons_succ]; rfl
        case hQz133 => exact fun _ _ _ h => h
        case hyz133 => exact Or.inl ⟨by rfl, by intro w hSw; (try dsimp only at hSw); go_simp; with_reducible rfl⟩
        try simp only [Act.put, List.setIfInBounds_toArray, List.set_cons_zero, List.set_cons_succ]
        refine wpAnyH_ready (rs := [10]) (by kernel_rfl) (by simp) (AllReadyH.cons (o := ?oy13410) ?hy13410 (fun K hK => ?sy13410) AllReadyH.nil)
        case hy13410 => simp only [List.getElem?_toArray, List.getElem?_cons_zero, List.getElem?_cons_succ]; rfl
        go_simp
        have hH2 := hHeld.alloc (.cells (tChg.enc (⟨a[i].1, true, a[i].2, false, ⟨#[]⟩⟩ : Chg)).toArray 90)
        refine hK.out _ _ hH2 (fun _ => ?_)
        clear hK K hH2
        try simp only [Act.put, List.setIfInBounds_toArray, List.set_cons_zero, List.set_cons_succ]
        refine wpAnyH_ready (rs := [11]) (by kernel_rfl) (by simp) (AllReadyH.cons (o := ?oy13511) ?hy13511 (fun K hK => ?sy13511) AllReadyH.nil)
        case hy13511 => simp only [List.getElem?_toArray, List.getElem?_cons_zero, List.getElem?_cons_succ]; rfl
        refine stp_append rowChg rfl _ _ rfl (v := .slice C cn cc) rfl (HOz.out.alloc (.cells (tChg.enc (⟨a[i].1, true, a[i].2, false, ⟨#[]⟩⟩ : Chg)).toArray 90)) _ _ rfl (A := some ⟨wz.heap.size, 0, none⟩) (ys := [(⟨a[i].1, true, a[i].2, false, ⟨#[]⟩⟩ : Chg)]) rfl (rd_one (T := tChg) wz (⟨a[i].1, true, a[i].2, false, ⟨#[]⟩⟩ : Chg) HCO.out _) (by intro y hy; obtain rfl := List.mem_singleton.1 hy; exact HCO.out) (by have := HL.out; simp only [List.length_singleton]; omega) (hHeld.alloc _).size ?_
        intro v9 w9 ho1 hg1 hat1
        obtain ⟨C9, n9, c9, rfl⟩ := ho1.shape3
        have hH2 := (HOz.out.alloc (.cells (tChg.enc (⟨a[i].1, true, a[i].2, false, ⟨#[]⟩⟩ : Chg)).toArray 90)).ext_app (hHeld.alloc _) hg1
        refine hK.out _ _ hH2 (fun _ => ?_)
        have HO9 := Lib.hid ho1
        have HX9 := Lib.hid hH2
        clear hK K ho1 hg1 hat1 hH2 hHeld HOz
        try simp only [Act.put, List.setIfInBounds_toArray, List.set_cons_zero, List.set_cons_succ]
        refine wpAnyH_take (i := 12) (oi := ?oiz136) (v := ?vz136) ?hiz136 (by kernel_rfl) (by kernel_rfl) (by kernel_rfl) ?hQz136 ?hyz136 (by assumption) ?restz136
        case hiz136 => simp only [List.getElem?_toArray, List.getElem?_cons_zero, List.getElem?_cons_succ]; rfl
        case hQz136 => exact fun _ _ _ h => h
        case hyz136 => exact Or.inl ⟨by rfl, by intro w hSw; (try dsimp only at hSw); go_simp; with_reducible rfl⟩
        try simp only [Act.put, List.setIfInBounds_toArray, List.set_cons_zero, List.set_cons_succ]
        refine wpAnyH_done (by kernel_rfl) ?_ _
        go_wp2
        go_roundw
        case rel =>
          have e1 : na - 1 = a.length - (i + 1) := by have := HNA.out; omega
          have e2 : 0 = b.length - (k) := by have := HNB.out; omega
          have f1 := HSa.out
          have f2 := HRb.out
          rw [e1] at f1
          rw [e2] at f2
          exact ⟨i + 1, k, _, _, _, _, _, by omega, by omega, by rw [e1], by rw [e2], f1, f2, HO9.out, by rw [List.append_assoc, List.singleton_append, ← HN.out]; exact HD.out, by have := HLL.out; simp only [List.length_append, List.length_singleton]; omega, HX9.out⟩
        case measure => simp [lenV]; omega
    · obtain rfl : na = 0 := by omega
      have hai : i = a.length := by have := HNA.out; omega
      by_cases hb : 0 < nb
      · have hilb : k < b.length := by have := HNB.out; omega
        have hdb : (b.drop k)[0]'(by rw [List.length_drop]; omega) = b[k] := by simp
        obtain ⟨hnx, hcb, gb, ob, hpb, hcell⟩ := HRb.out.first hb
        clear hnx
        obtain rfl := hpb
        have hcl := hcell (by rw [List.length_drop]; omega)
        rw [hdb] at hcl
        have b0 : ∀ W, Ext w W → W.cell? ⟨gb, ob, none⟩ = some (.string b[k].1) := fun W hW => (hcl W hW).1
        have b1 : ∀ W, Ext w W → W.cell? ⟨gb, ob + 1, none⟩ = some (.string b[k].2) := fun W hW => (hcl W hW).2
        have hbo : tEnt.ok b[k] := HKb.out _ (List.getElem_mem hilb)
        have b0r := b0 _ HX.out
        have b1r := b1 _ HX.out
        have HSb := Lib.hid (show RdL tEnt w S' (.slice (if d1 = 1 then some ⟨gb, ob, none⟩ else some ⟨gb, ob + 2, none⟩) (nb - 1) (d1 - 1)) (b.drop (k + 1)) by have := HRb.out.step hb; rwa [List.drop_drop] at this)
        have hb1 : (1 : Int) ≤ (nb : Int) := by omega
        have hb2 : (nb : Int) ≤ (d1 : Int) := by omega
        have hb3 : (0 : Int) < (nb : Int) := by omega
        have hbe : ((nb : Int) == 0) = false := by rw [beq_eq_false_iff_ne]; omega
        clear hcell hcl hdb hcb
        have HCO := Lib.hid (show tChg.ok (⟨b[k].1, false, ⟨#[]⟩, true, b[k].2⟩ : Chg) from ⟨hbo.1, by show (0 : Nat) ≤ 140737488351232; decide, hbo.2⟩)
        have HN := Lib.hid (chgI_add hi hilb (fun h => absurd h (by omega)))
        go_wp2_with fail
        go_quiet (fail)
        go_wp2_with fail
        go_quiet (fail)
        go_wp2_with fail
        refine wp_world (w0 := wr) (((Drawn.refl _).drewN _).drewN _) (fun wq hwq => ?_)
        have HXq := Lib.hid (HX.out.trans hwq.ext)
        have HOq := Lib.hid (HO.out.ext hwq.ext)
        clear hwq
        refine wp_region_held_drew (S := fun W => Ext w W) (by kernel_rfl) HXq.out.drew (fun hHeld => ?_)
        have HOz := Lib.hid (show Own tChg 90 wq.drew w.heap.size (.slice C cn cc) done from HOq.out)
        generalize wq.drew = wz at hHeld HOz ⊢
        refine wpAnyH_take (i := 0) (oi := ?oiz137) (v := ?vz137) ?hiz137 (by kernel_rfl) (by kernel_rfl) (by kernel_rfl) ?hQz137 ?hyz137 (by assumption) ?restz137
        case hiz137 => simp only [List.getElem?_toArray, List.getElem?_cons_zero, List.getElem?_cons_succ]; rfl
        case hQz137 => exact fun _ _ _ h => h
        case hyz137 => exact Or.inl ⟨by rfl, by intro w hSw; (try dsimp only at hSw); go_simp; with_reducible rfl⟩
        try simp only [Act.put, List.setIfInBounds_toArray, List.set_cons_zero, List.set_cons_succ]
        refine wpAnyH_take (i := 1) (oi := ?oiz138) (v := ?vz138) ?hiz138 (by kernel_rfl) (by kernel_rfl) (by kernel_rfl) ?hQz138 ?hyz138 (by assumption) ?restz138
        case hiz138 => simp only [List.getElem?_toArray, List.getElem?_cons_zero, List.getElem?_cons_succ]; rfl
        case hQz138 => exact fun _ _ _ h => h
        case hyz138 => exact Or.inl ⟨by rfl, by intro w hSw; (try dsimp only at hSw); go_simp; with_reducible rfl⟩
        try simp only [Act.put, List.setIfInBounds_toArray, List.set_cons_zero, List.set_cons_succ]
        refine wpAnyH_take (i := 2) (oi := ?oiz139) (v := ?vz139) ?hiz139 (by kernel_rfl) (by kernel_rfl) (by kernel_rfl) ?hQz139 ?hyz139 (by assumption) ?restz139
        case hiz139 => simp only [List.getElem?_toArray, List.getElem?_cons_zero, List.getElem?_cons_succ]; rfl
        case hQz139 => exact fun _ _ _ h => h
        case hyz139 => exact Or.inl ⟨by rfl, by intro w hSw; (try dsimp only at hSw); go_simp; with_reducible rfl⟩
        try simp only [Act.put, List.setIfInBounds_toArray, List.set_cons_zero, List.set_cons_succ]
        refine wpAnyH_take (i := 3) (oi := ?oiz140) (v := ?vz140) ?hiz140 (by kernel_rfl) (by kernel_rfl) (by kernel_rfl) ?hQz140 ?hyz140 (by assumption) ?restz140
        case hiz140 => simp only [List.getElem?_toArray, List.getElem?_cons_zero, List.getElem?_cons_succ]; rfl
        case hQz140 => exact fun _ _ _ h => h
        case hyz140 => exact Or.inl ⟨by rfl, by intro w hSw; (try dsimp only at hSw); go_simp; with_reducible rfl⟩
        try simp only [Act.put, List.setIfInBounds_toArray, List.set_cons_zero, List.set_cons_succ]
        refine wpAnyH_take (i := 4) (oi := ?oiz141) (v := ?vz141) ?hiz141 (by kernel_rfl) (by kernel_rfl) (by kernel_rfl) ?hQz141 ?hyz141 (by assumption) ?restz141
        case hiz141 => simp only [List.getElem?_toArray, List.getElem?_cons_zero, List.getElem?_cons_succ]; rfl
        case hQz141 => exact fun _ _ _ h => h
        case hyz141 => exact Or.inl ⟨by rfl, by intro w hSw; (try dsimp only at hSw); go_simp; with_reducible rfl⟩
        try simp only [Act.put, List.setIfInBounds_toArray, List.set_cons_zero, List.set_cons_succ]
        refine wpAnyH_take (i := 5) (oi := ?oiz142) (v := ?vz142) ?hiz142 (by kernel_rfl) (by kernel_rfl) (by kernel_rfl) ?hQz142 ?hyz142 (by assumption) ?restz142
        case hiz142 => simp only [List.getElem?_toArray, List.getElem?_cons_zero, List.getElem?_cons_succ]; rfl
        case hQz142 => exact fun _ _ _ h => h
        case hyz142 => exact Or.inl ⟨by rfl, by intro w hSw; (try dsimp only at hSw); go_simp; with_reducible rfl⟩
        try simp only [Act.put, List.setIfInBounds_toArray, List.set_cons_zero, List.set_cons_succ]
        refine wpAnyH_take (i := 6) (oi := ?oiz143) (v := ?vz143) ?hiz143 (by kernel_rfl) (by kernel_rfl) (by kernel_rfl) ?hQz143 ?hyz143 (by assumption) ?restz143
        case hiz143 => simp only [List.getElem?_toArray, List.getElem?_cons_zero, List.getElem?_cons_succ]; rfl
        case hQz143 => exact fun _ _ _ h => h
        case hyz143 => exact Or.inl ⟨by rfl, by intro w hSw; (try dsimp only at hSw); go_simp; with_reducible rfl⟩
        try simp only [Act.put, List.setIfInBounds_toArray, List.set_cons_zero, List.set_cons_succ]
        refine wpAnyH_take (i := 7) (oi := ?oiz144) (v := ?vz144) ?hiz144 (by kernel_rfl) (by kernel_rfl) (by kernel_rfl) ?hQz144 ?hyz144 (by assumption) ?restz144
        case hiz144 => simp only [List.getElem?_toArray, List.getElem?_cons_zero, List.getElem?_cons_succ]; rfl
        case hQz144 => exact fun _ _ _ h => h
        case hyz144 => exact Or.inl ⟨by rfl, by intro w hSw; (try dsimp only at hSw); go_simp; with_reducible rfl⟩
        try simp only [Act.put, List.setIfInBounds_toArray, List.set_cons_zero, List.set_cons_succ]
        refine wpAnyH_take (i := 8) (oi := ?oiz145) (v := ?vz145) ?hiz145 (by kernel_rfl) (by kernel_rfl) (by kernel_rfl) ?hQz145 ?hyz145 (by assumption) ?restz145
        case hiz145 => simp only [List.getElem?_toArray, List.getElem?_cons_zero, List.getElem?_cons_succ]; rfl
        case hQz145 => exact fun _ _ _ h => h
        case hyz145 => exact Or.inl ⟨by rfl, by intro w hSw; (try dsimp only at hSw); go_simp; with_reducible rfl⟩
        try simp only [Act.put, List.setIfInBounds_toArray, List.set_cons_zero, List.set_cons_succ]
        refine wpAnyH_take (i := 9) (oi := ?oiz146) (v := ?vz146) ?hiz146 (by kernel_rfl) (by kernel_rfl) (by kernel_rfl) ?hQz146 ?hyz146 (by assumption) ?restz146
        case hiz146 => simp only [List.getElem?_toArray, List.getElem?_cons_zero, List.getElem?_cons_succ]; rfl
        case hQz146 => exact fun _ _ _ h => h
        case hyz146 => exact Or.inl ⟨by rfl, by intro w hSw; (try dsimp only at hSw); go_simp; with_reducible rfl⟩
        try simp only [Act.put, List.setIfInBounds_toArray, List.set_cons_zero, List.set_cons_succ]
        refine wpAnyH_ready (rs := [10]) (by kernel_rfl) (by simp) (AllReadyH.cons (o := ?oy14710) ?hy14710 (fun K hK => ?sy14710) AllReadyH.nil)
        case hy14710 => simp only [List.getElem?_toArray, List.getElem?_cons_zero, List.getElem?_cons_succ]; rfl
        go_simp
        have hH2 := hHeld.alloc (.cells (tChg.enc (⟨b[k].1, false, ⟨#[]⟩, true, b[k].2⟩ : Chg)).toArray 90)
        refine hK.out _ _ hH2 (fun _ => ?_)
        clear hK K hH2
        try simp only [Act.put, List.setIfInBounds_toArray, List.set_cons_zero, List.set_cons_succ]
        refine wpAnyH_ready (rs := [11]) (by kernel_rfl) (by simp) (AllReadyH.cons (o := ?oy14811) ?hy14811 (fun K hK => ?sy14811) AllReadyH.nil)
        case hy14811 => simp only [List.getElem?_toArray, List.getElem?_cons_zero, List.getElem?_cons_succ]; rfl
        refine stp_append rowChg rfl _ _ rfl (v := .slice C cn cc) rfl (HOz.out.alloc (.cells (tChg.enc (⟨b[k].1, false, ⟨#[]⟩, true, b[k].2⟩ : Chg)).toArray 90)) _ _ rfl (A := some ⟨wz.heap.size, 0, none⟩) (ys := [(⟨b[k].1, false, ⟨#[]⟩, true, b[k].2⟩ : Chg)]) rfl (rd_one (T := tChg) wz (⟨b[k].1, false, ⟨#[]⟩, true, b[k].2⟩ : Chg) HCO.out _) (by intro y hy; obtain rfl := List.mem_singleton.1 hy; exact HCO.out) (by have := HL.out; simp only [List.length_singleton]; omega) (hHeld.alloc _).size ?_
        intro v9 w9 ho1 hg1 hat1
        obtain ⟨C9, n9, c9, rfl⟩ := ho1.shape3
        have hH2 := (HOz.out.alloc (.cells (tChg.enc (⟨b[k].1, false, ⟨#[]⟩, true, b[k].2⟩ : Chg)).toArray 90)).ext_app (hHeld.alloc _) hg1
        refine hK.out _ _ hH2 (fun _ => ?_)
        have HO9 := Lib.hid ho1
        have HX9 := Lib.hid hH2
        clear hK K ho1 hg1 hat1 hH2 hHeld HOz
        try simp only [Act.put, List.setIfInBounds_toArray, List.set_cons_zero, List.set_cons_succ]
        refine wpAnyH_take (i := 12) (oi := ?oiz149) (v := ?vz149) ?hiz149 (by kernel_rfl) (by kernel_rfl) (by kernel_rfl) ?hQz149 ?hyz149 (by assumption) ?restz149
        case hiz149 => simp only [List.getElem?_toArray, List.getElem?_cons_zero, List.getElem?_cons_succ]; rfl
        case hQz149 => exact fun _ _ _ h => h
        case hyz149 => exact Or.inl ⟨by rfl, by intro w hSw; (try dsimp only at hSw); go_simp; with_reducible rfl⟩
        try simp only [Act.put, List.setIfInBounds_toArray, List.set_cons_zero, List.set_cons_succ]
        refine wpAnyH_done (by kernel_rfl) ?_ _
        go_wp2
        go_roundw
        case rel =>
          have e1 : 0 = a.length - (i) := by have := HNA.out; omega
          have e2 : nb - 1 = b.length - (k + 1) := by have := HNB.out; omega
          have f1 := HRa.out
          have f2 := HSb.out
          rw [e1] at f1
          rw [e2] at f2
          exact ⟨i, k + 1, _, _, _, _, _, by omega, by omega, by rw [e1], by rw [e2], f1, f2, HO9.out, by rw [List.append_assoc, List.singleton_append, ← HN.out]; exact HD.out, by have := HLL.out; simp only [List.length_append, List.length_singleton]; omega, HX9.out⟩
        case measure => simp [lenV]; omega
      · obtain rfl : nb = 0 := by omega
        have hbk : k = b.length := by have := HNB.out; omega
        subst hai hbk
        rw [chgI_end, List.append_nil] at HD
        go_wp2
        go_ret
        exact ⟨_, rfl, by rw [← HD.out]; exact HO.out, HX.out⟩
end Go.Proofs.Ytmndkbheehcoaaa
/- The changes between two maps, as they are asked for. No condition. -/
namespace Go.Proofs.Ytmndkbheehcoaaa
open Go.RowKit
set_option linter.unusedVariables false
set_option linter.unusedSimpArgs false

theorem chgN_len (f : Nat) : ∀ a b : List En, (chgN f a b).length ≤ a.length + b.length := by
  induction f with
  | zero => intro a b; exact Nat.zero_le _
  | succ f ih =>
    intro a b
    match a, b with
    | [], [] => exact Nat.zero_le _
    | x :: a, [] => rw [chgN]; have := ih a []; simp only [List.length_cons, List.length_nil] at *; omega
    | [], y :: b => rw [chgN]; have := ih [] b; simp only [List.length_cons, List.length_nil] at *; omega
    | x :: a, y :: b =>
      rw [chgN]
      have h1 := ih a (y :: b)
      have h2 := ih (x :: a) b
      have h3 := ih a b
      simp only [List.length_cons] at *
      split
      · simp only [List.length_cons]; omega
      · split
        · simp only [List.length_cons]; omega
        · split
          · omega
          · simp only [List.length_cons]; omega
theorem okE_len {L : List En} (h : okE L = true) : L.length ≤ 64 := by
  rw [okE_eq] at h
  simp at h
  exact h.2
theorem chgsR_len (a b : List En) : (chgsR a b).1.length ≤ 128 := by
  unfold chgsR
  split
  · rename_i h
    rw [Bool.and_eq_true] at h
    have h1 := okE_len h.1
    have h2 := okE_len h.2
    rw [chgI_eq, List.drop_zero, List.drop_zero]
    have := chgN_len (a.length + b.length) a b
    show (chgN (a.length + b.length) a b).length ≤ 128
    omega
  · exact Nat.zero_le _
set_option maxHeartbeats 1000000 in
set_option maxRecDepth 100000 in
theorem specChangesOf_any (v u : Value) (a b : List En) (w : World) (S S' : Nat → Prop) (h : RdL tEnt w S v a) (h' : RdL tEnt w S' u b) :
    Calls Try.prog 27 #[v, u] w fun e w' => ∃ v', e = .returned (.tuple #[v', .int .i64 (chgsR a b).2]) ∧ Own tChg 90 w' w.heap.size v' (chgsR a b).1 ∧ Ext w w' := by
  have H := Lib.hid h
  have H' := Lib.hid h'
  have hc := l04Ok_any v a w S h
  have hc2 := fun W (hW : Ext w W) => l04Ok_any u b W S' (h'.ext (by decide) hW)
  obtain ⟨A, capa, rfl, _⟩ := h
  obtain ⟨B, capb, rfl, _⟩ := h'
  cases ha : okE a with
  | false =>
    simp only [chgsR, ha, Bool.false_and, Bool.false_eq_true, if_false]
    simp only [ha] at hc
    clear ha hc2
    go_enter Try.func27, Try.ntmps27
    go_wp2_with fail
    refine hc.mono ?_
    rintro e w1 ⟨rfl, hx⟩
    have HX := Lib.hid hx
    clear hx
    go_wp2
    go_ret2
    exact ⟨_, rfl, Own.empty tChg _ 90 _ HX.out.size, HX.out.alloc _⟩
  | true =>
    simp only [ha] at hc
    cases hb : okE b with
    | false =>
      simp only [chgsR, ha, hb, Bool.and_false, Bool.false_eq_true, if_false]
      simp only [hb] at hc2
      clear ha hb
      go_enter Try.func27, Try.ntmps27
      go_wp2_with fail
      refine hc.mono ?_
      rintro e w1 ⟨rfl, hx⟩
      have HX := Lib.hid hx
      clear hx
      go_wp2_with fail
      refine (hc2 _ HX.out).mono ?_
      rintro e w2 ⟨rfl, hx⟩
      have HX2 := Lib.hid (HX.out.trans hx)
      clear hx
      go_wp2
      go_ret2
      exact ⟨_, rfl, Own.empty tChg _ 90 _ HX2.out.size, HX2.out.alloc _⟩
    | true =>
      simp only [chgsR, ha, hb, Bool.and_true, if_true]
      simp only [hb] at hc2
      have h1 := okE_len ha
      have h2 := okE_len hb
      clear ha hb
      obtain ⟨R, hR⟩ : ∃ R, chgI a b 0 0 = R := ⟨_, rfl⟩
      have hch := fun W (hW : Ext w W) => l04Changes_any _ _ a b h1 h2 W S S' (H.out.ext (by decide) hW) (H'.out.ext (by decide) hW)
      simp only [hR] at hch ⊢
      clear hR
      go_enter Try.func27, Try.ntmps27
      go_wp2_with fail
      refine hc.mono ?_
      rintro e w1 ⟨rfl, hx⟩
      have HX := Lib.hid hx
      clear hx
      go_wp2_with fail
      refine (hc2 _ HX.out).mono ?_
      rintro e w2 ⟨rfl, hx⟩
      have HX2 := Lib.hid (HX.out.trans hx)
      clear hx
      go_wp2_with fail
      refine (hch _ HX2.out).mono ?_
      rintro e w3 ⟨v3, rfl, ho, hx⟩
      have HO := Lib.hid (ho.le (base' := w.heap.size) HX2.out.size)
      have HX3 := Lib.hid (HX2.out.trans hx)
      obtain ⟨A3, n3, c3, rfl⟩ := ho.shape3
      clear ho hx
      go_wp2
      go_ret2
      exact ⟨_, rfl, HO.out, HX3.out⟩
set_option maxHeartbeats 1000000 in
set_option maxRecDepth 100000 in
theorem implChangesOf_any (v u : Value) (a b : List En) (w : World) (S S' : Nat → Prop) (h : RdL tEnt w S v a) (h' : RdL tEnt w S' u b) :
    Calls Try.prog 28 #[v, u] w fun e w' => ∃ v', e = .returned (.tuple #[v', .int .i64 (chgsR a b).2]) ∧ Own tChg 90 w' w.heap.size v' (chgsR a b).1 ∧ Ext w w' := by
  have H := Lib.hid h
  have H' := Lib.hid h'
  have hc := validEntries_any v a w S h
  have hc2 := fun W (hW : Ext w W) => validEntries_any u b W S' (h'.ext (by decide) hW)
  obtain ⟨A, capa, rfl, _⟩ := h
  obtain ⟨B, capb, rfl, _⟩ := h'
  cases ha : okE a with
  | false =>
    simp only [chgsR, ha, Bool.false_and, Bool.false_eq_true, if_false]
    simp only [ha] at hc
    clear ha hc2
    go_enter Try.func28, Try.ntmps28
    go_wp2_with fail
    refine hc.mono ?_
    rintro e w1 ⟨rfl, hx⟩
    have HX := Lib.hid hx
    clear hx
    go_wp2
    go_ret2
    exact ⟨_, rfl, Own.nil tChg 90 _ _, HX.out⟩
  | true =>
    simp only [ha] at hc
    cases hb : okE b with
    | false =>
      simp only [chgsR, ha, hb, Bool.and_false, Bool.false_eq_true, if_false]
      simp only [hb] at hc2
      clear ha hb
      go_enter Try.func28, Try.ntmps28
      go_wp2_with fail
      refine hc.mono ?_
      rintro e w1 ⟨rfl, hx⟩
      have HX := Lib.hid hx
      clear hx
      go_wp2_with fail
      refine (hc2 _ HX.out).mono ?_
      rintro e w2 ⟨rfl, hx⟩
      have HX2 := Lib.hid (HX.out.trans hx)
      clear hx
      go_wp2
      go_ret2
      exact ⟨_, rfl, Own.nil tChg 90 _ _, HX2.out⟩
    | true =>
      simp only [chgsR, ha, hb, Bool.and_true, if_true]
      simp only [hb] at hc2
      have h1 := okE_len ha
      have h2 := okE_len hb
      clear ha hb
      obtain ⟨R, hR⟩ : ∃ R, chgI a b 0 0 = R := ⟨_, rfl⟩
      have hch := fun W (hW : Ext w W) => changes_any _ _ a b h1 h2 W S S' (H.out.ext (by decide) hW) (H'.out.ext (by decide) hW)
      simp only [hR] at hch ⊢
      clear hR
      go_enter Try.func28, Try.ntmps28
      go_wp2_with fail
      refine hc.mono ?_
      rintro e w1 ⟨rfl, hx⟩
      have HX := Lib.hid hx
      clear hx
      go_wp2_with fail
      refine (hc2 _ HX.out).mono ?_
      rintro e w2 ⟨rfl, hx⟩
      have HX2 := Lib.hid (HX.out.trans hx)
      clear hx
      go_wp2_with fail
      refine (hch _ HX2.out).mono ?_
      rintro e w3 ⟨v3, rfl, ho, hx⟩
      have HO := Lib.hid (ho.le (base' := w.heap.size) HX2.out.size)
      have HX3 := Lib.hid (HX2.out.trans hx)
      obtain ⟨A3, n3, c3, rfl⟩ := ho.shape3
      clear ho hx
      go_wp2
      go_ret2
      exact ⟨_, rfl, HO.out, HX3.out⟩
end Go.Proofs.Ytmndkbheehcoaaa
/- The program's key of a node; nodes in the laws' words. No condition. -/
namespace Go.Proofs.Ytmndkbheehcoaaa
open Go.RowKit
set_option linter.unusedVariables false
set_option linter.unusedSimpArgs false

theorem aggMapNodeL : Agg Try.prog 96 66 := aggNodeL
theorem aggMapNodeI : Agg Try.prog 31 66 := aggNodeI
set_option maxHeartbeats 1000000 in
set_option maxRecDepth 100000 in
theorem nodeKey_any (x : Nd) (hok : x.ok) (he : entB x.n x.v = true) (w : World) :
    Calls Try.prog 101 #[.agg x.enc.toArray] w fun e w' => e = .returned (.agg (numsA .u8 (hashL 5 (nodeL x)))) ∧ Ext w w' := by
  have hk := (hashL_ok 5 (nodeL x)).1
  have hle := entB_le he
  have hnl := nodeL_length hok
  have Hnl : Hid ((nodeL x).length ≤ 1000) := Lib.hid (by omega)
  have hsz := (Nd.st hok).size
  clear hle hnl
  go_enter Try.func101, Try.ntmps101
  go_wp2_with (refine wpl_loadB ((Blk.new w _ _).alloc _) aggNodeI hsz rfl _ rfl rfl ?_)
  refine (nodeBytes_any x hok he _).mono ?_
  rintro e w1 ⟨v1, rfl, ho, hx⟩
  obtain ⟨A1, n1, c1, rfl⟩ := ho.shape3
  have B1 := Lib.hid ((Blk.new' (g := w.heap.size + 1) (w := w.alloc _) (by simp) 27 _).ext hx)
  have XW := Lib.hid (((ext_alloc w _).alloc _).trans hx)
  have HO := Lib.hid ho
  clear hx ho
  go_wp2_with fail
  refine (hash_any 5 (by decide) _ (nodeL x) _ _ HO.out.rd (by have := Hnl.out; omega)).mono ?_
  rintro e w2 ⟨rfl, hx⟩
  replace B1 := Lib.hid (B1.out.ext hx)
  replace XW := Lib.hid (XW.out.trans hx)
  clear hx HO
  go_wp2_with (refine wpl_storeN B1.out aggKey hk rfl rfl _ _ rfl rfl rfl rfl ?_)
  refine bodyPost_ret (results_blk rfl _ rfl aggKey hk (B1.out.setRow _)) rfl ?_
  exact ⟨rfl, XW.out.setRow (by omega) _⟩
set_option maxHeartbeats 1000000 in
set_option maxRecDepth 100000 in
theorem implMapNodeKey_any (x : Nd) (hok : x.ok) (w : World) :
    Calls Try.prog 41 #[.agg x.enc.toArray] w fun e w' => e = .returned (.tuple #[.agg (numsA .u8 (nodeKR x).1), .int .i64 (nodeKR x).2]) ∧ Ext w w' := by
  have hk := (hashL_ok 5 (nodeL x)).1
  have hc := validEntry_any x.n x.v hok.2.2.1 hok.2.2.2
  have hsz := (Nd.st hok).size
  cases hb : entB x.n x.v with
  | true =>
    have HE := Lib.hid hb
    simp only [nodeKR, hb, if_true]
    simp only [hb] at hc
    clear hb
    go_enter Try.func41, Try.ntmps41
    go_wp2_with (refine wpl_loadP (off := 64) (sub := #[.string x.n, .string x.v]) ((Blk.new w _ _).alloc _) aggEntryI rfl (Nd.ent hok) rfl _ rfl rfl ?_)
    refine (hc _).mono ?_
    rintro e w1 ⟨rfl, hx⟩
    have B0 := Lib.hid (((Blk.new w 31 x.enc.toArray).alloc _).ext hx)
    have B1 := Lib.hid ((Blk.new' (g := w.heap.size + 1) (w := w.alloc _) (by simp) 27 _).ext hx)
    have XW := Lib.hid (((ext_alloc w _).alloc _).trans hx)
    clear hx
    go_wp2_with (refine wpl_loadB B0.out aggNodeI hsz rfl _ rfl rfl ?_)
    refine (nodeKey_any x hok HE.out _).mono ?_
    rintro e w2 ⟨rfl, hx⟩
    replace B1 := Lib.hid (B1.out.ext hx)
    replace XW := Lib.hid (XW.out.trans hx)
    clear hx B0
    go_wp2_with (refine wpl_storeN B1.out aggKey hk rfl rfl _ _ rfl rfl rfl rfl ?_)
    refine bodyPost_ret (results_blk2 rfl _ rfl aggKey hk (B1.out.setRow _) rfl) rfl ?_
    exact ⟨rfl, XW.out.setRow (by omega) _⟩
  | false =>
    simp only [nodeKR, hb, Bool.false_eq_true, if_false]
    simp only [hb] at hc
    clear hb
    go_enter Try.func41, Try.ntmps41
    go_wp2_with (refine wpl_loadP (off := 64) (sub := #[.string x.n, .string x.v]) ((Blk.new w _ _).alloc _) aggEntryI rfl (Nd.ent hok) rfl _ rfl rfl ?_)
    refine (hc _).mono ?_
    rintro e w1 ⟨rfl, hx⟩
    have B1 := Lib.hid ((Blk.new' (g := w.heap.size + 1) (w := w.alloc _) (by simp) 27 _).ext hx)
    have XW := Lib.hid (((ext_alloc w _).alloc _).trans hx)
    clear hx
    go_wp2_with (refine wpl_storeN (xs := List.replicate 32 0) B1.out aggKey rfl rfl rfl _ _ rfl rfl rfl rfl ?_)
    refine bodyPost_ret (results_blk2 rfl _ rfl aggKey rfl (B1.out.setRow _) rfl) rfl ?_
    exact ⟨rfl, XW.out.setRow (by omega) _⟩
theorem specMapNodeKey_u (cs : Array Value) (x : Nd) (w : World) (S : Nat → Prop) (h : RMapNode w S cs x) :
    Calls Try.prog 61 #[.agg cs] w fun e w' => e = .returned (.tuple #[.agg (numsA .u8 (nodeKR x).1), .int .i64 (nodeKR x).2]) ∧ Ext w w' := by
  obtain ⟨rfl, h⟩ := h
  exact specMapNodeKey_any x h w
theorem implMapNodeKey_u (cs : Array Value) (x : Nd) (w : World) (S : Nat → Prop) (h : RMapNode w S cs x) :
    Calls Try.prog 41 #[.agg cs] w fun e w' => e = .returned (.tuple #[.agg (numsA .u8 (nodeKR x).1), .int .i64 (nodeKR x).2]) ∧ Ext w w' := by
  obtain ⟨rfl, h⟩ := h
  exact implMapNodeKey_any x h w

end Go.Proofs.Ytmndkbheehcoaaa
/- Lists of nodes: copied, counted, held against each other. No condition. -/
namespace Go.Proofs.Ytmndkbheehcoaaa
open Go.RowKit
set_option linter.unusedVariables false
set_option linter.unusedSimpArgs false

theorem toNdT_any (a : Nd) (ha : tNd.ok a) (w : World) :
    Calls Try.prog 84 #[.agg (tNd.enc a).toArray] w fun e w' => e = .returned (.agg (tNd.enc a).toArray) ∧ Ext w w' := toMapNode_any a ha w
set_option maxHeartbeats 1000000 in
set_option maxRecDepth 100000 in
theorem toMapNodeS_u (v : Value) (xs : List Nd) (w : World) (S : Nat → Prop) (h : RdL tNd w S v xs) (hln : xs.length ≤ 1048576) :
    Calls Try.prog 16 #[v] w fun e w' => ∃ v', e = .returned v' ∧ Own tNd 31 w' w.heap.size v' xs ∧ Ext w w' := by
  obtain ⟨A, cap, rfl, hcap, hlen, hrd, hok⟩ := h
  have Hrd := Lib.hid hrd
  have Hok := Lib.hid hok
  have HF := Lib.hid (flat_length tNd xs hok)
  clear hrd hok
  obtain ⟨Z, hms, hm⟩ := make_rowN 36 31 66 96 Try.underlying36 (by kernel_rfl) .i64 .i64 xs.length (by omega) (by omega)
  have HMS := Lib.hid hms
  clear hms
  go_enter Try.func16, Try.ntmps16
  go_wp2
  go_loopw [4] (fun i wr => ∃ k : Nat, k ≤ xs.length ∧ i = .int .i64 k ∧ Fill wr w.heap.size 31 ((xs.take k).flatMap (tNd).enc) ((xs.length - k) * 66) ∧ Ext w wr)
    (fun i _ => xs.length - (intOf i).toNat)
  case atStart => exact ⟨0, by omega, rfl, by rw [List.take_zero]; exact Fill.start' (Blk.new w _ _) (by rw [HMS.out, Nat.sub_zero]), ext_alloc _ _⟩
  case round =>
    obtain ⟨k, hk, rfl, hF, hx⟩ := hrel
    have HFl := Lib.hid hF
    have HX := Lib.hid hx
    clear hm hF hx
    by_cases hlt : k < xs.length
    · obtain ⟨g, o, rfl, hs, hc⟩ := Hrd.out.elem Hok.out k hlt
      have hx0 : (tNd).ok xs[k] := Hok.out _ (List.getElem_mem hlt)
      have HX0 := Lib.hid hx0
      have hd : ∀ j u, ((tNd).enc xs[k])[j]? = some u → wr.cell? ⟨g, o + k * 66 + j, none⟩ = some u := fun j u hu => HX.out.cell (hc j u hu)
      have HD := Lib.hid hd
      have HL := Lib.hid (flat_length tNd (xs.take k) (fun x hx => Hok.out x (List.mem_of_mem_take hx)))
      have HTK := Lib.hid (show (xs.take k).length = k by rw [List.length_take]; omega)
      have HSN := Lib.hid (show (xs.take (k + 1)).flatMap (tNd).enc = (xs.take k).flatMap (tNd).enc ++ (tNd).enc xs[k] by rw [List.take_succ_eq_append_getElem hlt, List.flatMap_append, List.flatMap_cons, List.flatMap_nil, List.append_nil])
      have HST := Lib.hid (show St 66 ((tNd).enc xs[k]).toArray from ⟨by rw [List.size_toArray]; exact (tNd).len _ hx0, by simpa using (tNd).one _⟩)
      have HMU := Lib.hid (show (xs.length - k) * 66 = 66 + (xs.length - (k + 1)) * 66 by omega)
      clear hc hd hx0
      have hi : (0 : Int) ≤ (k : Int) := by omega
      go_wp2_with (refine wpl_load ⟨g, o + k * 66, none⟩ ((tNd).enc xs[k]) (by rw [(tNd).len _ HX0.out]; exact aggNodeL) rfl _ rfl rfl (fun j u hu => by rw [Addr.add_lit]; exact HD.out j u hu) ?_)
      refine (toNdT_any xs[k] HX0.out _).mono ?_
      rintro e w1 ⟨rfl, hx⟩
      have HF2 := Lib.hid (HFl.out.ext hx)
      have HX2 := Lib.hid (HX.out.trans hx)
      clear hx HX HFl HD
      go_wp2_with (refine wpl_fill (n := 66) (m := (xs.length - (k + 1)) * 66) (by rw [← HMU.out]; exact HF2.out) (by rw [HL.out, HTK.out]; rfl) aggNodeI HST.out rfl _ _ rfl rfl rfl rfl ?_; intro row hF; have HF3 := Lib.hid hF; clear hF)
      go_roundw
      case rel => exact ⟨k + 1, by omega, by go_num, by rw [HSN.out]; simpa using HF3.out, HX2.out.setRow (Nat.le_refl _) _⟩
      case measure => simp [intOf]; omega
    · obtain rfl : k = xs.length := by omega
      have hb := HFl.out
      rw [List.take_length, Nat.sub_self, Nat.zero_mul] at hb
      have HB := Lib.hid hb.done
      clear hb
      go_wp2
      go_ret
      exact ⟨_, rfl, Own.of_blk tNd HB.out (Nat.le_refl _) hlen Hok.out, HX.out⟩

set_option maxHeartbeats 1000000 in
set_option maxRecDepth 100000 in
theorem eqNdT_any (a : Nd) (ha : tNd.ok a) (w : World) :
    Calls Try.prog 18 #[.agg (tNd.enc a).toArray, .agg (tNd.enc a).toArray] w fun e w' => e = .returned (.bool true) ∧ Ext w w' := by
  have hok : a.ok := ha
  have HL := Lib.hid (sizeN (k := .u8) hok.1.1)
  have HR := Lib.hid (sizeN (k := .u8) hok.2.1.1)
  have b1 : (a.l == a.l) = true := by simp
  have b2 : (a.r == a.r) = true := by simp
  show Calls Try.prog 18 #[.agg a.enc.toArray, .agg a.enc.toArray] w _
  go_enter Try.func18, Try.ntmps18
  go_wp2_with (first
    | (refine wpl_loadP (off := 0) (sub := numsA .u8 a.l) ((Blk.new w 31 a.enc.toArray).alloc _) aggKey HL.out (Nd.left hok) rfl _ rfl rfl ?_)
    | (refine wpl_loadP (off := 0) (sub := numsA .u8 a.l) (Blk.new' (g := w.heap.size + 1) (w := w.alloc _) (by simp) 31 a.enc.toArray) aggKey HL.out (Nd.left hok) rfl _ rfl rfl ?_))
  refine (eqKey_any a.l a.l hok.1 hok.1 _).mono ?_
  rintro e w1 ⟨rfl, hx⟩
  rw [b1]
  have B0 := Lib.hid (((Blk.new w 31 a.enc.toArray).alloc _).ext hx)
  have B1 := Lib.hid ((Blk.new' (g := w.heap.size + 1) (w := w.alloc _) (by simp) 31 a.enc.toArray).ext hx)
  have XW := Lib.hid (((ext_alloc w _).alloc _).trans hx)
  clear hx
  go_wp2_with (first
    | (refine wpl_loadP (off := 32) (sub := numsA .u8 a.r) B0.out aggKey HR.out (Nd.right hok) rfl _ rfl rfl ?_)
    | (refine wpl_loadP (off := 32) (sub := numsA .u8 a.r) B1.out aggKey HR.out (Nd.right hok) rfl _ rfl rfl ?_))
  refine (eqKey_any a.r a.r hok.2.1 hok.2.1 _).mono ?_
  rintro e w2 ⟨rfl, hx⟩
  rw [b2]
  replace B0 := Lib.hid (B0.out.ext hx)
  replace B1 := Lib.hid (B1.out.ext hx)
  replace XW := Lib.hid (XW.out.trans hx)
  clear hx
  go_wp2_with (first
    | (refine wpl_loadP (off := 64) (sub := #[.string a.n, .string a.v]) B0.out aggEntryI rfl (Nd.ent hok) rfl _ rfl rfl ?_)
    | (refine wpl_loadP (off := 64) (sub := #[.string a.n, .string a.v]) B1.out aggEntryI rfl (Nd.ent hok) rfl _ rfl rfl ?_))
  refine (eqEntT_any (a.n, a.v) ⟨hok.2.2.1, hok.2.2.2⟩ _).mono ?_
  rintro e w3 ⟨rfl, hx⟩
  replace XW := Lib.hid (XW.out.trans hx)
  clear hx
  go_wp2
  go_ret
  exact ⟨rfl, XW.out⟩
set_option maxHeartbeats 1000000 in
set_option maxRecDepth 100000 in
theorem eqMapNodeS_u (v u : Value) (xs : List Nd) (w : World) (S S' : Nat → Prop) (h : RdL tNd w S v xs) (h' : RdL tNd w S' u xs) :
    Calls Try.prog 20 #[v, u] w fun e w' => e = .returned (.bool true) ∧ Ext w w' := by
  obtain ⟨A, cap, rfl, hcap, hlen, hrd, hok⟩ := h
  obtain ⟨A', cap', rfl, hcap', hlen', hrd', hok'⟩ := h'
  have Hrd := Lib.hid hrd
  have Hrd' := Lib.hid hrd'
  have Hok := Lib.hid hok
  clear hrd hok hrd' hok'
  have hl1 : ((xs.length : Int) != (xs.length : Int)) = false := by simp
  go_enter Try.func20, Try.ntmps20
  go_wp2
  go_loopw [5] (fun i wr => ∃ k : Nat, k ≤ xs.length ∧ i = .int .i64 k ∧ Ext w wr) (fun i _ => xs.length - (intOf i).toNat)
  case atStart => exact ⟨0, by omega, rfl, Ext.refl _⟩
  case round =>
    obtain ⟨k, hk, rfl, hx⟩ := hrel
    have HX := Lib.hid hx
    clear hx hl1
    by_cases hlt : k < xs.length
    · obtain ⟨g, o, rfl, hs, hc⟩ := Hrd.out.elem Hok.out k hlt
      obtain ⟨g2, o2, rfl, hs2, hc2⟩ := Hrd'.out.elem Hok.out k hlt
      have HX0 := Lib.hid (show (tNd).ok xs[k] from Hok.out _ (List.getElem_mem hlt))
      have HD := Lib.hid (show ∀ j u, ((tNd).enc xs[k])[j]? = some u → wr.cell? ⟨g, o + k * 66 + j, none⟩ = some u from fun j u hu => HX.out.cell (hc j u hu))
      have HD2 := Lib.hid (show ∀ j u, ((tNd).enc xs[k])[j]? = some u → wr.cell? ⟨g2, o2 + k * 66 + j, none⟩ = some u from fun j u hu => HX.out.cell (hc2 j u hu))
      clear hc hc2
      have hi : (0 : Int) ≤ (k : Int) := by omega
      have hi2 : (k : Int) < (xs.length : Int) := by omega
      go_wp2_with fail
      refine wp_region_held_drew (S := fun W => Ext wr W) (by kernel_rfl) (Ext.refl _).drew (fun hHeld => ?_)
      refine wpAnyH_take (i := 0) (oi := ?oiq0) (v := ?vq0) ?hiq0 (by kernel_rfl) (by kernel_rfl) (by kernel_rfl) ?hQq0 ?hyq0 (by assumption) ?restq0
      case hiq0 => simp only [List.getElem?_toArray, List.getElem?_cons_zero, List.getElem?_cons_succ]; rfl
      case hQq0 => exact fun _ _ _ h => h
      case hyq0 => exact Or.inl ⟨by rfl, by intro w hSw; go_simp; with_reducible rfl⟩
      try simp only [Act.put, List.setIfInBounds_toArray, List.set_cons_zero, List.set_cons_succ]
      refine wpAnyH_take (i := 1) (oi := ?oiq1) (v := ?vq1) ?hiq1 (by kernel_rfl) (by kernel_rfl) (by kernel_rfl) ?hQq1 ?hyq1 (by assumption) ?restq1
      case hiq1 => simp only [List.getElem?_toArray, List.getElem?_cons_zero, List.getElem?_cons_succ]; rfl
      case hQq1 => exact fun _ _ _ h => h
      case hyq1 => exact Or.inl ⟨by rfl, by intro w hSw; go_simp; with_reducible rfl⟩
      try simp only [Act.put, List.setIfInBounds_toArray, List.set_cons_zero, List.set_cons_succ]
      refine wpAnyH_take (i := 2) (oi := ?oiq2) (v := ?vq2) ?hiq2 (by kernel_rfl) (by kernel_rfl) (by kernel_rfl) ?hQq2 ?hyq2 (by assumption) ?restq2
      case hiq2 => simp only [List.getElem?_toArray, List.getElem?_cons_zero, List.getElem?_cons_succ]; rfl
      case hQq2 => exact fun _ _ _ h => h
      case hyq2 => exact Or.inl ⟨by rfl, by intro w hSw; go_simp; with_reducible rfl⟩
      try simp only [Act.put, List.setIfInBounds_toArray, List.set_cons_zero, List.set_cons_succ]
      refine wpAnyH_take (i := 3) (oi := ?oiq3) (v := (.agg ((tNd).enc xs[k]).toArray)) ?hiq3 (by kernel_rfl) (by kernel_rfl) (by kernel_rfl) ?hQq3 ?hyq3 (by assumption) ?restq3
      case hiq3 => simp only [List.getElem?_toArray, List.getElem?_cons_zero, List.getElem?_cons_succ]; rfl
      case hQq3 => exact fun _ _ _ h => h
      case hyq3 => refine yields_loadR g (o + k * 66) ((tNd).enc xs[k]) (by rw [(tNd).len _ HX0.out]; exact aggNodeI) HD.out ?_ _ rfl rfl; rfl
      try simp only [Act.put, List.setIfInBounds_toArray, List.set_cons_zero, List.set_cons_succ]
      refine wpAnyH_take (i := 4) (oi := ?oiq4) (v := ?vq4) ?hiq4 (by kernel_rfl) (by kernel_rfl) (by kernel_rfl) ?hQq4 ?hyq4 (by assumption) ?restq4
      case hiq4 => simp only [List.getElem?_toArray, List.getElem?_cons_zero, List.getElem?_cons_succ]; rfl
      case hQq4 => exact fun _ _ _ h => h
      case hyq4 => exact Or.inl ⟨by rfl, by intro w hSw; go_simp; with_reducible rfl⟩
      try simp only [Act.put, List.setIfInBounds_toArray, List.set_cons_zero, List.set_cons_succ]
      refine wpAnyH_take (i := 5) (oi := ?oiq5) (v := ?vq5) ?hiq5 (by kernel_rfl) (by kernel_rfl) (by kernel_rfl) ?hQq5 ?hyq5 (by assumption) ?restq5
      case hiq5 => simp only [List.getElem?_toArray, List.getElem?_cons_zero, List.getElem?_cons_succ]; rfl
      case hQq5 => exact fun _ _ _ h => h
      case hyq5 => exact Or.inl ⟨by rfl, by intro w hSw; go_simp; with_reducible rfl⟩
      try simp only [Act.put, List.setIfInBounds_toArray, List.set_cons_zero, List.set_cons_succ]
      refine wpAnyH_take (i := 6) (oi := ?oiq6) (v := ?vq6) ?hiq6 (by kernel_rfl) (by kernel_rfl) (by kernel_rfl) ?hQq6 ?hyq6 (by assumption) ?restq6
      case hiq6 => simp only [List.getElem?_toArray, List.getElem?_cons_zero, List.getElem?_cons_succ]; rfl
      case hQq6 => exact fun _ _ _ h => h
      case hyq6 => exact Or.inl ⟨by rfl, by intro w hSw; go_simp; with_reducible rfl⟩
      try simp only [Act.put, List.setIfInBounds_toArray, List.set_cons_zero, List.set_cons_succ]
      refine wpAnyH_take (i := 7) (oi := ?oiq7) (v := (.agg ((tNd).enc xs[k]).toArray)) ?hiq7 (by kernel_rfl) (by kernel_rfl) (by kernel_rfl) ?hQq7 ?hyq7 (by assumption) ?restq7
      case hiq7 => simp only [List.getElem?_toArray, List.getElem?_cons_zero, List.getElem?_cons_succ]; rfl
      case hQq7 => exact fun _ _ _ h => h
      case hyq7 => refine yields_loadR g2 (o2 + k * 66) ((tNd).enc xs[k]) (by rw [(tNd).len _ HX0.out]; exact aggNodeI) HD2.out ?_ _ rfl rfl; rfl
      try simp only [Act.put, List.setIfInBounds_toArray, List.set_cons_zero, List.set_cons_succ]
      refine wpAnyH_ready (rs := [8]) (by kernel_rfl) (by simp) (AllReadyH.cons (o := ?o8) ?h8 (fun K hK => ?s8) AllReadyH.nil)
      case h8 => simp only [List.getElem?_toArray, List.getElem?_cons_zero, List.getElem?_cons_succ]; rfl
      go_simp
      refine (eqNdT_any xs[k] HX0.out _).mono ?_
      rintro e w1 ⟨rfl, hx⟩
      have hH2 := hHeld.trans hx
      refine hK.out _ _ hH2 (fun _ => ?_)
      clear hHeld hK K
      have hHeld := hH2
      clear hH2 hx
      try simp only [Act.put, List.setIfInBounds_toArray, List.set_cons_zero, List.set_cons_succ]
      refine wpAnyH_take (i := 9) (oi := ?oiq9) (v := ?vq9) ?hiq9 (by kernel_rfl) (by kernel_rfl) (by kernel_rfl) ?hQq9 ?hyq9 (by assumption) ?restq9
      case hiq9 => simp only [List.getElem?_toArray, List.getElem?_cons_zero, List.getElem?_cons_succ]; rfl
      case hQq9 => exact fun _ _ _ h => h
      case hyq9 => exact Or.inl ⟨by rfl, by intro w hSw; go_simp; with_reducible rfl⟩
      try simp only [Act.put, List.setIfInBounds_toArray, List.set_cons_zero, List.set_cons_succ]
      refine wpAnyH_done (by kernel_rfl) ?_ _
      have HX2 := Lib.hid (HX.out.trans hHeld)
      clear hHeld
      go_wp2
      go_roundw
      case rel => exact ⟨k + 1, by omega, by go_num, HX2.out⟩
      case measure => simp [intOf]; omega
    · go_wp2
      go_ret
      exact ⟨rfl, HX.out⟩

/-- how much the entries take -/
@[irreducible] def ndsN (l : List Nd) : Nat := l.length + (l.map fun e => e.n.size + e.v.size).sum
theorem ndsN_eq (l : List Nd) : ndsN l = l.length + (l.map fun e => e.n.size + e.v.size).sum := by rw [ndsN]
def sumNd (l : List Nd) (k : Nat) : Nat := ((l.take k).map fun e => e.n.size + e.v.size).sum
theorem sumNd_zero (l : List Nd) : sumNd l 0 = 0 := by simp [sumNd]
theorem sumNd_succ (l : List Nd) (k : Nat) (h : k < l.length) : sumNd l (k + 1) = sumNd l k + (l[k].n.size + l[k].v.size) := by
  unfold sumNd
  rw [List.take_succ_eq_append_getElem h, List.map_append, List.sum_append]; simp
theorem sumNd_le (l : List Nd) (k : Nat) : sumNd l k ≤ (l.map fun e => e.n.size + e.v.size).sum := by
  unfold sumNd
  conv => rhs; rw [← List.take_append_drop k l, List.map_append, List.sum_append]
  omega
set_option maxHeartbeats 1000000 in
set_option maxRecDepth 100000 in
theorem szMapNodeS_u (v : Value) (xs : List Nd) (l : Int) (w : World) (S : Nat → Prop) (h : RdL tNd w S v xs) (h0 : -1 ≤ l) (h1 : l ≤ 1048576) :
    Calls Try.prog 13 #[v, .int .i64 l] w fun e w' => e = .returned (.int .i64 (if l - (ndsN xs : Nat) < 0 then -1 else l - (ndsN xs : Nat))) ∧ Ext w w' := by
  rw [ndsN_eq]
  obtain ⟨A, cap, rfl, hcap, hlen, hrd, hok⟩ := h
  have Hrd := Lib.hid hrd
  have Hok := Lib.hid hok
  obtain ⟨T, hT⟩ : ∃ T, (xs.map fun e => e.n.size + e.v.size).sum = T := ⟨_, rfl⟩
  have hle := fun k => sumNd_le xs k
  rw [hT] at hle ⊢
  have HT := Lib.hid hT
  have HLE := Lib.hid hle
  clear hrd hok hT hle
  by_cases h2 : l - (xs.length : Int) < 0
  · rw [if_pos (by omega)]
    go_enter Try.func13, Try.ntmps13
    go_wp2
    go_ret
    exact ⟨rfl, Ext.refl _⟩
  · obtain ⟨z, hz⟩ : ∃ z : Int, (if l - ((xs.length + T : Nat) : Int) < 0 then -1 else l - ((xs.length + T : Nat) : Int)) = z := ⟨_, rfl⟩
    rw [hz]
    have HZ := Lib.hid hz
    clear hz
    go_enter Try.func13, Try.ntmps13
    go_wp2
    go_loopw [1, 5] (fun q i wr => ∃ k : Nat, k ≤ xs.length ∧ i = .int .i64 k ∧ q = .int .i64 (l - xs.length - (sumNd xs k : Nat)) ∧ 0 ≤ l - (xs.length : Int) - (sumNd xs k : Nat) ∧ Ext w wr) (fun _ i _ => xs.length - (intOf i).toNat)
    case atStart => exact ⟨0, by omega, rfl, by rw [sumNd_zero]; simp, by rw [sumNd_zero]; omega, Ext.refl _⟩
    case round =>
      obtain ⟨k, hk, rfl, rfl, hs, hx⟩ := hrel
      have HX := Lib.hid hx
      clear hx
      by_cases hlt : k < xs.length
      · obtain ⟨g, o, rfl, hs0, hc⟩ := Hrd.out.elem Hok.out k hlt
        have HX0 := Lib.hid (show tNd.ok xs[k] from Hok.out _ (List.getElem_mem hlt))
        have HD0 := Lib.hid (show ∀ j u, (tNd.enc xs[k])[j]? = some u → wr.cell? ⟨g, o + k * 66 + j, none⟩ = some u from fun j u hu => HX.out.cell (hc j u hu))
        have HSS := Lib.hid (sumNd_succ xs k hlt)
        have hq := HLE.out (k + 1)
        rw [HSS.out] at hq
        clear hc
        have hi : (0 : Int) ≤ (k : Int) := by omega
        have hi2 : (k : Int) < (xs.length : Int) := by omega
        have hcz := fun W => szMapNode_u (tNd.enc xs[k]).toArray xs[k] (l - xs.length - (sumNd xs k : Nat)) W (fun _ => True) ⟨rfl, HX0.out⟩ (by omega) (by omega)
        by_cases h3 : l - (xs.length : Int) - (sumNd xs k : Nat) - (xs[k].n.size + xs[k].v.size : Nat) < 0
        · simp only [if_pos h3] at hcz
          have HP := Lib.hid (show l - ((xs.length + T : Nat) : Int) < 0 by omega)
          go_wp2_with (refine wpl_load ⟨g, o + k * 66, none⟩ (tNd.enc xs[k]) (by rw [tNd.len _ HX0.out]; exact aggNodeL) rfl _ rfl rfl (fun j u hu => by rw [Addr.add_lit]; exact HD0.out j u hu) ?_)
          refine (hcz _).mono ?_
          rintro e w1 ⟨rfl, hx⟩
          have HX2 := Lib.hid (HX.out.trans hx)
          clear hx
          go_wp2
          go_ret
          exact ⟨by rw [← HZ.out, if_pos HP.out]; rfl, HX2.out⟩
        · simp only [if_neg h3] at hcz
          go_wp2_with (refine wpl_load ⟨g, o + k * 66, none⟩ (tNd.enc xs[k]) (by rw [tNd.len _ HX0.out]; exact aggNodeL) rfl _ rfl rfl (fun j u hu => by rw [Addr.add_lit]; exact HD0.out j u hu) ?_)
          refine (hcz _).mono ?_
          rintro e w1 ⟨rfl, hx⟩
          have HX2 := Lib.hid (HX.out.trans hx)
          clear hx hcz
          go_wp2
          go_roundw
          case rel => exact ⟨k + 1, by omega, by go_num, by rw [HSS.out]; go_num, by rw [HSS.out]; omega, HX2.out⟩
          case measure => simp [intOf]; omega
      · obtain rfl : k = xs.length := by omega
        have e : sumNd xs xs.length = T := by rw [sumNd, List.take_length]; exact HT.out
        have HE := Lib.hid e
        rw [e] at hs
        clear e
        have HP := Lib.hid (show ¬ l - ((xs.length + T : Nat) : Int) < 0 by omega)
        go_wp2
        go_ret
        exact ⟨by rw [← HZ.out, if_neg (Int.not_lt.2 HP.out), HE.out]; exact ret_int (by omega), HX.out⟩

end Go.Proofs.Ytmndkbheehcoaaa
