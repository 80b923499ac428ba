/- What the walk of the law FnExactFindCommit needs, part 1 of 5. No condition. -/
import Derived.Test.YtnklgkmpcochfaaRows
import Derived.WalkKit
import Derived.WalkSpells
import Derived.WalkLawsBesides
import Derived.BigQuiet
import Derived.Lib.Hide
import Derived.Deep.QuietTactic
import Derived.Deep.Draws
import Derived.Deep.AppendLies
import Derived.Maps.AppendAt
import Derived.ProofKit
import Derived.OpenShut
import Derived.ShutString
import Derived.ChangeOld
import Derived.Below
import Derived.SizedLaws
import Derived.Deep.Slices
import Derived.Deep.OwnRows
import Derived.Deep.RegionHeld3
import Derived.Lib.ConvBytes
import Derived.Laws.BytesArg
import Derived.Laws.BitsLemmas
import Derived.Lib.AppendZeros
import Derived.Deep.RegionLaw
import Derived.Laws.CopyRow
/- Words on memory for this seat's walks: a world that has only grown, blocks that are known whole, slices that are read, rows of a call's own. No condition. -/
namespace Go.Proofs.Ytnklgkmpcochfaa
open Go.RowKit
set_option linter.unusedVariables false
set_option linter.unusedSimpArgs false

/-! ### 1. A world that has only grown -/
abbrev Ext (w w' : World) : Prop := Below w.heap.size w w'
theorem Ext.refl (w : World) : Ext w w := Below.refl _ _
theorem Ext.trans {a b c : World} (h : Ext a b) (k : Ext b c) : Ext a c := Below.trans h (Below.mono k h.size)
theorem below_drewN {B : Nat} {a w : World} (h : Below B a w) (n : Nat) : Below B a (w.drewN n) := ⟨h.os, h.tape, h.output, h.size, h.block⟩
theorem ext_alloc (w : World) (o : Obj) : Ext w (w.alloc o) := (Below.refl _ _).alloc (Nat.le_refl _) _
theorem Ext.alloc {a b : World} (h : Ext a b) (o : Obj) : Ext a (b.alloc o) := Below.alloc h h.size o
theorem Ext.drewN {a b : World} (h : Ext a b) (n : Nat) : Ext a (b.drewN n) := below_drewN h n
theorem Ext.drew {a b : World} (h : Ext a b) : Ext a b.drew := Below.drew h
theorem Ext.cell {a b : World} (h : Ext a b) {p : Addr} {v : Value} (hc : a.cell? p = some v) : b.cell? p = some v := (Below.cell h (World.block_lt_of_cell? a p hc)).trans hc
theorem Ext.free {a b : World} (h : Ext a b) {p : Addr} (hp : p.block < a.heap.size) (hc : a.frozen? p = false) : b.frozen? p = false := (Below.frozen h hp).trans hc
theorem Ext.heap {a b : World} (h : Ext a b) {g : Nat} {o : Obj} (hc : a.heap[g]? = some o) : b.heap[g]? = some o := (h.block g (Array.getElem?_eq_some_iff.1 hc).1).trans hc
/-- only orders have been drawn -/
def Drawn (w w' : World) : Prop := ∃ n, w' = w.drewN n
theorem Drawn.refl (w : World) : Drawn w w := ⟨0, rfl⟩
theorem Drawn.drewN {a b : World} (h : Drawn a b) (n : Nat) : Drawn a (b.drewN n) := by
  obtain ⟨m, rfl⟩ := h
  exact ⟨_, World.drewN_drewN ..⟩
theorem Drawn.trans {a b c : World} (h : Drawn a b) (k : Drawn b c) : Drawn a c := by
  obtain ⟨m, rfl⟩ := k
  exact h.drewN m
theorem Drawn.ext {a b : World} (h : Drawn a b) : Ext a b := by
  obtain ⟨m, rfl⟩ := h
  exact (Ext.refl a).drewN m
theorem size_alloc (w : World) (o : Obj) : (w.alloc o).heap.size = w.heap.size + 1 := by simp

/-! ### 2. A block that is known whole -/
def Blk (w : World) (g : Nat) (t : TypeId) (cs : Array Value) : Prop := w.heap[g]? = some (.cells cs t (0, 0))
section
variable {w w' : World} {g : Nat} {t : TypeId} {cs : Array Value}
theorem Blk.lt (h : Blk w g t cs) : g < w.heap.size := (Array.getElem?_eq_some_iff.1 h).1
theorem Blk.cell (h : Blk w g t cs) (i : Nat) : w.cell? ⟨g, i, none⟩ = cs[i]? := cell_of_row w g i cs t (0, 0) h
theorem Blk.at_ (h : Blk w g t cs) (i : Nat) {v : Value} (hv : cs[i]? = some v) : w.cell? ⟨g, i, none⟩ = some v := (h.cell i).trans hv
theorem Blk.free (h : Blk w g t cs) (i : Nat) : w.frozen? ⟨g, i, none⟩ = false := by unfold Blk at h; simp [World.frozen?, h]
theorem Blk.new (w : World) (t : TypeId) (cs : Array Value) : Blk (w.alloc (.cells cs t)) w.heap.size t cs := heap_alloc_new w _
theorem Blk.alloc (h : Blk w g t cs) (o : Obj) : Blk (w.alloc o) g t cs := (Below.heap_alloc w o g h.lt).trans h
theorem Blk.drewN (h : Blk w g t cs) (n : Nat) : Blk (w.drewN n) g t cs := h
theorem Blk.ext (h : Blk w g t cs) (e : Ext w w') : Blk w' g t cs := e.heap h
theorem Blk.set (h : Blk w g t cs) (i : Nat) (u : Value) : Blk (w.setCell ⟨g, i, none⟩ u) g t (cs.setIfInBounds i u) := by
  unfold Blk at h ⊢
  simp [World.setCell, Array.getElem?_modify, h]
theorem Blk.far (h : Blk w g t cs) {p : Addr} (hp : g ≠ p.block) (u : Value) : Blk (w.setCell p u) g t cs := (Below.heap_setCell w p u g hp).trans h
theorem Blk.grown {row : Option Nat} (h : Blk w g t cs) (hb : w.grownBy w' row) (hg : some g ≠ row) : Blk w' g t cs := (hb.block g h.lt hg).trans h
end

/-! ### 3. Numbers in cells -/
/-- element i of a list of numbers -/
def gI (xs : List Int) (i : Nat) : Int := xs.getD i 0
theorem gI_lt {xs : List Int} {i : Nat} (h : i < xs.length) : gI xs i = xs[i] := by simp [gI, List.getD_eq_getElem?_getD, h]
def nums (k : IntKind) (xs : List Int) : List Value := xs.map (Value.int k)
def numsA (k : IntKind) (xs : List Int) : Array Value := (nums k xs).toArray
theorem nums_length (k : IntKind) (xs : List Int) : (nums k xs).length = xs.length := by simp [nums]
theorem numsA_size (k : IntKind) (xs : List Int) : (numsA k xs).size = xs.length := by simp [numsA, nums]
theorem nums_at (k : IntKind) (xs : List Int) (i : Nat) (h : i < xs.length) : (nums k xs)[i]? = some (.int k (gI xs i)) := by
  simp [nums, List.getElem?_eq_getElem h, gI]
theorem numsA_at (k : IntKind) (xs : List Int) (i : Nat) (h : i < xs.length) : (numsA k xs)[i]? = some (.int k (gI xs i)) := by
  simp [numsA, nums, List.getElem?_eq_getElem h, gI]
theorem nums_append (k : IntKind) (xs ys : List Int) : nums k (xs ++ ys) = nums k xs ++ nums k ys := by simp [nums]
theorem numsA_set (k : IntKind) (xs : List Int) (i : Nat) (x : Int) : (numsA k xs).setIfInBounds i (.int k x) = numsA k (xs.set i x) := by
  simp [numsA, nums, List.map_set]
theorem one_nums (k : IntKind) (xs : List Int) : ∀ u ∈ nums k xs, u.oneCell' = true := by
  intro u hu
  obtain ⟨_, _, rfl⟩ := List.mem_map.1 hu
  rfl
theorem Blk.num {w : World} {g t : Nat} {k : IntKind} {xs : List Int} (h : Blk w g t (numsA k xs)) (i : Nat) (hi : i < xs.length) : w.cell? ⟨g, i, none⟩ = some (.int k (gI xs i)) :=
  h.at_ i (numsA_at k xs i hi)
/-- a byte -/
def B8 (xs : List Int) : Prop := ∀ x ∈ xs, 0 ≤ x ∧ x ≤ 255
theorem B8.get {xs : List Int} (h : B8 xs) (i : Nat) : 0 ≤ gI xs i ∧ gI xs i ≤ 255 := by
  unfold gI
  by_cases hi : i < xs.length
  · have := h (xs[i]) (List.getElem_mem hi); simpa [List.getD_eq_getElem?_getD, List.getElem?_eq_getElem hi] using this
  · simp [List.getD_eq_getElem?_getD, List.getElem?_eq_none (by omega : xs.length ≤ i)]
theorem take_eq_step {a b : List Int} {k : Nat} (ha : k < a.length) (hb : k < b.length) (h : a.take k = b.take k) (e : gI a k = gI b k) : a.take (k + 1) = b.take (k + 1) := by
  rw [List.take_succ_eq_append_getElem ha, List.take_succ_eq_append_getElem hb, h]
  rw [gI_lt ha, gI_lt hb] at e
  rw [e]
theorem set_take_step {xs ys : List Int} {k : Nat} (hx : k < xs.length) (hl : ys.length = xs.length) (h : ys.take k = xs.take k) : (ys.set k (gI xs k)).take (k + 1) = xs.take (k + 1) := by
  rw [List.take_succ_eq_append_getElem hx, List.take_succ_eq_append_getElem (by simpa [hl] using hx)]
  rw [List.take_set, List.set_eq_of_length_le (by simp; omega), h]
  simp [gI_lt hx]

/-! ### 4. Types without pointers -/
structure Ty (α : Type) where
  sz : Nat
  enc : α → List Value
  ok : α → Prop
  len : ∀ x, ok x → (enc x).length = sz
  one : ∀ x, ∀ u ∈ enc x, u.oneCell' = true
def tByte : Ty Int := ⟨1, fun x => [.int .u8 x], fun x => 0 ≤ x ∧ x ≤ 255, fun _ _ => rfl, fun _ u hu => by simp at hu; subst hu; rfl⟩
/-- a key -/
def K32 (k : List Int) : Prop := k.length = 32 ∧ B8 k
def tKey : Ty (List Int) := ⟨32, nums .u8, K32, fun x h => by rw [nums_length]; exact h.1, fun x => one_nums _ x⟩
theorem flat_length {α : Type} (T : Ty α) (xs : List α) (h : ∀ x ∈ xs, T.ok x) : (xs.flatMap T.enc).length = xs.length * T.sz := by
  induction xs with
  | nil => simp
  | cons x r ih =>
    simp only [List.flatMap_cons, List.length_append, List.length_cons, T.len x (h x (by simp)), ih (fun y hy => h y (by simp [hy])), Nat.add_mul]
    omega
theorem flat_at {α : Type} (T : Ty α) (xs : List α) (h : ∀ x ∈ xs, T.ok x) (i : Nat) (hi : i < xs.length) (j : Nat) (hj : j < T.sz) :
    (xs.flatMap T.enc)[i * T.sz + j]? = (T.enc xs[i])[j]? := by
  induction xs generalizing i with
  | nil => simp at hi
  | cons x r ih =>
    have hl := T.len x (h x (by simp))
    cases i with
    | zero => simp only [Nat.zero_mul, Nat.zero_add, List.flatMap_cons, List.getElem_cons_zero]; rw [List.getElem?_append_left (by omega)]
    | succ i =>
      simp only [List.flatMap_cons, List.getElem_cons_succ]
      rw [List.getElem?_append_right (by rw [hl, Nat.add_mul]; omega), hl, ← ih (fun y hy => h y (by simp [hy])) i (by simpa using hi)]
      congr 1
      rw [Nat.add_mul]
      omega
theorem flat_bytes (xs : List Int) : xs.flatMap tByte.enc = nums .u8 xs := by
  induction xs with
  | nil => rfl
  | cons x r ih => simp only [List.flatMap_cons, ih]; rfl

/-! ### 5. A slice that is read -/
/-- the slice '.slice A n _' holds the cells cs, and lies in a block with S -/
def Rd (w : World) (S : Nat → Prop) (sz : Nat) (A : Option Addr) (n : Nat) (cs : List Value) : Prop :=
  cs.length = n * sz ∧ (0 < n → ∃ g o, A = some ⟨g, o, none⟩ ∧ S g ∧ ∀ j u, cs[j]? = some u → w.cell? ⟨g, o + j, none⟩ = some u)
section
variable {w w' : World} {S S' : Nat → Prop} {sz n : Nat} {A : Option Addr} {cs : List Value}
theorem Rd.keep (h : Rd w S sz A n cs) (hk : ∀ g, S g → w'.heap[g]? = w.heap[g]?) : Rd w' S sz A n cs :=
  ⟨h.1, fun hn => by
    obtain ⟨g, o, e, hs, hc⟩ := h.2 hn
    exact ⟨g, o, e, hs, fun j u hu => (World.cell?_of_block (w := w) (hk g hs)).trans (hc j u hu)⟩⟩
theorem Rd.mono (h : Rd w S sz A n cs) (hk : ∀ g, S g → S' g) : Rd w S' sz A n cs :=
  ⟨h.1, fun hn => by
    obtain ⟨g, o, e, hs, hc⟩ := h.2 hn
    exact ⟨g, o, e, hk g hs, hc⟩⟩
/-- whatever is read lies in a block that is there -/
theorem Rd.old (h : Rd w S sz A n cs) (hz : 0 < sz) : Rd w (fun g => S g ∧ g < w.heap.size) sz A n cs :=
  ⟨h.1, fun hn => by
    obtain ⟨g, o, e, hs, hc⟩ := h.2 hn
    have hl : 0 < cs.length := by rw [h.1]; exact Nat.mul_pos hn hz
    exact ⟨g, o, e, ⟨hs, World.block_lt_of_cell? w _ (hc 0 _ (List.getElem?_eq_getElem hl))⟩, hc⟩⟩
theorem Rd.ext (h : Rd w S sz A n cs) (hz : 0 < sz) (e : Ext w w') : Rd w' S sz A n cs :=
  ((h.old hz).keep fun g hg => e.block g hg.2).mono fun _ hg => hg.1
theorem Rd.nil (w : World) (S : Nat → Prop) (sz : Nat) (A : Option Addr) : Rd w S sz A 0 [] := ⟨by simp, fun h => absurd h (by omega)⟩
/-- the cut from k on, its address as the machine spells it -/
theorem Rd.cut (h : Rd w S sz A n cs) {k cap : Nat} (hk : k ≤ n) (hc : n ≤ cap) : Rd w S sz (if cap = k then A else A.map (·.add (k * sz))) (n - k) (cs.drop (k * sz)) := by
  refine ⟨by rw [List.length_drop, h.1, Nat.sub_mul], fun hn => ?_⟩
  obtain ⟨g, o, rfl, hs, hcell⟩ := h.2 (by omega)
  rw [if_neg (by omega)]
  refine ⟨g, o + k * sz, by simp [Addr.add_lit], hs, fun j u hu => ?_⟩
  rw [Nat.add_assoc]
  exact hcell _ u (by rw [← hu, List.getElem?_drop])
/-- the first k -/
theorem Rd.head (h : Rd w S sz A n cs) {k : Nat} (hk : k ≤ n) : Rd w S sz A k (cs.take (k * sz)) := by
  refine ⟨by rw [List.length_take, h.1]; exact Nat.min_eq_left (Nat.mul_le_mul_right _ hk), fun hn => ?_⟩
  obtain ⟨g, o, e, hs, hc⟩ := h.2 (by omega)
  refine ⟨g, o, e, hs, fun j u hu => hc j u ?_⟩
  rw [List.getElem?_take] at hu
  split at hu
  · exact hu
  · cases hu
end
/-- the value v is a slice that reads as the list xs -/
def RdL {α : Type} (T : Ty α) (w : World) (S : Nat → Prop) (v : Value) (xs : List α) : Prop :=
  ∃ A cap, v = .slice A xs.length cap ∧ xs.length ≤ cap ∧ xs.length ≤ 140737488355328 ∧ Rd w S T.sz A xs.length (xs.flatMap T.enc) ∧ ∀ x ∈ xs, T.ok x
section
variable {α : Type} {T : Ty α} {w w' : World} {S S' : Nat → Prop} {v : Value} {xs : List α}
theorem RdL.keep (h : RdL T w S v xs) (hk : ∀ g, S g → w'.heap[g]? = w.heap[g]?) : RdL T w' S v xs := by
  obtain ⟨A, cap, e, h1, h2, h3, h4⟩ := h
  exact ⟨A, cap, e, h1, h2, h3.keep hk, h4⟩
theorem RdL.mono (h : RdL T w S v xs) (hk : ∀ g, S g → S' g) : RdL T w S' v xs := by
  obtain ⟨A, cap, e, h1, h2, h3, h4⟩ := h
  exact ⟨A, cap, e, h1, h2, h3.mono hk, h4⟩
theorem RdL.ext (h : RdL T w S v xs) (hz : 0 < T.sz) (e : Ext w w') : RdL T w' S v xs := by
  obtain ⟨A, cap, he, h1, h2, h3, h4⟩ := h
  exact ⟨A, cap, he, h1, h2, h3.ext hz e, h4⟩
end
/-- cell j of element i, where xs is not empty -/
theorem Rd.elem {α : Type} {T : Ty α} {w : World} {S : Nat → Prop} {A : Option Addr} {xs : List α} (h : Rd w S T.sz A xs.length (xs.flatMap T.enc)) (hok : ∀ x ∈ xs, T.ok x) (i : Nat) (hi : i < xs.length) :
    ∃ g o, A = some ⟨g, o, none⟩ ∧ S g ∧ ∀ j u, (T.enc xs[i])[j]? = some u → w.cell? ⟨g, o + i * T.sz + j, none⟩ = some u := by
  obtain ⟨g, o, e, hs, hc⟩ := h.2 (by omega)
  refine ⟨g, o, e, hs, fun j u hu => ?_⟩
  rw [Nat.add_assoc]
  refine hc _ u ?_
  have hj : j < T.sz := by
    have := (List.getElem?_eq_some_iff.1 hu).1
    rwa [T.len _ (hok _ (List.getElem_mem hi))] at this
  rw [flat_at T xs hok i hi j hj, hu]
theorem Rd.byte {w : World} {S : Nat → Prop} {A : Option Addr} {xs : List Int} (h : Rd w S 1 A xs.length (nums .u8 xs)) (i : Nat) (hi : i < xs.length) :
    ∃ g o, A = some ⟨g, o, none⟩ ∧ S g ∧ w.cell? ⟨g, o + i, none⟩ = some (.int .u8 (gI xs i)) := by
  obtain ⟨g, o, e, hs, hc⟩ := h.2 (by omega)
  exact ⟨g, o, e, hs, hc i _ (nums_at _ _ _ hi)⟩
/-- what is left behind the first k -/
theorem Rd.cut8 {w : World} {S : Nat → Prop} {g o n : Nat} {xs : List Int} (h : Rd w S 1 (some ⟨g, o, none⟩) n (nums .u8 xs)) (k cap : Nat) (hk : k ≤ n) (hc : n ≤ cap) :
    Rd w S 1 (if cap = k then some ⟨g, o, none⟩ else some ⟨g, o + k, none⟩) (xs.drop k).length (nums .u8 (xs.drop k)) := by
  have hn : xs.length = n := by have := h.1; rw [nums_length] at this; omega
  have h1 := h.cut hk hc
  have e : (if cap = k then some (⟨g, o, none⟩ : Addr) else (some (⟨g, o, none⟩ : Addr)).map (·.add (k * 1))) = if cap = k then some ⟨g, o, none⟩ else some ⟨g, o + k, none⟩ := by
    split
    · rfl
    · simp [Addr.add_lit]
  rw [e, Nat.mul_one] at h1
  have e2 : (nums .u8 xs).drop k = nums .u8 (xs.drop k) := by simp [nums]
  rwa [e2, ← hn, ← List.length_drop] at h1

/-! ### 6. A row of one's own -/
/-- v is nil or the head of a row from block base on that is one's own: its elements are xs -/
def Own {α : Type} (T : Ty α) (e : TypeId) (w : World) (base : Nat) (v : Value) (xs : List α) : Prop :=
  w.ownsRow base e T.sz v xs.length (xs.flatMap T.enc) ∧ xs.length ≤ 140737488355328 ∧ ∀ x ∈ xs, T.ok x
section
variable {α : Type} {T : Ty α} {e : TypeId} {w w' : World} {base base' : Nat} {v : Value} {xs : List α}
theorem Own.shape (h : Own T e w base v xs) : ∃ A cap, v = .slice A xs.length cap := by
  rcases h.1.2 with ⟨rfl, h0⟩ | ⟨g, cap, cur, rfl, _⟩
  · exact ⟨none, 0, by rw [h0]⟩
  · exact ⟨_, cap, rfl⟩
theorem Own.shape3 (h : Own T e w base v xs) : ∃ A n cap, v = .slice A n cap := by
  obtain ⟨A, c, rfl⟩ := h.shape
  exact ⟨_, _, _, rfl⟩
theorem Own.ext (h : Own T e w base v xs) (k : Ext w w') : Own T e w' base v xs :=
  ⟨h.1.kept (row := none) ⟨k.os, k.tape, k.output, k.size, fun i hi _ => k.block i hi⟩ (by cases v.ownBlock <;> simp), h.2⟩
theorem Own.drew (h : Own T e w base v xs) : Own T e w.drew base v xs := h
theorem Own.drewN (h : Own T e w base v xs) (n : Nat) : Own T e (w.drewN n) base v xs := h
theorem Own.alloc (h : Own T e w base v xs) (o : Obj) : Own T e (w.alloc o) base v xs := h.ext (ext_alloc w o)
theorem Own.kept {row : Option Nat} (h : Own T e w base v xs) (hg : w.grownBy w' row) (hne : v.ownBlock = none ∨ v.ownBlock ≠ row) : Own T e w' base v xs := ⟨h.1.kept hg hne, h.2⟩
theorem Own.base_le (h : Own T e w base v xs) (k : Nat) (hk : v.ownBlock = some k) : base ≤ k ∧ k < w.heap.size := h.1.lt k hk
theorem Own.le (h : Own T e w base v xs) (hb : base' ≤ base) : Own T e w base' v xs := by
  refine ⟨⟨h.1.1, ?_⟩, h.2⟩
  rcases h.1.2 with hn | ⟨g, cap, cur, h1, h2, r⟩
  · exact .inl hn
  · exact .inr ⟨g, cap, cur, h1, Nat.le_trans hb h2, r⟩
theorem Own.rd (h : Own T e w base v xs) : RdL T w (fun g => base ≤ g ∧ g < w.heap.size) v xs := by
  obtain ⟨⟨hl, hx⟩, h2, h3⟩ := h
  rcases hx with ⟨rfl, h0⟩ | ⟨g, cap, cur, rfl, hb, hg, hc, hm, hs, ht⟩
  · obtain rfl : xs = [] := List.eq_nil_of_length_eq_zero h0
    exact ⟨none, 0, rfl, Nat.le_refl _, by simp, Rd.nil _ _ _ _, h3⟩
  · refine ⟨_, cap, rfl, hc, h2, ⟨hl, fun hn => ⟨g, 0, rfl, ⟨hb, (Array.getElem?_eq_some_iff.1 hg).1⟩, fun j u hu => ?_⟩⟩, h3⟩
    rw [Nat.zero_add, cell_of_row w g j cur e (0, 0) hg]
    rw [← ht, List.getElem?_take] at hu
    split at hu
    · simpa using hu
    · cases hu
theorem Own.set_below (h : Own T e w base v xs) {p : Addr} (hp : p.block < base) (u : Value) : Own T e (w.setCell p u) base v xs := ⟨ownsRow_setCell_below h.1 hp u, h.2⟩
theorem Own.nil (T : Ty α) (e : TypeId) (w : World) (base : Nat) : Own T e w base (.slice none 0 0) ([] : List α) := ⟨World.ownsRow_nil _ _ _ _, by simp, by simp⟩
end

/-! ### 8. Whole structs and arrays: read, written, made -/
theorem Own.of_blk {α : Type} (T : Ty α) {w : World} {g e base : Nat} {xs : List α} (h : Blk w g e (xs.flatMap T.enc).toArray) (hb : base ≤ g) (hn : xs.length ≤ 140737488355328) (hok : ∀ x ∈ xs, T.ok x) :
    Own T e w base (.slice (some ⟨g, 0, none⟩) xs.length xs.length) xs :=
  ⟨⟨flat_length T xs hok, .inr ⟨g, xs.length, _, rfl, hb, h, Nat.le_refl _, by simp only [maxLen]; omega, by simp only [List.size_toArray]; exact flat_length T xs hok, by
    simp only []
    rw [← flat_length T xs hok, List.take_length]⟩⟩, hn, hok⟩
theorem Own.of_blk8 {w : World} {g e base : Nat} {xs : List Int} (h : Blk w g e (numsA .u8 xs)) (hb : base ≤ g) (hn : xs.length ≤ 140737488355328) (hok : B8 xs) :
    Own tByte e w base (.slice (some ⟨g, 0, none⟩) xs.length xs.length) xs :=
  Own.of_blk tByte (by rw [flat_bytes]; exact h) hb hn hok
/-- a literal of no elements -/
theorem Own.empty {α : Type} (T : Ty α) (w : World) (e base : Nat) (hb : base ≤ w.heap.size) : Own T e (w.alloc (.cells #[] e)) base (.slice (some ⟨w.heap.size, 0, none⟩) 0 0) ([] : List α) :=
  Own.of_blk T (xs := []) (by simpa using Blk.new w e #[]) hb (by simp) (by simp)
/-- t is a struct or an array of n cells -/
def Agg (P : Program) (t n : Nat) : Prop := (∃ d, P.underlying t = some d ∧ (match d with | .struct _ | .array _ _ => true | _ => false) = true) ∧ (P.info? t).map (·.size) = some n
section
variable {P : Program} {ops : Array Oper} {rest : List Oper} {o : Oper} {a : Act} {w : World} {Q : Exit → Act → World → Prop}
theorem run_loadVar_at {t : TypeId} (ad : Addr) (cs : List Value) (ht : Agg P t cs.length) (hc : ∀ j u, cs[j]? = some u → w.cell? (ad.add j) = some u) : (loadVar t ad).run P w = .ok (.agg cs.toArray) w := by
  obtain ⟨⟨d, hu, hd⟩, hs⟩ := ht
  have hl := run_loadCells_list (P := P) w ad cs hc
  cases hq : P.info? t with
  | none => simp [hq] at hs
  | some i =>
    have hs' : i.size = cs.length := by simpa [hq] using hs
    have hagg : (isAgg t).run P w = .ok true w := by
      unfold isAgg
      rw [Sem.run_bind, run_underlying hu w]
      cases d <;> simp_all
    simp [loadVar, Sem.run_bind, hagg, sizeOf, typeInfo, hq, hs', hl]
/-- a whole struct or array is loaded -/
theorem wpl_load {t : TypeId} (ad : Addr) (cs : List Value) (ht : Agg P t cs.length) (hgd : o.guard = none) (x : Operand) (ho : o.op = .load t x) (hx : a.eval x = .pointer (some ad))
    (hc : ∀ j u, cs[j]? = some u → w.cell? (ad.add j) = some u) (h : wpList P ops Q rest (a.put o.dst (.agg cs.toArray)) w) : wpList P ops Q (o :: rest) a w := by
  refine wpList_plain hgd fun K hK => ?_
  unfold Oper.wp execOp
  simp only [ho, hx, Instr.loadAt, Instr.sureAddr, Sem.run_bind, Sem.run_pure, Result.andThen_ok, run_loadVar_at ad cs ht hc]
  exact hK _ _ h
/-- cs with vs written from place o on -/
def splice (cs : Array Value) (o : Nat) (vs : List Value) : Array Value := (cs.toList.take o ++ vs ++ cs.toList.drop (o + vs.length)).toArray
theorem Blk.setRow {w : World} {g t : Nat} {cs : Array Value} (h : Blk w g t cs) (cs' : Array Value) : Blk (w.setRow g cs') g t cs' := setRow_heap w g cs cs' t _ h
theorem Blk.row_far {w : World} {g g' t : Nat} {cs : Array Value} (h : Blk w g t cs) (hg : g ≠ g') (cs' : Array Value) : Blk (w.setRow g' cs') g t cs := (setRow_other w g' g cs' hg).trans h
theorem Ext.setRow {a b : World} (h : Ext a b) {g : Nat} (hg : a.heap.size ≤ g) (cs : Array Value) : Ext a (b.setRow g cs) :=
  Below.trans h ⟨rfl, rfl, rfl, by simp, fun k hk => setRow_other b g k cs (by omega)⟩
theorem Ext.set {a b : World} (h : Ext a b) {p : Addr} (hg : a.heap.size ≤ p.block) (v : Value) : Ext a (b.setCell p v) := Below.setCell h hg v
theorem Ext.grown {a b c : World} {row : Option Nat} (h : Ext a b) (hg : b.grownBy c row) (hr : ∀ k, row = some k → a.heap.size ≤ k) : Ext a c := Below.grown h hg h.size hr
/-- a whole struct or array is stored into a block of one's own -/
theorem wpl_store {t : TypeId} (g off e : Nat) (cur : Array Value) (vs : List Value) (hs : (P.info? t).map (·.size) = some vs.length) (hgd : o.guard = none) (x y : Operand) (ho : o.op = .store t x y)
    (hx : a.eval x = .pointer (some ⟨g, off, none⟩)) (hy : (a.eval y).cells = vs.toArray) (hb : Blk w g e cur) (hl : off + vs.length ≤ cur.size) (h1 : ∀ u ∈ vs, u.oneCell' = true)
    (hd : o.dst = none) (h : wpList P ops Q rest a (w.setRow g (splice cur off vs))) : wpList P ops Q (o :: rest) a w := by
  refine wpList_plain hgd fun K hK => ?_
  have hrun := run_storeCells_at P g off e vs 0 cur w hb (by simpa using hl) h1
  simp only [Nat.add_zero] at hrun
  cases hq : P.info? t with
  | none => simp [hq] at hs
  | some i =>
    have hs' : i.size = vs.length := by simpa [hq] using hs
    unfold Oper.wp execOp
    simp only [ho, hx, Instr.storeAt, Instr.sureAddr, Sem.run_bind, Sem.run_pure, Result.andThen_ok]
    have hst : (storeVar t ⟨g, off, none⟩ (a.eval y)).run P w = .ok () (w.setRow g (splice cur off vs)) := by
      simp only [storeVar, Sem.run_bind, sizeOf, typeInfo]
      simp [hq, hs', hy, hrun, splice]
    rw [hst]
    simp only [Result.andThen_ok, Sem.run_pure]
    have := hK _ _ h
    simpa [hd, Act.put, Oper.upon] using this
/-- a new variable of a struct's or an array's type -/
theorem wpl_alloc {t : TypeId} (z : Array Value) (hz : (P.info? t).map (·.zero) = some (some (.agg z))) (hgd : o.guard = none) (ho : o.op = .alloc t)
    (h : wpList P ops Q rest (a.put o.dst (.pointer (some ⟨w.heap.size, 0, none⟩))) (w.alloc (.cells z t))) : wpList P ops Q (o :: rest) a w := by
  refine wpList_plain hgd fun K hK => ?_
  cases hq : P.info? t with
  | none => simp [hq] at hz
  | some i =>
    have hz' : i.zero = some (.agg z) := by simpa [hq] using hz
    have hrun : (Instr.alloc t true (.tuple #[])).run P w = .ok (.pointer (some ⟨w.heap.size, 0, none⟩)) (w.alloc (.cells z t)) := by
      simp [Instr.alloc, zeroValue, typeInfo, hq, hz', newVar, newRow, Value.cells]
    unfold Oper.wp execOp
    simp only [ho, Sem.run_bind, hrun, Result.andThen_ok, Sem.run_pure]
    exact hK _ _ h
end

/-! ### 9. What may be written -/
/-- v is a slice of n elements of sz cells each, in a block from lo on that is not frozen -/
def Wr (w : World) (lo sz : Nat) (v : Value) (n : Nat) : Prop :=
  ∃ A cap, v = .slice A n cap ∧ n ≤ cap ∧ n ≤ 140737488355328 ∧ (0 < n → ∃ g o cur t, A = some ⟨g, o, none⟩ ∧ lo ≤ g ∧ Blk w g t cur ∧ o + n * sz ≤ cur.size)
theorem Own.wr {α : Type} {T : Ty α} {e : TypeId} {w : World} {base : Nat} {v : Value} {xs : List α} (h : Own T e w base v xs) : Wr w base T.sz v xs.length := by
  obtain ⟨⟨hl, hx⟩, h2, h3⟩ := h
  rcases hx with ⟨rfl, h0⟩ | ⟨g, cap, cur, rfl, hb, hg, hc, hm, hs, ht⟩
  · exact ⟨none, 0, by rw [h0], by omega, h2, fun h => by omega⟩
  · exact ⟨_, cap, rfl, hc, h2, fun _ => ⟨g, 0, cur, e, rfl, hb, hg, by rw [hs, Nat.zero_add]; exact Nat.mul_le_mul_right _ hc⟩⟩
theorem Wr.kept {w w' : World} {lo sz n : Nat} {v : Value} (h : Wr w lo sz v n) (hk : ∀ g, lo ≤ g → g < w.heap.size → w'.heap[g]? = w.heap[g]?) : Wr w' lo sz v n := by
  obtain ⟨A, cap, e, h0, h1, h2⟩ := h
  refine ⟨A, cap, e, h0, h1, fun hn => ?_⟩
  obtain ⟨g, o, cur, t, e1, e2, e3, e4⟩ := h2 hn
  exact ⟨g, o, cur, t, e1, e2, (hk g e2 e3.lt).trans e3, e4⟩
theorem Wr.ext {w w' : World} {lo sz n : Nat} {v : Value} (h : Wr w lo sz v n) (e : Ext w w') : Wr w' lo sz v n := h.kept fun g _ hg => e.block g hg
theorem grown_refl (w : World) (row : Option Nat) : w.grownBy w row := ⟨rfl, rfl, rfl, Nat.le_refl _, fun _ _ _ => rfl⟩
theorem grown_trans {a b c : World} {row : Option Nat} (h : a.grownBy b row) (k : b.grownBy c row) : a.grownBy c row :=
  ⟨k.os.trans h.os, k.tape.trans h.tape, k.output.trans h.output, Nat.le_trans h.size k.size, fun i hi hn => (k.block i (Nat.lt_of_lt_of_le hi h.size) hn).trans (h.block i hi hn)⟩
/-! ### 10. append onto a row of one's own -/
/-- t is the type of slices of e, whose elements take T.sz cells and so many bytes -/
structure Row {α : Type} (P : Program) (T : Ty α) (t e : TypeId) (bytes : Nat) : Prop where
  ht : P.underlying t = some (.slice e)
  info : ∃ i z, P.info? e = some i ∧ i.zero = some z ∧ i.size = T.sz ∧ i.bytes = bytes ∧ z.cells.size = T.sz
  sz : 0 < T.sz
  by_ : 0 < bytes
theorem Row.mk' {α : Type} {P : Program} {T : Ty α} {t e : TypeId} {bytes : Nat} (ht : P.underlying t = some (.slice e)) (z : Value) (hi : (P.info? e).map (fun i => (i.zero, i.size, i.bytes)) = some (some z, T.sz, bytes)) (hz : z.cells.size = T.sz) (h1 : 0 < T.sz) (h2 : 0 < bytes) : Row P T t e bytes := by
  obtain ⟨i, a, b, c, d⟩ := info_parts hi
  exact ⟨ht, ⟨i, z, a, b, c, d, hz⟩, h1, h2⟩
section
variable {α : Type} {P : Program} {T : Ty α} {t e : TypeId} {bytes : Nat}
theorem run_append (R : Row P T t e bytes) (ty : TypeId) {w : World} {base : Nat} {v : Value} {xs : List α} (ho : Own T e w base v xs) {S : Nat → Prop} {A : Option Addr} (c : Nat) {ys : List α}
    (hr : Rd w S T.sz A ys.length (ys.flatMap T.enc)) (hok : ∀ y ∈ ys, T.ok y) (hl : (xs.length + ys.length) * bytes ≤ 140737488355328) (hb : base ≤ w.heap.size) :
    ∃ v' w', (Builtin.append_ #[t, t] ty #[v, .slice A ys.length c]).run P w = .ok v' w' ∧ Own T e w' base v' (xs ++ ys) ∧ w.grownBy w' v.ownBlock ∧ (v'.ownBlock = v.ownBlock ∨ v'.ownBlock = some w.heap.size) := by
  obtain ⟨i, z, hi, hz, hs, hby, hzs⟩ := R.info
  have hlen : xs.length + ys.length ≤ 140737488355328 := Nat.le_trans (Nat.le_mul_of_pos_right _ R.by_) hl
  rcases A with _ | ad
  · have h0 : ys.length = 0 := by
      rcases Nat.eq_zero_or_pos ys.length with h0 | h0
      · exact h0
      · obtain ⟨g, o, h, _⟩ := hr.2 h0
        cases h
    obtain rfl : ys = [] := List.eq_nil_of_length_eq_zero h0
    refine ⟨v, w, ?_, by simpa using ho, grown_refl _ _, .inl rfl⟩
    rcases ho.1.2 with ⟨rfl, hn⟩ | ⟨g, cap, cur, rfl, _, _, hnc, _⟩
    · simp [Builtin.append_, run_underlying R.ht, sizeOf, typeInfo, hi, Builtin.lenOf, Builtin.firstCells]
    · simp [Builtin.append_, run_underlying R.ht, sizeOf, typeInfo, hi, Builtin.lenOf, Builtin.firstCells, hnc, storeCells]
  · have hcells : ∀ j u, (ys.flatMap T.enc)[j]? = some u → w.cell? (ad.add j) = some u := by
      intro j u hu
      have hj : 0 < ys.length := by
        rcases Nat.eq_zero_or_pos ys.length with h0 | h0
        · obtain rfl : ys = [] := List.eq_nil_of_length_eq_zero h0
          simp at hu
        · exact h0
      obtain ⟨g, o, h, _, hc⟩ := hr.2 hj
      injection h with h
      subst h
      rw [Addr.add_lit]
      exact hc j u hu
    have h1 : ∀ u ∈ ys.flatMap T.enc, u.oneCell' = true := by
      intro u hu
      obtain ⟨y, _, hy⟩ := List.mem_flatMap.1 hu
      exact T.one y u hy
    obtain ⟨v', w', hrun, h2, h3, _, h5⟩ := run_append_own_at (P := P) w base t ty e i z T.sz bytes R.ht hi hz hs hby hzs R.sz v xs.length (xs.flatMap T.enc) ho.1 ad ys.length c (ys.flatMap T.enc) hr.1 hcells h1 (by simp only [maxLen]; omega) hl hb
    refine ⟨v', w', hrun, ⟨by simpa using h2, by simp; omega, fun x hx => ?_⟩, h3, h5⟩
    rcases List.mem_append.1 hx with hx | hx
    · exact ho.2.2 x hx
    · exact hok x hx
theorem wpl_append (R : Row P T t e bytes) {ops : Array Oper} {rest : List Oper} {o : Oper} {a : Act} {w : World} {Q : Exit → Act → World → Prop} (hgd : o.guard = none) (s x : Operand)
    (hop : o.op = .call { callee := .builtin .append, args := #[s, x], argTypes := #[t, t] })
    {base : Nat} {v : Value} {xs : List α} (hs : a.eval s = v) (ho : Own T e w base v xs) {S : Nat → Prop} {A : Option Addr} (m c : Nat) {ys : List α} (hx : a.eval x = .slice A m c) (hm : m = ys.length)
    (hr : Rd w S T.sz A ys.length (ys.flatMap T.enc)) (hok : ∀ y ∈ ys, T.ok y) (hl : (xs.length + ys.length) * bytes ≤ 140737488355328) (hb : base ≤ w.heap.size)
    (h : ∀ v' w', Own T e w' base v' (xs ++ ys) → w.grownBy w' v.ownBlock → (v'.ownBlock = v.ownBlock ∨ v'.ownBlock = some w.heap.size) → wpList P ops Q rest (a.put o.dst v') w') : wpList P ops Q (o :: rest) a w := by
  subst hm
  obtain ⟨v', w', hrun, h1, h2, h3⟩ := run_append R o.type ho c hr hok hl hb
  refine wpList_plain hgd fun K hK => ?_
  unfold Oper.wp execOp
  simp only [hop, resolve, invoke, builtin, Sem.run_bind, Sem.run_pure, Result.andThen_ok, List.map_toArray, List.map_cons, List.map_nil, hs, hx, hrun]
  exact hK _ _ (h v' w' h1 h2 h3)
end
/-- the same as one step of a region that draws its order -/
theorem stp_append {α : Type} {P : Program} {T : Ty α} {t e : TypeId} {bytes : Nat} (R : Row P T t e bytes) {ops : Array Oper} {o : Oper} {a : Act} {w : World} {K : Act → World → Prop} {Q : Exit → Act → World → Prop} {E : Prop} (hgd : o.guard = none) (s x : Operand)
    (hop : o.op = .call { callee := .builtin .append, args := #[s, x], argTypes := #[t, t] })
    {base : Nat} {v : Value} {xs : List α} (hs : a.eval s = v) (ho : Own T e w base v xs) {S : Nat → Prop} {A : Option Addr} (m c : Nat) {ys : List α} (hx : a.eval x = .slice A m c) (hm : m = ys.length)
    (hr : Rd w S T.sz A ys.length (ys.flatMap T.enc)) (hok : ∀ y ∈ ys, T.ok y) (hl : (xs.length + ys.length) * bytes ≤ 140737488355328) (hb : base ≤ w.heap.size)
    (h : ∀ v' w', Own T e w' base v' (xs ++ ys) → w.grownBy w' v.ownBlock → (v'.ownBlock = v.ownBlock ∨ v'.ownBlock = some w.heap.size) → K (a.put o.dst v') w') :
    if Region.wanted o (yielded ops a.tmps) = true then Oper.wp P o a w K Q else E := by
  subst hm
  obtain ⟨v', w', hrun, h1, h2, h3⟩ := run_append R o.type ho c hr hok hl hb
  have hw : Region.wanted o (yielded ops a.tmps) = true := by simp [Region.wanted, hgd]
  rw [if_pos hw]
  unfold Oper.wp execOp
  simp only [hop, resolve, invoke, builtin, Sem.run_bind, Sem.run_pure, Result.andThen_ok, List.map_toArray, List.map_cons, List.map_nil, hs, hx, hrun]
  exact h v' w' h1 h2 h3
/-- how long a slice is -/
def lenV : Value → Nat
  | .slice _ n _ => n
  | _ => 0
/-- behind an append: the world has grown, if the row is one's own -/
theorem Own.ext_app {α : Type} {T : Ty α} {e : TypeId} {w0 w w' : World} {v : Value} {xs : List α} (h : Ext w0 w) (ho : Own T e w w0.heap.size v xs) (hg : w.grownBy w' v.ownBlock) : Ext w0 w' :=
  h.grown hg fun k hk => (ho.base_le k hk).1
/-- an element of a row of one's own bytes: where it lies, that it may be written, and what is written there -/
theorem Own.byte {e : TypeId} {w : World} {base : Nat} {v : Value} {xs : List Int} (h : Own tByte e w base v xs) (k : Nat) (hk : k < xs.length) :
    ∃ g cap, v = .slice (some ⟨g, 0, none⟩) xs.length cap ∧ base ≤ g ∧ g < w.heap.size ∧ w.cell? ⟨g, k, none⟩ = some (.int .u8 (gI xs k)) ∧ w.frozen? ⟨g, k, none⟩ = false ∧
      ∀ x : Int, 0 ≤ x → x ≤ 255 → Own tByte e (w.setCell ⟨g, k, none⟩ (.int .u8 x)) base v (xs.set k x) := by
  obtain ⟨h1, h2, h3⟩ := h
  rw [flat_bytes] at h1
  rcases h1.2 with ⟨rfl, h0⟩ | ⟨g, cap, cur, rfl, hb, hg, hc, hm, hs, ht⟩
  · omega
  · refine ⟨g, cap, rfl, hb, (Array.getElem?_eq_some_iff.1 hg).1, ?_, by simp [World.frozen?, hg], fun x hx0 hx1 => ⟨?_, by simpa using h2, ?_⟩⟩
    · have := h1.cells (g := g) rfl k _ (nums_at .u8 xs k hk)
      rwa [Addr.add_lit, Nat.zero_add] at this
    · rw [flat_bytes]
      have := (h1.stored k (.int .u8 x)).1
      simpa [nums, List.map_set, tByte] using this
    · intro y hy
      rcases List.mem_or_eq_of_mem_set hy with hy | rfl
      · exact h3 y hy
      · exact ⟨hx0, hx1⟩
/-- what was there before and what is new lie apart -/
theorem Own.apart {α β : Type} {T : Ty α} {T' : Ty β} {e e' : TypeId} {w w' : World} {base base' : Nat} {v v' : Value} {xs : List α} {ys : List β} (h : Own T e w base v xs) (h' : Own T' e' w' base' v' ys) (hb : w.heap.size ≤ base') : v.ownBlock = none ∨ v.ownBlock ≠ v'.ownBlock := by
  cases hv : v.ownBlock with
  | none => exact .inl rfl
  | some k =>
    refine .inr fun e => ?_
    have h1 := (h.base_le k hv).2
    have h2 := (h'.base_le k e.symm).1
    omega
/-- one element in a block of its own, ready to be appended -/
theorem rd_one {α : Type} {T : Ty α} (w : World) (x : α) (hx : T.ok x) (t : TypeId) : Rd (w.alloc (.cells (T.enc x).toArray t)) (fun _ => True) T.sz (some ⟨w.heap.size, 0, none⟩) [x].length ([x].flatMap T.enc) := by
  refine ⟨by simp [T.len x hx], fun _ => ⟨_, 0, rfl, trivial, fun j u hu => ?_⟩⟩
  rw [Nat.zero_add, (Blk.new w t _).cell]
  simpa using hu

/-! ### 7. Ways a call ends -/
theorem ret_int {k : IntKind} {a b : Int} (h : a = b) : Ending.returned (.int k a) = .returned (.int k b) := by rw [h]
theorem ret_bool {a b : Bool} (h : a = b) : Ending.returned (.bool a) = .returned (.bool b) := by rw [h]

end Go.Proofs.Ytnklgkmpcochfaa
/- How the arguments of a law read: from the row's own reading to lists, numbers and strings. No condition. -/
namespace Go.Proofs.Ytnklgkmpcochfaa
open Go.RowKit Go.ChangeShapes Go.WideShapes Go.Deep
set_option linter.unusedVariables false
set_option linter.unusedSimpArgs false

/-- what cells say -/
abbrev Cd (α : Type) := World → (Nat → Prop) → List Value → α → Prop
def cInt (k : IntKind) : Cd Int := fun _ _ cs x => cs = [.int k x] ∧ (Lit.int k x).wf = true
def cStr : Cd ByteArray := fun _ _ cs s => cs = [.string s] ∧ s.size ≤ 140737488351232
def cArr8 (n : Nat) : Cd (List Int) := fun _ _ cs xs => cs = nums .u8 xs ∧ xs.length = n ∧ B8 xs
def cPair {α β : Type} (c : Cd α) (d : Cd β) : Cd (α × β) := fun w S cs x => ∃ c1 c2, cs = c1 ++ c2 ∧ c w S c1 x.1 ∧ d w S c2 x.2
def cSl {α : Type} (sz : Nat) (c : Cd α) : Cd (List α) := fun w S cs xs => ∃ A cap, cs = [.slice A xs.length cap] ∧ xs.length ≤ cap ∧ xs.length ≤ 140737488351232 ∧
  (0 < xs.length → ∃ g o, A = some ⟨g, o, none⟩ ∧ S g ∧ ∀ i (h : i < xs.length), ∃ es, es.length = sz ∧ (∀ j u, es[j]? = some u → w.cell? ⟨g, o + i * sz + j, none⟩ = some u) ∧ c w S es xs[i])

/-- what a row's reading of type t gives -/
def Opens {α : Type} (P : Program) (t : TypeId) (c : Cd α) : Prop :=
  ∀ (H : Type) (enc : TypeId × Value → H) (w : World) (base : Nat) (spare : Nat → Bool) (held : Bool) (fuel : Nat) (cs : List Value) (x : DataW H × List MemPlace),
    DataW.trod enc P w base spare held fuel t cs = some x → (∀ n ∈ x.1.weights P t, n ≤ reachBytes) → ∃ y, c w (fun g => g < w.heap.size) cs y

theorem opens_int {P : Program} {t : TypeId} {k : IntKind} (ht : P.underlying t = some (.int k)) : Opens P t (cInt k) := by
  intro H enc w base spare held fuel cs x h _
  obtain ⟨n, rfl, rfl, hw⟩ := DataW.trod_int ht h
  exact ⟨n, rfl, hw⟩
theorem opens_str {P : Program} {t : TypeId} (ht : P.underlying t = some .string) : Opens P t cStr := by
  intro H enc w base spare held fuel cs x h hw
  obtain ⟨s, rfl, rfl, _⟩ := DataW.trod_string ht h
  refine ⟨s, rfl, ?_⟩
  have h2 : s.data.toList.length ≤ reachBytes := hw _ (by simp [DataW.weights])
  have h3 : s.data.toList.length = s.size := by rw [Array.length_toList]; rfl
  have h4 : reachBytes = 140737488351232 := by decide
  omega
theorem wf_u8 {n : Int} (h : (Lit.int .u8 n).wf = true) : 0 ≤ n ∧ n ≤ 255 := by
  simpa [Lit.wf, IntKind.min, IntKind.max, IntKind.signed, IntKind.bits] using h
theorem opens_arr8 {P : Program} {t e : TypeId} {n : Nat} (ht : P.underlying t = some (.array n e)) (he : P.underlying e = some (.int .u8)) (hc : P.cellsOf e = 1) (hn : P.cellsOf t = n) : Opens P t (cArr8 n) := by
  intro H enc w base spare held fuel cs x h _
  obtain ⟨xs, m, rfl, rfl, hl, hx, hi⟩ := DataW.trod_array ht h
  rw [hn] at hl
  rw [hc] at hi
  have key : ∀ i (h : i < cs.length), ∃ q, cs[i] = .int .u8 q ∧ 0 ≤ q ∧ q ≤ 255 := by
    intro i hin
    have h1 := hi i (by omega)
    rw [List.getElem?_eq_getElem (by omega : i < xs.length)] at h1
    obtain ⟨q, hq, _, hw⟩ := DataW.trod_int he h1
    rw [Nat.mul_one, List.drop_eq_getElem_cons hin] at hq
    have h3 : (cs[i] :: cs.drop (i + 1)).take 1 = [cs[i]] := rfl
    rw [h3] at hq
    exact ⟨q, by simpa using hq, wf_u8 hw⟩
  clear hi h hx
  have : ∃ ys, cs = nums .u8 ys ∧ B8 ys := by
    clear hl
    induction cs with
    | nil => exact ⟨[], rfl, by intro x hx; cases hx⟩
    | cons v r ih =>
      obtain ⟨ys, e, hb⟩ := ih (fun i hin => key (i + 1) (by simpa using hin))
      obtain ⟨q, hq, h0⟩ := key 0 (by simp)
      simp at hq
      refine ⟨q :: ys, by simp [nums, hq, e], fun z hz => ?_⟩
      rcases List.mem_cons.1 hz with rfl | hz
      · exact h0
      · exact hb z hz
  obtain ⟨ys, rfl, hb⟩ := this
  rw [nums_length] at hl
  exact ⟨ys, rfl, hl, hb⟩
theorem opens_struct2 {α β : Type} {P : Program} {t : TypeId} {f g : Field} {c : Cd α} {d : Cd β} (ht : P.underlying t = some (.struct #[f, g])) (h0 : f.offset = 0) (h1 : g.offset = P.cellsOf f.type) (hc : P.cellsOf t = P.cellsOf f.type + P.cellsOf g.type)
    (hf : Opens P f.type c) (hg : Opens P g.type d) : Opens P t (cPair c d) := by
  intro H enc w base spare held fuel cs x h hw
  obtain ⟨xs, m, rfl, rfl, hl, hx, hi⟩ := DataW.trod_struct ht h
  match xs, hx with
  | [y0, y1], _ =>
    have e0 := hi 0 f rfl
    have e1 := hi 1 g rfl
    simp only [List.getElem?_cons_zero, List.getElem?_cons_succ] at e0 e1
    rw [h0, List.drop_zero] at e0
    rw [h1, List.take_of_length_le (by rw [List.length_drop]; omega)] at e1
    obtain ⟨a, ha⟩ := hf _ _ _ _ _ _ _ _ _ e0 (fun n hn => hw n (by simp [DataW.weights, ht, DataW.weightsEach, hn]))
    obtain ⟨b, hb⟩ := hg _ _ _ _ _ _ _ _ _ e1 (fun n hn => hw n (by simp [DataW.weights, ht, DataW.weightsEach, hn]))
    exact ⟨(a, b), _, _, (List.take_append_drop _ _).symm, ha, hb⟩
theorem opens_struct4 {α β γ δ : Type} {P : Program} {t : TypeId} {f g k l : Field} {c : Cd α} {d : Cd β} {b : Cd γ} {r : Cd δ} (ht : P.underlying t = some (.struct #[f, g, k, l])) (h0 : f.offset = 0) (h1 : g.offset = P.cellsOf f.type) (h2 : k.offset = P.cellsOf f.type + P.cellsOf g.type) (h3 : l.offset = P.cellsOf f.type + P.cellsOf g.type + P.cellsOf k.type) (hc : P.cellsOf t = P.cellsOf f.type + P.cellsOf g.type + P.cellsOf k.type + P.cellsOf l.type)
    (hf : Opens P f.type c) (hg : Opens P g.type d) (hk : Opens P k.type b) (hr : Opens P l.type r) : Opens P t (cPair c (cPair d (cPair b r))) := by
  intro H enc w base spare held fuel cs x h hw
  obtain ⟨xs, m, rfl, rfl, hl, hx, hi⟩ := DataW.trod_struct ht h
  match xs, hx with
  | [y0, y1, y2, y3], _ =>
    have e0 := hi 0 f rfl
    have e1 := hi 1 g rfl
    have e2 := hi 2 k rfl
    have e3 := hi 3 l rfl
    simp only [List.getElem?_cons_zero, List.getElem?_cons_succ] at e0 e1 e2 e3
    rw [h0, List.drop_zero] at e0
    rw [h1] at e1
    rw [h2] at e2
    rw [h3, List.take_of_length_le (by rw [List.length_drop]; omega)] at e3
    obtain ⟨a, ha⟩ := hf _ _ _ _ _ _ _ _ _ e0 (fun n hn => hw n (by simp [DataW.weights, ht, DataW.weightsEach, hn]))
    obtain ⟨b', hb⟩ := hg _ _ _ _ _ _ _ _ _ e1 (fun n hn => hw n (by simp [DataW.weights, ht, DataW.weightsEach, hn]))
    obtain ⟨q, hq⟩ := hk _ _ _ _ _ _ _ _ _ e2 (fun n hn => hw n (by simp [DataW.weights, ht, DataW.weightsEach, hn]))
    obtain ⟨z, hz⟩ := hr _ _ _ _ _ _ _ _ _ e3 (fun n hn => hw n (by simp [DataW.weights, ht, DataW.weightsEach, hn]))
    refine ⟨(a, b', q, z), _, _, (List.take_append_drop (P.cellsOf f.type) _).symm, ha, _, cs.drop (P.cellsOf f.type + P.cellsOf g.type), ?_, hb, _, _, ?_, hq, hz⟩
    · have h4 := List.take_append_drop (P.cellsOf g.type) (cs.drop (P.cellsOf f.type))
      rw [List.drop_drop] at h4
      exact h4.symm
    · have h4 := List.take_append_drop (P.cellsOf k.type) (cs.drop (P.cellsOf f.type + P.cellsOf g.type))
      rw [List.drop_drop] at h4
      exact h4.symm
theorem weightsAll_mem {H : Type} {P : Program} {e : TypeId} {l : List (DataW H)} {d : DataW H} (hd : d ∈ l) {n : Nat} (hn : n ∈ d.weights P e) : n ∈ DataW.weightsAll P e l := by
  induction l with
  | nil => cases hd
  | cons x r ih =>
    simp only [DataW.weightsAll, List.mem_append]
    rcases List.mem_cons.1 hd with rfl | hd
    · exact .inl hn
    · exact .inr (ih hd)
theorem opens_slice {α : Type} {P : Program} {t e : TypeId} {c : Cd α} {sz : Nat} (ht : P.underlying t = some (.slice e)) (hs : P.cellsOf e = sz) (hb : 0 < P.bytesOf e) (hz : 0 < sz) (hc : Opens P e c) : Opens P t (cSl sz c) := by
  intro H enc w base spare held fuel cs x h hw
  rcases open_slice ht h with ⟨rfl, rfl⟩ | ⟨a, len, cap, m, n, D, Pl, rfl, _, hlc, hcm, hm, rfl, hi⟩
  · exact ⟨[], none, 0, rfl, Nat.le_refl _, by simp, fun h => absurd h (by simp)⟩
  · have hlm : len ≤ m := by rw [hm]; split <;> omega
    have hwl : len ≤ 140737488351232 := by
      have h1 := hw ((((List.range len).map D).length + ((List.range (m - len)).map fun j => D (len + j)).length) * P.bytesOf e) (by simp [DataW.weights, ht])
      have h4 : reachBytes = 140737488351232 := by decide
      simp at h1
      have : len * 1 ≤ (len + (m - len)) * P.bytesOf e := Nat.mul_le_mul (by omega) hb
      omega
    have key : ∀ i, i < len → ∃ y es, es.length = sz ∧ (∀ j u, es[j]? = some u → w.cell? ((a.add (i * sz)).add j) = some u) ∧ c w (fun g => g < w.heap.size) es y := by
      intro i hil
      obtain ⟨cs', h1, h2⟩ := hi i (by omega)
      rw [hs] at h1
      obtain ⟨_, hcl, hat⟩ := World.cells?_some h1
      obtain ⟨y, hy⟩ := hc _ _ _ _ _ _ _ _ _ h2 (fun q hq => hw q (by
        simp only [DataW.weights, ht, List.mem_cons, List.mem_append]
        exact .inr (.inl (weightsAll_mem (List.mem_map.2 ⟨i, List.mem_range.2 hil, rfl⟩) hq))))
      refine ⟨y, cs', hcl, fun j u hu => ?_, hy⟩
      have hj : j < sz := by have := (List.getElem?_eq_some_iff.1 hu).1; omega
      rw [hat j hj, hu]
    rcases Nat.eq_zero_or_pos len with h0 | h0
    · subst h0
      exact ⟨[], some a, cap, rfl, Nat.zero_le _, by simp, fun h => absurd h (by simp)⟩
    · classical
      have hsp : a.spot = none := by
        obtain ⟨y, es, hel, hat, _⟩ := key 0 h0
        have h1 := hat 0 _ (List.getElem?_eq_getElem (by omega))
        simp only [Nat.zero_mul, Addr.add, if_true] at h1
        unfold World.cell? at h1
        split at h1
        · split at h1
          · cases h1
          · rename_i hne; simpa using hne
        · cases h1
      obtain ⟨g, o, sp⟩ := a
      simp at hsp
      subst hsp
      let Y : Nat → α := fun i => if h : i < len then (key i h).choose else (key 0 h0).choose
      have hY : ∀ i (h : i < len), ∃ es, es.length = sz ∧ (∀ j u, es[j]? = some u → w.cell? ⟨g, o + i * sz + j, none⟩ = some u) ∧ c w (fun g => g < w.heap.size) es (Y i) := by
        intro i h
        obtain ⟨es, h1, h2, h3⟩ := (key i h).choose_spec
        refine ⟨es, h1, fun j u hu => ?_, by simpa [Y, h] using h3⟩
        have := h2 j u hu
        simpa [Addr.add_lit] using this
      refine ⟨(List.range len).map Y, some ⟨g, o, none⟩, cap, by simp, by simpa using hlc, by simpa using hwl, fun _ => ⟨g, o, rfl, ?_, fun i hil => ?_⟩⟩
      · obtain ⟨es, h1, h2, _⟩ := hY 0 h0
        exact World.block_lt_of_cell? w _ (h2 0 _ (List.getElem?_eq_getElem (by omega)))
      · simp at hil
        simpa using hY i hil
/-- a slice of a type without pointers -/
theorem rdl_of {α : Type} {T : Ty α} {c : Cd α} {w : World} {S : Nat → Prop} {v : Value} {xs : List α} (hc : ∀ es x, c w S es x → es = T.enc x ∧ T.ok x) (h : cSl T.sz c w S [v] xs) : RdL T w S v xs := by
  obtain ⟨A, cap, hv, h1, h2, h3⟩ := h
  obtain rfl : v = .slice A xs.length cap := by simpa using hv
  have hok : ∀ x ∈ xs, T.ok x := by
    intro x hx
    obtain ⟨i, hi, rfl⟩ := List.getElem_of_mem hx
    obtain ⟨g, o, _, _, h4⟩ := h3 (by omega)
    obtain ⟨es, _, _, h5⟩ := h4 i hi
    exact (hc _ _ h5).2
  refine ⟨A, cap, rfl, h1, by omega, ⟨flat_length T xs hok, fun hn => ?_⟩, hok⟩
  obtain ⟨g, o, e, hS, h4⟩ := h3 hn
  refine ⟨g, o, e, hS, fun q u hu => ?_⟩
  have hq : q < xs.length * T.sz := by
    have := (List.getElem?_eq_some_iff.1 hu).1
    rwa [flat_length T xs hok] at this
  have hz : 0 < T.sz := by
    rcases Nat.eq_zero_or_pos T.sz with h0 | h0
    · rw [h0] at hq; omega
    · exact h0
  have hi : q / T.sz < xs.length := (Nat.div_lt_iff_lt_mul hz).2 hq
  have hd : q / T.sz * T.sz + q % T.sz = q := by rw [Nat.mul_comm]; exact Nat.div_add_mod q T.sz
  obtain ⟨es, _, h6, h7⟩ := h4 (q / T.sz) hi
  rw [← hd, flat_at T xs hok _ hi _ (Nat.mod_lt _ hz), ← (hc _ _ h7).1] at hu
  have := h6 _ u hu
  rwa [Nat.add_assoc, hd] at this
theorem c_key : ∀ {w : World} {S : Nat → Prop} (es : List Value) (x : List Int), cArr8 32 w S es x → es = tKey.enc x ∧ tKey.ok x := fun es x h => ⟨h.1, h.2⟩
/-- an argument, opened -/
theorem open_arg {α : Type} {P : Program} {t : TypeId} {c : Cd α} (ho : Opens P t c) {H : Type} {enc : TypeId × Value → H} {w : World} {base : Nat} {spare : Nat → Bool} {held : Bool} {v : Value} {d : DataW H} {ps : List MemPlace} {ts : List TypeId} {ds : List (DataW H)} {j : Nat}
    (hsz : (DataW.weightsEach P ts ds).all (· ≤ reachBytes) = true) (ht : ts[j]? = some t) (hd : ds[j]? = some d) (h : DataW.Trod enc P w base spare held t v d ps) : ∃ y, c w (fun g => g < w.heap.size) v.cells.toList y := by
  obtain ⟨fuel, hf⟩ := h
  exact ho _ _ _ _ _ _ _ _ _ hf fun n hn => by simpa using List.all_eq_true.1 hsz n (DataW.weights_mem_each ht hd n hn)
theorem okWide_arr {P : Program} {w : World} {r : Reach} {base : Nat} {t e : TypeId} {n : Nat} {v : Value} (ht : P.underlying t = some (.array n e)) (h : Value.okWide P w r base t v) : ∃ cs, v = .agg cs := by
  simp only [Value.okWide, ht] at h
  obtain ⟨cs, h1, _⟩ := h
  exact ⟨cs, h1⟩
theorem agg_of {cs : Array Value} {l : List Value} (h : (Value.agg cs).cells.toList = l) : Value.agg cs = .agg l.toArray := by
  subst h
  simp [Value.cells]

end Go.Proofs.Ytnklgkmpcochfaa
/- Whole arrays of numbers: read, written, returned. No condition. -/
namespace Go.Proofs.Ytnklgkmpcochfaa
open Go.RowKit
set_option linter.unusedVariables false
set_option linter.unusedSimpArgs false

theorem Blk.new' {g : Nat} {w : World} (hg : g = w.heap.size) (t : TypeId) (cs : Array Value) : Blk (w.alloc (.cells cs t)) g t cs := by subst hg; exact Blk.new w t cs
theorem Agg.mk' {P : Program} {t n : Nat} {e : TypeId} {m : Nat} (h : P.underlying t = some (.array m e)) (hs : (P.info? t).map (·.size) = some n) : Agg P t n := ⟨⟨_, h, rfl⟩, hs⟩
theorem aggU32 : Agg Try.prog 177 8 := Agg.mk' (e := 176) (m := 8) (by kernel_rfl) (by kernel_rfl)
theorem aggB32 : Agg Try.prog 45 32 := Agg.mk' (e := 5) (m := 32) (by kernel_rfl) (by kernel_rfl)
theorem aggKey : Agg Try.prog 53 32 := Agg.mk' (e := 5) (m := 32) (by kernel_rfl) (by kernel_rfl)
section
variable {P : Program} {ops : Array Oper} {rest : List Oper} {o : Oper} {a : Act} {w : World} {Q : Exit → Act → World → Prop}
theorem wpl_loadN {t g e : Nat} {k : IntKind} {xs : List Int} (hb : Blk w g e (numsA k xs)) {n : Nat} (ht : Agg P t n) (hn : xs.length = n) (hgd : o.guard = none) (x : Operand) (ho : o.op = .load t x) (hx : a.eval x = .pointer (some ⟨g, 0, none⟩))
    (h : wpList P ops Q rest (a.put o.dst (.agg (numsA k xs))) w) : wpList P ops Q (o :: rest) a w := by
  subst hn
  refine wpl_load ⟨g, 0, none⟩ (nums k xs) (by rw [nums_length]; exact ht) hgd x ho hx (fun j u hu => ?_) h
  rw [Addr.add_lit, Nat.zero_add, hb.cell]
  simpa [numsA] using hu
theorem splice_all (cur : Array Value) (vs : List Value) (h : cur.size = vs.length) : splice cur 0 vs = vs.toArray := by
  unfold splice
  rw [List.take_zero, List.nil_append, Nat.zero_add, List.drop_eq_nil_of_le (by simp; omega), List.append_nil]
theorem wpl_storeN {t g e : Nat} {k : IntKind} {xs : List Int} {cur : Array Value} (hb : Blk w g e cur) {n : Nat} (ht : Agg P t n) (hn : xs.length = n) (hl : cur.size = n) (hgd : o.guard = none) (x y : Operand) (ho : o.op = .store t x y) (hx : a.eval x = .pointer (some ⟨g, 0, none⟩))
    (hy : a.eval y = .agg (numsA k xs)) (hd : o.dst = none) (h : wpList P ops Q rest a (w.setRow g (numsA k xs))) : wpList P ops Q (o :: rest) a w := by
  refine wpl_store g 0 e cur (nums k xs) (by rw [nums_length, hn]; exact ht.2) hgd x y ho hx (by rw [hy]; rfl) hb (by rw [nums_length]; omega) (one_nums k xs) hd ?_
  rwa [splice_all _ _ (by rw [nums_length]; omega)]
/-- a whole array in a variable is the result -/
theorem results_blk {fn : Func} {c : Tmp} {t g e : Nat} {k : IntKind} {xs : List Int} (hr : fn.results = #[.cell c t]) (tmps : Array Value) (hp : tmps.getD c undef = .pointer (some ⟨g, 0, none⟩)) {n : Nat} (ht : Agg P t n) (hn : xs.length = n) (hb : Blk w g e (numsA k xs)) :
    (results fn tmps).run P w = .ok (.agg (numsA k xs)) w := by
  obtain ⟨⟨d, hu, hd⟩, hi⟩ := ht
  exact results_cell_row hr tmps w g e _ (0, 0) d hp hb hu (by cases d <;> simp_all) (by rw [hi, numsA_size, hn])
end
theorem zero32 : (#[Value.int .u8 0, Value.int .u8 0, Value.int .u8 0, Value.int .u8 0, Value.int .u8 0, Value.int .u8 0, Value.int .u8 0, Value.int .u8 0, Value.int .u8 0, Value.int .u8 0, Value.int .u8 0, Value.int .u8 0, Value.int .u8 0, Value.int .u8 0, Value.int .u8 0, Value.int .u8 0, Value.int .u8 0, Value.int .u8 0, Value.int .u8 0, Value.int .u8 0, Value.int .u8 0, Value.int .u8 0, Value.int .u8 0, Value.int .u8 0, Value.int .u8 0, Value.int .u8 0, Value.int .u8 0, Value.int .u8 0, Value.int .u8 0, Value.int .u8 0, Value.int .u8 0, Value.int .u8 0] : Array Value) = numsA .u8 (List.replicate 32 0) := by simp only [numsA, nums, List.replicate_succ, List.replicate_zero, List.map_cons, List.map_nil]
end Go.Proofs.Ytnklgkmpcochfaa
/- The laws' own words on lists of bytes: counted, copied, held against each other, marked. No condition. -/
namespace Go.Proofs.Ytnklgkmpcochfaa
open Go.RowKit
set_option linter.unusedVariables false
set_option linter.unusedSimpArgs false

end Go.Proofs.Ytnklgkmpcochfaa
/- Keys: held against each other, copied. No condition. -/
namespace Go.Proofs.Ytnklgkmpcochfaa
open Go.RowKit
set_option linter.unusedVariables false
set_option linter.unusedSimpArgs false

theorem setRow_alloc (w : World) (cs cs' : Array Value) (t : TypeId) : (w.alloc (.cells cs t)).setRow w.heap.size cs' = w.alloc (.cells cs' t) := by
  unfold World.setRow World.alloc
  congr 1
  apply Array.ext
  · simp
  · intro i h1 h2
    simp only [Array.getElem_modify, Array.getElem_push]
    simp only [Array.size_push] at h2
    by_cases h : i < w.heap.size
    · rw [if_neg (by omega)]; simp [h]
    · have : i = w.heap.size := by omega
      subst this
      simp
/-- a whole array is stored into the variable that has just been made -/
theorem wpl_storeNew {P : Program} {ops : Array Oper} {rest : List Oper} {o : Oper} {a : Act} {w : World} {Q : Exit → Act → World → Prop} {t e : Nat} {k : IntKind} {xs : List Int} {cur : Array Value} {n : Nat} (ht : Agg P t n) (hn : xs.length = n) (hl : cur.size = n) (hgd : o.guard = none) (x y : Operand) (ho : o.op = .store t x y) (hx : a.eval x = .pointer (some ⟨w.heap.size, 0, none⟩))
    (hy : a.eval y = .agg (numsA k xs)) (hd : o.dst = none) (h : wpList P ops Q rest a (w.alloc (.cells (numsA k xs) e))) : wpList P ops Q (o :: rest) a (w.alloc (.cells cur e)) := by
  refine wpl_storeN (Blk.new w e cur) ht hn hl hgd x y ho hx hy hd ?_
  rw [setRow_alloc]
  exact h
/-- a whole array in a variable and a number are the results -/
theorem results_blk2 {P : Program} {w : World} {fn : Func} {c d : Tmp} {t g e : Nat} {k : IntKind} {xs : List Int} (hr : fn.results = #[.cell c t, .tmp d]) (tmps : Array Value) (hp : tmps.getD c undef = .pointer (some ⟨g, 0, none⟩)) {n : Nat} (ht : Agg P t n) (hn : xs.length = n) (hb : Blk w g e (numsA k xs)) {v : Value} (hv : tmps.getD d undef = v) :
    (results fn tmps).run P w = .ok (.tuple #[.agg (numsA k xs), v]) w := by
  have hl := run_loadVar_at (P := P) (w := w) (t := t) ⟨g, 0, none⟩ (nums k xs) (by rw [nums_length, hn]; exact ht) (fun j u hu => by
    rw [Addr.add_lit, Nat.zero_add, hb.cell]
    simpa [numsA] using hu)
  have hp' : tmps[c]?.getD undef = .pointer (some ⟨g, 0, none⟩) := by simpa using hp
  have hv' : tmps[d]?.getD undef = v := by simpa using hv
  simp [results, hr, hp', hv', asAddr, hl, numsA]
theorem sizeN {k : IntKind} {xs : List Int} {n : Nat} (h : xs.length = n) : (numsA k xs).size = n := by rw [numsA_size, h]
set_option maxHeartbeats 1000000 in
set_option maxRecDepth 100000 in
theorem eqKey_any (a b : List Int) (ha : K32 a) (hb : K32 b) (w : World) :
    Calls Try.prog 42 #[.agg (numsA .u8 a), .agg (numsA .u8 b)] w fun e w' => e = .returned (.bool (a == b)) ∧ Ext w w' := by
  have HA := Lib.hid ha.1
  have HB := Lib.hid hb.1
  go_enter Try.func42, Try.ntmps42
  go_wp2
  go_loopw [5] (fun i wr => ∃ k : Nat, k ≤ 32 ∧ i = .int .i64 k ∧ a.take k = b.take k ∧ Blk wr w.heap.size 53 (numsA .u8 a) ∧ Blk wr (w.heap.size + 1) 53 (numsA .u8 b) ∧ Ext w wr)
    (fun i _ => 32 - (intOf i).toNat)
  case atStart => exact ⟨0, by omega, rfl, by simp, (Blk.new w _ _).alloc _, Blk.new' (by simp) _ _, (ext_alloc _ _).alloc _⟩
  case round =>
    obtain ⟨k, hk, rfl, ht, h1, h2, hx⟩ := hrel
    have Ht := Lib.hid ht
    have HX := Lib.hid hx
    have H1 := Lib.hid h1
    have H2 := Lib.hid h2
    clear ht h1 h2 hx
    by_cases hlt : k < 32
    · have hd := H1.out.num k (by rw [HA.out]; exact hlt)
      have hd' := H2.out.num k (by rw [HB.out]; exact hlt)
      by_cases he : gI a k = gI b k
      · have He := Lib.hid he
        have hne : (gI a k != gI b k) = false := by simpa using he
        clear he
        go_wp2
        go_quiet (fail)
        go_wp2
        go_roundw
        case rel => exact ⟨k + 1, by omega, by go_num, take_eq_step (by rw [HA.out]; exact hlt) (by rw [HB.out]; exact hlt) Ht.out He.out, H1.out, H2.out, HX.out.drewN _⟩
        case measure => simp [intOf]; omega
      · have He := Lib.hid he
        have hne : (gI a k != gI b k) = true := by simpa using he
        clear he
        go_wp2
        go_quiet (fail)
        go_wp2
        go_ret
        exact ⟨by rw [beq_eq_false_iff_ne.2 (fun h => He.out (by rw [h]))]; rfl, HX.out.drewN _⟩
    · go_wp2
      go_ret
      obtain rfl : k = 32 := by omega
      refine ⟨?_, HX.out⟩
      have e := Ht.out
      rw [List.take_of_length_le (by rw [HA.out]; omega), List.take_of_length_le (by rw [HB.out]; omega)] at e
      subst e; simp

end Go.Proofs.Ytnklgkmpcochfaa
/- Whole structs and arrays in variables: made, stored, loaded, in regions too. No condition. -/
namespace Go.Proofs.Ytnklgkmpcochfaa
open Go.RowKit
set_option linter.unusedVariables false
set_option linter.unusedSimpArgs false

/-- cells of a struct or an array: so many, none of them a struct or an array itself -/
structure St (n : Nat) (cs : Array Value) : Prop where
  size : cs.size = n
  one : ∀ u ∈ cs.toList, u.oneCell' = true
theorem St.nums {k : IntKind} {xs : List Int} {n : Nat} (h : xs.length = n) : St n (numsA k xs) := ⟨by rw [numsA_size, h], fun u hu => one_nums k xs u (by simpa [numsA] using hu)⟩
theorem Agg.mkS {P : Program} {t n : Nat} {fs : Array Field} (h : P.underlying t = some (.struct fs)) (hs : (P.info? t).map (·.size) = some n) : Agg P t n := ⟨⟨_, h, rfl⟩, hs⟩
section
variable {P : Program} {ops : Array Oper} {rest : List Oper} {o : Oper} {a : Act} {w : World} {Q : Exit → Act → World → Prop}
theorem run_loadB {t g e n : Nat} {cs : Array Value} (hb : Blk w g e cs) (ht : Agg P t n) (hn : cs.size = n) : (loadVar t ⟨g, 0, none⟩).run P w = .ok (.agg cs) w := by
  have := run_loadVar_at (P := P) (w := w) (t := t) ⟨g, 0, none⟩ cs.toList (by simpa [hn] using ht) (fun j u hu => by
    rw [Addr.add_lit, Nat.zero_add, hb.cell]
    simpa using hu)
  simpa using this
theorem wpl_loadB {t g e n : Nat} {cs : Array Value} (hb : Blk w g e cs) (ht : Agg P t n) (hn : cs.size = n) (hgd : o.guard = none) (x : Operand) (ho : o.op = .load t x) (hx : a.eval x = .pointer (some ⟨g, 0, none⟩))
    (h : wpList P ops Q rest (a.put o.dst (.agg cs)) w) : wpList P ops Q (o :: rest) a w := by
  refine wpList_plain hgd fun K hK => ?_
  unfold Oper.wp execOp
  simp only [ho, hx, Instr.loadAt, Instr.sureAddr, Sem.run_bind, Sem.run_pure, Result.andThen_ok, run_loadB hb ht hn]
  exact hK _ _ h
/-- a whole struct or array is stored into the variable that has just been made -/
theorem wpl_storeNewB {t e n : Nat} {cs cur : Array Value} (ht : Agg P t n) (hs : St n cs) (hl : cur.size = n) (hgd : o.guard = none) (x y : Operand) (ho : o.op = .store t x y) (hx : a.eval x = .pointer (some ⟨w.heap.size, 0, none⟩))
    (hy : a.eval y = .agg cs) (hd : o.dst = none) (h : wpList P ops Q rest a (w.alloc (.cells cs e))) : wpList P ops Q (o :: rest) a (w.alloc (.cells cur e)) := by
  refine wpl_store w.heap.size 0 e cur cs.toList (by rw [Array.length_toList, hs.size]; exact ht.2) hgd x y ho hx (by rw [hy]; simp [Value.cells]) (Blk.new w e cur) (by rw [Array.length_toList, hs.size]; omega) hs.one hd ?_
  rw [splice_all _ _ (by rw [Array.length_toList, hs.size]; omega), setRow_alloc]
  simpa using h
theorem wpl_storeB {t g e n : Nat} {cs cur : Array Value} (hb : Blk w g e cur) (ht : Agg P t n) (hs : St n cs) (hl : cur.size = n) (hgd : o.guard = none) (x y : Operand) (ho : o.op = .store t x y) (hx : a.eval x = .pointer (some ⟨g, 0, none⟩))
    (hy : a.eval y = .agg cs) (hd : o.dst = none) (h : wpList P ops Q rest a (w.setRow g cs)) : wpList P ops Q (o :: rest) a w := by
  refine wpl_store g 0 e cur cs.toList (by rw [Array.length_toList, hs.size]; exact ht.2) hgd x y ho hx (by rw [hy]; simp [Value.cells]) hb (by rw [Array.length_toList, hs.size]; omega) hs.one hd ?_
  rw [splice_all _ _ (by rw [Array.length_toList, hs.size]; omega)]
  simpa using h
/-- a load that any world behind w0 answers alike -/
theorem yields_loadB {w0 : World} {t g e n : Nat} {cs : Array Value} (hb : Blk w0 g e cs) (ht : Agg P t n) (hn : cs.size = n) (hw : Region.wanted o (yielded ops a.tmps) = true) (x : Operand) (ho : o.op = .load t x) (hx : a.eval x = .pointer (some ⟨g, 0, none⟩)) :
    YieldsIf P ops (fun W => Ext w0 W) o (.agg cs) a := Or.inl ⟨hw, fun W hW => by
  unfold execOp
  simp only [ho, hx, Instr.loadAt, Instr.sureAddr, Sem.run_bind, Sem.run_pure, Result.andThen_ok, run_loadB (hb.ext hW) ht hn]⟩
end

end Go.Proofs.Ytnklgkmpcochfaa
/- One operation of a region is taken, its number counted from the region's size. No condition. -/
namespace Go.Proofs.Ytnklgkmpcochfaa
open Go.RowKit
set_option linter.unusedVariables false
theorem tkI {P : Program} {md : Region.Mode} {ops : Array Oper} {Q : Exit → Act → World → Prop} {S : World → Prop} (i : Nat) {oi : Oper} {v : Value} {fuel : Nat} {listed : Array Bool} {a : Act} {w : World} (hi : ops[i]? = some oi)
    (h3 : (Region.noSelect ops && Region.free md ops listed i && (Region.ready md ops listed).contains i) = true) (hQ : ∀ c a w, Q (.panic c) (a.put oi.dst v) w → Q (.panic c) a w) (hy : YieldsIf P ops S oi v a) (hS : S w)
    (h : wpAnyH P md ops Q S fuel (listed.setIfInBounds i true) (a.put oi.dst v) w) : wpAnyH P md ops Q S (fuel + 1) listed a w := by
  simp only [Bool.and_eq_true] at h3
  exact wpAnyH_take hi h3.1.1 h3.1.2 h3.2 hQ hy hS h
theorem tkD {P : Program} {md : Region.Mode} {ops : Array Oper} {Q : Exit → Act → World → Prop} {S : World → Prop} (d : Nat) {i : Nat} {oi : Oper} {v : Value} {fuel : Nat} {listed : Array Bool} {a : Act} {w : World} (hd : ops.size - (fuel + 1) + d = i) (hi : ops[i]? = some oi)
    (h3 : (Region.noSelect ops && Region.free md ops listed i && (Region.ready md ops listed).contains i) = true) (hQ : ∀ c a w, Q (.panic c) (a.put oi.dst v) w → Q (.panic c) a w) (hy : YieldsIf P ops S oi v a) (hS : S w)
    (h : wpAnyH P md ops Q S fuel (listed.setIfInBounds i true) (a.put oi.dst v) w) : wpAnyH P md ops Q S (fuel + 1) listed a w := tkI i hi h3 hQ hy hS h
end Go.Proofs.Ytnklgkmpcochfaa
/- Texts and their bytes. No condition. -/
namespace Go.Proofs.Ytnklgkmpcochfaa
open Go.RowKit
set_option linter.unusedVariables false
set_option linter.unusedSimpArgs false

/-- the bytes of a text -/
@[irreducible] def strL (s : ByteArray) : List Int := s.data.toList.map fun b => (b.toNat : Int)
theorem strL_length (s : ByteArray) : (strL s).length = s.size := by unfold strL; simp
theorem strL_ok (s : ByteArray) : B8 (strL s) := by
  intro x hx
  unfold strL at hx
  obtain ⟨b, _, rfl⟩ := List.mem_map.1 hx
  have := b.toNat_lt
  omega
theorem strL_at (s : ByteArray) (i : Nat) (h : i < s.size) : gI (strL s) i = (s.data.toList.getD i 0).toNat := by
  rw [gI_lt (by rw [strL_length]; exact h)]
  unfold strL
  simp [List.getD, h]
theorem bytesWorld_ext (w : World) (e : TypeId) (s : ByteArray) : Ext w (Lib.bytesWorld w e s) :=
  ⟨rfl, rfl, rfl, by rw [Lib.bytesWorld_size]; omega, fun i hi => Lib.bytesWorld_at_old w e s i hi⟩
theorem bytesWorld_rd (w : World) (e : TypeId) (s : ByteArray) (hl : s.size ≤ 140737488351232) : RdL tByte (Lib.bytesWorld w e s) (fun g => w.heap.size ≤ g ∧ g < (Lib.bytesWorld w e s).heap.size) (.slice (some ⟨w.heap.size, 0, none⟩) s.size (grownCap w s.size 0 e)) (strL s) := by
  have hn := strL_length s
  refine ⟨_, _, by rw [hn], ?_, by omega, ⟨?_, fun _ => ⟨_, 0, rfl, ⟨Nat.le_refl _, by rw [Lib.bytesWorld_size]; omega⟩, fun j u hu => ?_⟩⟩, fun x hx => strL_ok s x hx⟩
  · rw [hn]; exact grownCap_ge w s.size 0 e
  · rw [flat_bytes, nums_length]; exact (Nat.mul_one _).symm
  · rw [flat_bytes] at hu
    have hj : j < s.size := by
      have := (List.getElem?_eq_some_iff.1 hu).1
      rwa [nums_length, hn] at this
    rw [nums_at _ _ _ (by rw [hn]; exact hj)] at hu
    rw [Nat.zero_add, Lib.bytesWorld_cell w e s j hj, ← hu, strL_at s j hj]
/-- the bytes of a text, in new memory -/
theorem wpl_conv {P : Program} {ops : Array Oper} {rest : List Oper} {o : Oper} {a : Act} {w : World} {Q : Exit → Act → World → Prop} {src dst e : TypeId} {s : ByteArray}
    (hs : P.underlying src = some .string) (hd : P.underlying dst = some (.slice e)) (he : P.underlying e = some (.int .u8)) (hgd : o.guard = none) (x : Operand) (ho : o.op = .convert src dst x) (hx : a.eval x = .string s) (hl : s.size ≤ 140737488351232)
    (h : ∀ A c w', RdL tByte w' (fun g => w.heap.size ≤ g ∧ g < w'.heap.size) (.slice A s.size c) (strL s) → Ext w w' → wpList P ops Q rest (a.put o.dst (.slice A s.size c)) w') : wpList P ops Q (o :: rest) a w := by
  refine wpList_plain hgd fun K hK => ?_
  unfold Oper.wp execOp
  simp only [ho, hx, Sem.run_bind, Sem.run_pure, Result.andThen_ok, Lib.run_convert_string_bytes w src dst e s hs hd he]
  exact hK _ _ (h _ _ _ (bytesWorld_rd w e s hl) (bytesWorld_ext w e s))

end Go.Proofs.Ytnklgkmpcochfaa
/- Keys and entries: copied, counted. No condition. -/
namespace Go.Proofs.Ytnklgkmpcochfaa
open Go.RowKit
set_option linter.unusedVariables false
set_option linter.unusedSimpArgs false

section
variable {P : Program} {ops : Array Oper} {rest : List Oper} {o : Oper} {a : Act} {w : World} {Q : Exit → Act → World → Prop}
/-- a part of a variable is loaded -/
theorem wpl_loadP {t g e n off : Nat} {cs sub : Array Value} (hb : Blk w g e cs) (ht : Agg P t n) (hn : sub.size = n) (hp : ∀ j u, sub[j]? = some u → cs[off + j]? = some u) (hgd : o.guard = none) (x : Operand) (ho : o.op = .load t x) (hx : a.eval x = .pointer (some ⟨g, off, none⟩))
    (h : wpList P ops Q rest (a.put o.dst (.agg sub)) w) : wpList P ops Q (o :: rest) a w := by
  have h2 := wpl_load (P := P) (ops := ops) (rest := rest) (o := o) (a := a) (w := w) (Q := Q) (t := t) ⟨g, off, none⟩ sub.toList (by simpa [hn] using ht) hgd x ho hx (fun j u hu => by
    rw [Addr.add_lit, hb.cell]
    exact hp j u (by simpa using hu)) (by simpa using h)
  exact h2
/-- a part of a variable is written -/
theorem wpl_storeP {t g e n off : Nat} {cs cur : Array Value} (hb : Blk w g e cur) (ht : Agg P t n) (hs : St n cs) (hl : off + n ≤ cur.size) (hgd : o.guard = none) (x y : Operand) (ho : o.op = .store t x y) (hx : a.eval x = .pointer (some ⟨g, off, none⟩))
    (hy : a.eval y = .agg cs) (hd : o.dst = none) (h : wpList P ops Q rest a (w.setRow g (splice cur off cs.toList))) : wpList P ops Q (o :: rest) a w := by
  refine wpl_store g off e cur cs.toList (by rw [Array.length_toList, hs.size]; exact ht.2) hgd x y ho hx (by rw [hy]; simp [Value.cells]) hb (by rw [Array.length_toList, hs.size]; omega) hs.one hd ?_
  simpa using h
end
set_option maxHeartbeats 1000000 in
set_option maxRecDepth 100000 in
theorem toKey_any (a : List Int) (ha : K32 a) (w : World) :
    Calls Try.prog 24 #[.agg (numsA .u8 a)] w fun e w' => e = .returned (.agg (numsA .u8 a)) ∧ Ext w w' := by
  have HA := Lib.hid ha.1
  go_enter Try.func24, Try.ntmps24
  go_wp2
  go_loopw [4] (fun i wr => ∃ k : Nat, k ≤ 32 ∧ i = .int .i64 k ∧ Blk wr w.heap.size 45 (numsA .u8 a) ∧ (∃ z, Blk wr (w.heap.size + 1) 53 z ∧ z.size = 32) ∧ (∃ ys, Blk wr (w.heap.size + 2) 53 (numsA .u8 ys) ∧ ys.length = 32 ∧ ys.take k = a.take k) ∧ Ext w wr)
    (fun i _ => 32 - (intOf i).toNat)
  case atStart => exact ⟨0, by omega, rfl, ((Blk.new w _ _).alloc _).alloc _, ⟨_, (Blk.new' (by simp) _ _).alloc _, rfl⟩, ⟨List.replicate 32 0, by rw [← zero32]; exact Blk.new' (by simp) _ _, by simp, by simp⟩, ((ext_alloc _ _).alloc _).alloc _⟩
  case round =>
    obtain ⟨k, hk, rfl, h1, ⟨z, h2, hz⟩, ⟨ys, h3, hyl, hyt⟩, hx⟩ := hrel
    have HX := Lib.hid hx
    have H1 := Lib.hid h1
    have H2 := Lib.hid h2
    have H3 := Lib.hid h3
    have HYL := Lib.hid hyl
    have HYT := Lib.hid hyt
    have HZ := Lib.hid hz
    clear h1 h2 h3 hx hyl hyt hz
    by_cases hlt : k < 32
    · have hd := H1.out.num k (by rw [HA.out]; exact hlt)
      have hd2 := H3.out.num k (by rw [HYL.out]; exact hlt)
      have hf := H3.out.free k
      go_wp2
      go_roundw
      case rel => exact ⟨k + 1, by omega, by go_num, H1.out.far (by simp <;> omega) _, ⟨z, H2.out.far (by simp <;> omega) _, HZ.out⟩, ⟨ys.set k (gI a k), by rw [← numsA_set]; exact H3.out.set k _, by simp [HYL.out], set_take_step (by rw [HA.out]; exact hlt) (by rw [HYL.out, HA.out]) HYT.out⟩, HX.out.set (by simp <;> omega) _⟩
      case measure => simp [intOf]; omega
    · obtain rfl : k = 32 := by omega
      have e := HYT.out
      rw [List.take_of_length_le (by rw [HYL.out]; omega), List.take_of_length_le (by rw [HA.out]; omega)] at e
      subst e
      have hn := sizeN (k := .u8) HA.out
      have hs : St 32 (numsA .u8 ys) := St.nums HA.out
      have HS := Lib.hid hs
      have hzz := HZ.out
      clear hs
      go_wp2_with (first | (refine wpl_loadB H3.out aggKey hn rfl _ rfl rfl ?_) | (refine wpl_storeB H2.out aggKey HS.out hzz rfl _ _ rfl rfl rfl rfl ?_))
      refine bodyPost_ret (results_blk rfl _ rfl aggKey HA.out (H2.out.setRow _)) rfl ?_
      exact ⟨rfl, HX.out.setRow (by simp) _⟩
set_option maxHeartbeats 1000000 in
set_option maxRecDepth 100000 in
theorem toEntry_any (n v : ByteArray) (w : World) :
    Calls Try.prog 100 #[.agg #[.string n, .string v]] w fun e w' => e = .returned (.agg #[.string n, .string v]) ∧ Ext w w' := by
  go_enter Try.func100, Try.ntmps100
  go_wp2
  refine bodyPost_ret (v := .agg #[.string n, .string v]) (by simp [results, Try.results100, go_sem]) rfl ?_
  exact ⟨rfl, ((ext_alloc w _).alloc _).alloc _⟩
set_option maxHeartbeats 1000000 in
set_option maxRecDepth 100000 in
theorem szEntry_any (n v : ByteArray) (hn : n.size ≤ 140737488351232) (hv : v.size ≤ 140737488351232) (l : Int) (h0 : -1 ≤ l) (h1 : l ≤ 1048576) (w : World) :
    Calls Try.prog 98 #[.agg #[.string n, .string v], .int .i64 l] w fun e w' => e = .returned (.int .i64 (if l - n.size - v.size < 0 then -1 else l - n.size - v.size)) ∧ Ext w w' := by
  by_cases h2 : l - (n.size : Int) < 0
  · rw [if_pos (by omega)]
    go_enter Try.func98, Try.ntmps98
    go_wp2
    go_ret
    exact ⟨rfl, ext_alloc _ _⟩
  · by_cases h3 : l - (n.size : Int) - (v.size : Int) < 0
    · rw [if_pos (by omega)]
      go_enter Try.func98, Try.ntmps98
      go_wp2
      go_ret
      exact ⟨rfl, ext_alloc _ _⟩
    · rw [if_neg (by omega)]
      go_enter Try.func98, Try.ntmps98
      go_wp2
      go_ret
      exact ⟨rfl, ext_alloc _ _⟩

end Go.Proofs.Ytnklgkmpcochfaa
/- A struct that is filled field by field. No condition. -/
namespace Go.Proofs.Ytnklgkmpcochfaa
open Go.RowKit
set_option linter.unusedVariables false
set_option linter.unusedSimpArgs false

/-- block g holds the cells A, and m more -/
def Fill (w : World) (g e : Nat) (A : List Value) (m : Nat) : Prop := ∃ R, R.length = m ∧ Blk w g e (A ++ R).toArray
section
variable {w w' : World} {g e m : Nat} {A : List Value}
theorem Fill.ext (h : Fill w g e A m) (x : Ext w w') : Fill w' g e A m := by
  obtain ⟨R, h1, h2⟩ := h
  exact ⟨R, h1, h2.ext x⟩
theorem Fill.start {Z : Array Value} (h : Blk w g e Z) : Fill w g e [] Z.size := ⟨Z.toList, by simp, by simpa using h⟩
theorem Fill.start' {Z : Array Value} {n : Nat} (h : Blk w g e Z) (hn : Z.size = n) : Fill w g e [] n := hn ▸ Fill.start h
theorem Fill.done (h : Fill w g e A 0) : Blk w g e A.toArray := by
  obtain ⟨R, h1, h2⟩ := h
  obtain rfl : R = [] := List.eq_nil_of_length_eq_zero h1
  simpa using h2
theorem Fill.cell (h : Fill w g e A (m + 1)) {off : Nat} (ho : A.length = off) : (∃ u, w.cell? ⟨g, off, none⟩ = some u) ∧ w.frozen? ⟨g, off, none⟩ = false := by
  obtain ⟨R, h1, h2⟩ := h
  refine ⟨?_, h2.free off⟩
  rw [h2.cell]
  have : off < (A ++ R).toArray.size := by simp; omega
  exact ⟨_, Array.getElem?_eq_getElem this⟩
theorem Fill.one (h : Fill w g e A (m + 1)) {off : Nat} (ho : A.length = off) (v : Value) : Fill (w.setCell ⟨g, off, none⟩ v) g e (A ++ [v]) m := by
  obtain ⟨R, h1, h2⟩ := h
  match R, h1 with
  | r :: R', h1 =>
    refine ⟨R', by simpa using h1, ?_⟩
    have := h2.set off v
    subst ho
    simpa using this
theorem Fill.far (h : Fill w g e A m) {p : Addr} (hp : g ≠ p.block) (u : Value) : Fill (w.setCell p u) g e A m := by
  obtain ⟨R, h1, h2⟩ := h
  exact ⟨R, h1, h2.far hp u⟩
end
theorem splice_next (A R vs : List Value) {o : Nat} (h : A.length = o) : splice (A ++ R).toArray o vs = (A ++ vs ++ R.drop vs.length).toArray := by
  subst h
  unfold splice
  congr 1
  rw [List.take_left', List.drop_append, List.drop_eq_nil_of_le (by omega), List.nil_append, show A.length + vs.length - A.length = vs.length by omega]
  rfl
/-- the next cells are written, all at once -/
theorem wpl_fill {P : Program} {ops : Array Oper} {rest : List Oper} {o : Oper} {a : Act} {w : World} {Q : Exit → Act → World → Prop} {t g e n m off : Nat} {cs : Array Value} {A : List Value} (hb : Fill w g e A (n + m)) (hA : A.length = off) (ht : Agg P t n) (hs : St n cs) (hgd : o.guard = none) (x y : Operand) (ho : o.op = .store t x y) (hx : a.eval x = .pointer (some ⟨g, off, none⟩))
    (hy : a.eval y = .agg cs) (hd : o.dst = none) (h : ∀ row, Fill (w.setRow g row) g e (A ++ cs.toList) m → wpList P ops Q rest a (w.setRow g row)) : wpList P ops Q (o :: rest) a w := by
  obtain ⟨R, h1, h2⟩ := hb
  have hl : cs.toList.length = n := by rw [Array.length_toList, hs.size]
  refine wpl_storeP h2 ht hs (by simp; omega) hgd x y ho hx hy hd (h _ ⟨R.drop n, by rw [List.length_drop]; omega, ?_⟩)
  have := h2.setRow (splice (A ++ R).toArray off cs.toList)
  rw [splice_next A R _ hA, hl] at this
  rw [splice_next A R _ hA, hl]
  exact this

/-- a whole variable is the result -/
theorem results_blkB {P : Program} {w : World} {fn : Func} {c : Tmp} {t g e n : Nat} {cs : Array Value} (hr : fn.results = #[.cell c t]) (tmps : Array Value) (hp : tmps.getD c undef = .pointer (some ⟨g, 0, none⟩)) (ht : Agg P t n) (hn : cs.size = n) (hb : Blk w g e cs) :
    (results fn tmps).run P w = .ok (.agg cs) w := by
  have hl := run_loadB (P := P) hb ht hn
  have hp' : tmps[c]?.getD undef = .pointer (some ⟨g, 0, none⟩) := by simpa using hp
  simp [results, hr, hp', asAddr, hl]
/-! ### nodes -/
structure Nd where
  l : List Int
  r : List Int
  n : ByteArray
  v : ByteArray
def Nd.enc (x : Nd) : List Value := nums .u8 x.l ++ nums .u8 x.r ++ [.string x.n, .string x.v]
def Nd.ok (x : Nd) : Prop := K32 x.l ∧ K32 x.r ∧ x.n.size ≤ 140737488351232 ∧ x.v.size ≤ 140737488351232
theorem Nd.enc_length {x : Nd} (h : x.ok) : x.enc.length = 66 := by simp [Nd.enc, nums_length, h.1.1, h.2.1.1]
theorem Nd.enc_one (x : Nd) : ∀ u ∈ x.enc, u.oneCell' = true := by
  intro u hu
  unfold Nd.enc at hu
  rcases List.mem_append.1 hu with hu | hu
  · rcases List.mem_append.1 hu with hu | hu
    · exact one_nums _ _ u hu
    · exact one_nums _ _ u hu
  · simp at hu; rcases hu with rfl | rfl <;> rfl
theorem Nd.left {x : Nd} (h : x.ok) (j : Nat) (u : Value) (hu : (numsA .u8 x.l)[j]? = some u) : x.enc.toArray[0 + j]? = some u := by
  have hj : j < x.l.length := by have := (Array.getElem?_eq_some_iff.1 hu).1; simpa [numsA, nums] using this
  rw [Nat.zero_add, List.getElem?_toArray, Nd.enc, List.append_assoc, List.getElem?_append_left (by rw [nums_length]; exact hj)]
  simpa [numsA] using hu
theorem Nd.right {x : Nd} (h : x.ok) (j : Nat) (u : Value) (hu : (numsA .u8 x.r)[j]? = some u) : x.enc.toArray[32 + j]? = some u := by
  have hj : j < x.r.length := by have := (Array.getElem?_eq_some_iff.1 hu).1; simpa [numsA, nums] using this
  have hl := h.1.1
  rw [List.getElem?_toArray, Nd.enc, List.append_assoc, List.getElem?_append_right (by rw [nums_length]; omega), nums_length, hl, show 32 + j - 32 = j by omega, List.getElem?_append_left (by rw [nums_length]; exact hj)]
  simpa [numsA] using hu
theorem Nd.ent {x : Nd} (h : x.ok) (j : Nat) (u : Value) (hu : (#[Value.string x.n, Value.string x.v] : Array Value)[j]? = some u) : x.enc.toArray[64 + j]? = some u := by
  have hl := h.1.1
  have hr := h.2.1.1
  rw [List.getElem?_toArray, Nd.enc, List.getElem?_append_right (by simp [nums_length]; omega)]
  simp only [List.length_append, nums_length, hl, hr]
  rw [show 64 + j - (32 + 32) = j by omega]
  simpa using hu
theorem Nd.at64 {x : Nd} (h : x.ok) : x.enc.toArray[64]? = some (.string x.n) := Nd.ent h 0 _ rfl
theorem Nd.at65 {x : Nd} (h : x.ok) : x.enc.toArray[65]? = some (.string x.v) := Nd.ent h 1 _ rfl
theorem Nd.st {x : Nd} (h : x.ok) : St 66 x.enc.toArray := ⟨by simpa using Nd.enc_length h, by simpa using Nd.enc_one x⟩
theorem stEnt (n v : ByteArray) : St 2 #[Value.string n, Value.string v] := ⟨rfl, fun u hu => by simp at hu; rcases hu with rfl | rfl <;> rfl⟩
theorem aggNodeI : Agg Try.prog 171 66 := Agg.mkS (fs := _) Try.underlying171 (by kernel_rfl)
theorem aggEntryL : Agg Try.prog 157 2 := Agg.mkS (fs := _) Try.underlying157 (by kernel_rfl)
theorem aggEntryI : Agg Try.prog 159 2 := Agg.mkS (fs := _) Try.underlying159 (by kernel_rfl)
end Go.Proofs.Ytnklgkmpcochfaa
/- Lists of keys: copied, counted, held against each other. No condition. -/
namespace Go.Proofs.Ytnklgkmpcochfaa
open Go.RowKit
set_option linter.unusedVariables false
set_option linter.unusedSimpArgs false

theorem make_rowN {P : Program} (t e : TypeId) (sz bytes : Nat) (ht : P.underlying t = some (.slice e)) (hinfo : (P.info? e).map (fun i => (i.zero.isSome, i.size, i.bytes)) = some (true, sz, bytes)) (kl kc : IntKind) (n : Nat) (hbytes : bytes * n ≤ 281474976710656) (h63 : n ≤ 9223372036854775807) :
    ∃ Z : Array Value, Z.size = n * sz ∧ ∀ W : World, (Instr.makeSlice t (.int kl (n : Int)) (.int kc (n : Int))).run P W = .ok (.slice (some ⟨W.heap.size, 0, none⟩) n n) (W.alloc (.cells Z e)) := by
  obtain ⟨i, hi, hzz⟩ := Option.map_eq_some_iff.1 hinfo
  simp only [Prod.mk.injEq] at hzz
  obtain ⟨hz, hs, hb⟩ := hzz
  obtain ⟨z, hz⟩ := Option.isSome_iff_exists.1 hz
  refine ⟨madeCells z.cells (n * sz), size_madeCells _ _, fun W => ?_⟩
  have hb' : (i.bytes : Int) * (n : Int) ≤ 281474976710656 := by
    have h : ((i.bytes * n : Nat) : Int) ≤ 281474976710656 := by rw [hb]; omega
    rwa [Int.natCast_mul] at h
  have hr := run_make (P := P) W t e i z ht hi hz kl kc n n (by omega) (Int.le_refl _) hb' (by omega)
  simp only [Int.toNat_natCast, hs] at hr
  exact hr
theorem toKeyT_any (a : List Int) (ha : tKey.ok a) (w : World) :
    Calls Try.prog 24 #[.agg (tKey.enc a).toArray] w fun e w' => e = .returned (.agg (tKey.enc a).toArray) ∧ Ext w w' := toKey_any a ha w
set_option maxHeartbeats 1000000 in
set_option maxRecDepth 100000 in
theorem toKeyS_u (v : Value) (xs : List (List Int)) (w : World) (S : Nat → Prop) (h : RdL tKey w S v xs) (hln : xs.length ≤ 1048576) :
    Calls Try.prog 99 #[v] w fun e w' => ∃ v', e = .returned v' ∧ Own tKey 53 w' w.heap.size v' xs ∧ Ext w w' := by
  obtain ⟨A, cap, rfl, hcap, hlen, hrd, hok⟩ := h
  have Hrd := Lib.hid hrd
  have Hok := Lib.hid hok
  have HF := Lib.hid (flat_length tKey xs hok)
  clear hrd hok
  obtain ⟨Z, hms, hm⟩ := make_rowN 35 53 32 32 Try.underlying35 (by kernel_rfl) .i64 .i64 xs.length (by omega) (by omega)
  have HMS := Lib.hid hms
  clear hms
  go_enter Try.func99, Try.ntmps99
  go_wp2
  go_loopw [4] (fun i wr => ∃ k : Nat, k ≤ xs.length ∧ i = .int .i64 k ∧ Fill wr w.heap.size 53 ((xs.take k).flatMap (tKey).enc) ((xs.length - k) * 32) ∧ Ext w wr)
    (fun i _ => xs.length - (intOf i).toNat)
  case atStart => exact ⟨0, by omega, rfl, by rw [List.take_zero]; exact Fill.start' (Blk.new w _ _) (by rw [HMS.out, Nat.sub_zero]), ext_alloc _ _⟩
  case round =>
    obtain ⟨k, hk, rfl, hF, hx⟩ := hrel
    have HFl := Lib.hid hF
    have HX := Lib.hid hx
    clear hm hF hx
    by_cases hlt : k < xs.length
    · obtain ⟨g, o, rfl, hs, hc⟩ := Hrd.out.elem Hok.out k hlt
      have hx0 : (tKey).ok xs[k] := Hok.out _ (List.getElem_mem hlt)
      have HX0 := Lib.hid hx0
      have hd : ∀ j u, ((tKey).enc xs[k])[j]? = some u → wr.cell? ⟨g, o + k * 32 + j, none⟩ = some u := fun j u hu => HX.out.cell (hc j u hu)
      have HD := Lib.hid hd
      have HL := Lib.hid (flat_length tKey (xs.take k) (fun x hx => Hok.out x (List.mem_of_mem_take hx)))
      have HTK := Lib.hid (show (xs.take k).length = k by rw [List.length_take]; omega)
      have HSN := Lib.hid (show (xs.take (k + 1)).flatMap (tKey).enc = (xs.take k).flatMap (tKey).enc ++ (tKey).enc xs[k] by rw [List.take_succ_eq_append_getElem hlt, List.flatMap_append, List.flatMap_cons, List.flatMap_nil, List.append_nil])
      have HST := Lib.hid (show St 32 ((tKey).enc xs[k]).toArray from ⟨by rw [List.size_toArray]; exact (tKey).len _ hx0, by simpa using (tKey).one _⟩)
      have HMU := Lib.hid (show (xs.length - k) * 32 = 32 + (xs.length - (k + 1)) * 32 by omega)
      clear hc hd hx0
      have hi : (0 : Int) ≤ (k : Int) := by omega
      go_wp2_with (refine wpl_load ⟨g, o + k * 32, none⟩ ((tKey).enc xs[k]) (by rw [(tKey).len _ HX0.out]; exact aggB32) rfl _ rfl rfl (fun j u hu => by rw [Addr.add_lit]; exact HD.out j u hu) ?_)
      refine (toKeyT_any xs[k] HX0.out _).mono ?_
      rintro e w1 ⟨rfl, hx⟩
      have HF2 := Lib.hid (HFl.out.ext hx)
      have HX2 := Lib.hid (HX.out.trans hx)
      clear hx HX HFl HD
      go_wp2_with (refine wpl_fill (n := 32) (m := (xs.length - (k + 1)) * 32) (by rw [← HMU.out]; exact HF2.out) (by rw [HL.out, HTK.out]; rfl) aggKey HST.out rfl _ _ rfl rfl rfl rfl ?_; intro row hF; have HF3 := Lib.hid hF; clear hF)
      go_roundw
      case rel => exact ⟨k + 1, by omega, by go_num, by rw [HSN.out]; simpa using HF3.out, HX2.out.setRow (Nat.le_refl _) _⟩
      case measure => simp [intOf]; omega
    · obtain rfl : k = xs.length := by omega
      have hb := HFl.out
      rw [List.take_length, Nat.sub_self, Nat.zero_mul] at hb
      have HB := Lib.hid hb.done
      clear hb
      go_wp2
      go_ret
      exact ⟨_, rfl, Own.of_blk tKey HB.out (Nat.le_refl _) hlen Hok.out, HX.out⟩


/-- a load of an element that any world behind w0 answers alike -/
theorem yields_loadR {P : Program} {ops : Array Oper} {op : Oper} {a : Act} {w0 : World} {t : Nat} (g o : Nat) (cs : List Value) (ht : Agg P t cs.length) (hc : ∀ j u, cs[j]? = some u → w0.cell? ⟨g, o + j, none⟩ = some u) (hw : Region.wanted op (yielded ops a.tmps) = true) (x : Operand) (ho : op.op = .load t x) (hx : a.eval x = .pointer (some ⟨g, o, none⟩)) :
    YieldsIf P ops (fun W => Ext w0 W) op (.agg cs.toArray) a := Or.inl ⟨hw, fun W hW => by
  unfold execOp
  simp only [ho, hx, Instr.loadAt, Instr.sureAddr, Sem.run_bind, Sem.run_pure, Result.andThen_ok, run_loadVar_at (P := P) (w := W) ⟨g, o, none⟩ cs ht (fun j u hu => by rw [Addr.add_lit]; exact hW.cell (hc j u hu))]⟩
theorem eqKeyT_any (a : List Int) (ha : tKey.ok a) (w : World) :
    Calls Try.prog 42 #[.agg (tKey.enc a).toArray, .agg (tKey.enc a).toArray] w fun e w' => e = .returned (.bool true) ∧ Ext w w' := by
  refine (eqKey_any a a ha ha w).mono ?_
  rintro e w' ⟨rfl, hx⟩
  exact ⟨by rw [beq_self_eq_true], hx⟩
set_option maxHeartbeats 1000000 in
set_option maxRecDepth 100000 in
theorem eqKeyS_u (v u : Value) (xs : List (List Int)) (w : World) (S S' : Nat → Prop) (h : RdL tKey w S v xs) (h' : RdL tKey w S' u xs) :
    Calls Try.prog 17 #[v, u] w fun e w' => e = .returned (.bool true) ∧ Ext w w' := by
  obtain ⟨A, cap, rfl, hcap, hlen, hrd, hok⟩ := h
  obtain ⟨A', cap', rfl, hcap', hlen', hrd', hok'⟩ := h'
  have Hrd := Lib.hid hrd
  have Hrd' := Lib.hid hrd'
  have Hok := Lib.hid hok
  clear hrd hok hrd' hok'
  have hl1 : ((xs.length : Int) != (xs.length : Int)) = false := by simp
  go_enter Try.func17, Try.ntmps17
  go_wp2
  go_loopw [5] (fun i wr => ∃ k : Nat, k ≤ xs.length ∧ i = .int .i64 k ∧ Ext w wr) (fun i _ => xs.length - (intOf i).toNat)
  case atStart => exact ⟨0, by omega, rfl, Ext.refl _⟩
  case round =>
    obtain ⟨k, hk, rfl, hx⟩ := hrel
    have HX := Lib.hid hx
    clear hx hl1
    by_cases hlt : k < xs.length
    · obtain ⟨g, o, rfl, hs, hc⟩ := Hrd.out.elem Hok.out k hlt
      obtain ⟨g2, o2, rfl, hs2, hc2⟩ := Hrd'.out.elem Hok.out k hlt
      have HX0 := Lib.hid (show (tKey).ok xs[k] from Hok.out _ (List.getElem_mem hlt))
      have HD := Lib.hid (show ∀ j u, ((tKey).enc xs[k])[j]? = some u → wr.cell? ⟨g, o + k * 32 + j, none⟩ = some u from fun j u hu => HX.out.cell (hc j u hu))
      have HD2 := Lib.hid (show ∀ j u, ((tKey).enc xs[k])[j]? = some u → wr.cell? ⟨g2, o2 + k * 32 + j, none⟩ = some u from fun j u hu => HX.out.cell (hc2 j u hu))
      clear hc hc2
      have hi : (0 : Int) ≤ (k : Int) := by omega
      have hi2 : (k : Int) < (xs.length : Int) := by omega
      go_wp2_with fail
      refine wp_region_held_drew (S := fun W => Ext wr W) (by kernel_rfl) (Ext.refl _).drew (fun hHeld => ?_)
      iterate 3
        refine tkD 0 (by simp only [List.size_toArray, List.length_cons, List.length_nil]; rfl) (by simp only [List.getElem?_toArray, List.getElem?_cons_zero, List.getElem?_cons_succ]; rfl) (by kernel_rfl) (by exact fun _ _ _ h => h) (by first | (exact Or.inl ⟨by rfl, by intro w hSw; (try dsimp only at hSw); go_simp; with_reducible rfl⟩) | (exact Or.inr ⟨by rfl, by rfl⟩)) (by assumption) ?_
        try simp only [Act.put, List.setIfInBounds_toArray, List.set_cons_zero, List.set_cons_succ]
      refine tkI 3 (v := (.agg ((tKey).enc xs[k]).toArray)) (by simp only [List.getElem?_toArray, List.getElem?_cons_zero, List.getElem?_cons_succ]; rfl) (by kernel_rfl) (by exact fun _ _ _ h => h) (by refine yields_loadR g (o + k * 32) ((tKey).enc xs[k]) (by rw [(tKey).len _ HX0.out]; exact aggKey) HD.out ?_ _ rfl rfl; rfl) (by assumption) ?_
      try simp only [Act.put, List.setIfInBounds_toArray, List.set_cons_zero, List.set_cons_succ]
      iterate 3
        refine tkD 0 (by simp only [List.size_toArray, List.length_cons, List.length_nil]; rfl) (by simp only [List.getElem?_toArray, List.getElem?_cons_zero, List.getElem?_cons_succ]; rfl) (by kernel_rfl) (by exact fun _ _ _ h => h) (by first | (exact Or.inl ⟨by rfl, by intro w hSw; (try dsimp only at hSw); go_simp; with_reducible rfl⟩) | (exact Or.inr ⟨by rfl, by rfl⟩)) (by assumption) ?_
        try simp only [Act.put, List.setIfInBounds_toArray, List.set_cons_zero, List.set_cons_succ]
      refine tkI 7 (v := (.agg ((tKey).enc xs[k]).toArray)) (by simp only [List.getElem?_toArray, List.getElem?_cons_zero, List.getElem?_cons_succ]; rfl) (by kernel_rfl) (by exact fun _ _ _ h => h) (by refine yields_loadR g2 (o2 + k * 32) ((tKey).enc xs[k]) (by rw [(tKey).len _ HX0.out]; exact aggKey) HD2.out ?_ _ rfl rfl; rfl) (by assumption) ?_
      try simp only [Act.put, List.setIfInBounds_toArray, List.set_cons_zero, List.set_cons_succ]
      refine wpAnyH_ready (rs := [8]) (by kernel_rfl) (by simp) (AllReadyH.cons (o := ?o8) ?h8 (fun K hK => ?s8) AllReadyH.nil)
      case h8 => simp only [List.getElem?_toArray, List.getElem?_cons_zero, List.getElem?_cons_succ]; rfl
      go_simp
      refine (eqKeyT_any xs[k] HX0.out _).mono ?_
      rintro e w1 ⟨rfl, hx⟩
      have hH2 := hHeld.trans hx
      refine hK.out _ _ hH2 (fun _ => ?_)
      clear hHeld hK K
      have hHeld := hH2
      clear hH2 hx
      try simp only [Act.put, List.setIfInBounds_toArray, List.set_cons_zero, List.set_cons_succ]
      refine tkI 9 (by simp only [List.getElem?_toArray, List.getElem?_cons_zero, List.getElem?_cons_succ]; rfl) (by kernel_rfl) (by exact fun _ _ _ h => h) (by first | (exact Or.inl ⟨by rfl, by intro w hSw; (try dsimp only at hSw); go_simp; with_reducible rfl⟩) | (exact Or.inr ⟨by rfl, by rfl⟩)) (by assumption) ?_
      try simp only [Act.put, List.setIfInBounds_toArray, List.set_cons_zero, List.set_cons_succ]
      refine wpAnyH_done (by kernel_rfl) ?_ _
      have HX2 := Lib.hid (HX.out.trans hHeld)
      clear hHeld
      go_wp2
      go_roundw
      case rel => exact ⟨k + 1, by omega, by go_num, HX2.out⟩
      case measure => simp [intOf]; omega
    · go_wp2
      go_ret
      exact ⟨rfl, HX.out⟩

set_option maxHeartbeats 1000000 in
set_option maxRecDepth 100000 in
theorem szKeyS_any (A : Option Addr) (n c : Nat) (l : Int) (hn : (n : Int) ≤ 140737488355328) (h0 : -1 ≤ l) (h1 : l ≤ 1048576) (w : World) :
    Calls Try.prog 97 #[.slice A n c, .int .i64 l] w fun e w' => e = .returned (.int .i64 (if l - n < 0 then -1 else l - n)) ∧ w = w' := by
  go_enter Try.func97, Try.ntmps97
  go_wp2
  all_goals go_ret
  all_goals exact ⟨rfl, rfl⟩

end Go.Proofs.Ytnklgkmpcochfaa
/- Commits: copied, counted, held against each other. No condition. -/
namespace Go.Proofs.Ytnklgkmpcochfaa
open Go.RowKit
set_option linter.unusedVariables false
set_option linter.unusedSimpArgs false

structure Cm where
  root : List Int
  par : List (List Int)
  num : Int
  note : ByteArray
def Cm.cells (x : Cm) (v : Value) : Array Value := (nums .u8 x.root ++ [v, .int .i64 x.num, .string x.note]).toArray
/-- the cells of a commit -/
def RCommit (w : World) (S : Nat → Prop) (cs : Array Value) (x : Cm) : Prop :=
  ∃ v, cs = x.cells v ∧ RdL tKey w S v x.par ∧ K32 x.root ∧ (Lit.int .i64 x.num).wf = true ∧ x.note.size ≤ 140737488351232
section
variable {w w' : World} {S : Nat → Prop} {cs : Array Value} {x : Cm}
theorem RCommit.ext (h : RCommit w S cs x) (e : Ext w w') : RCommit w' S cs x := by
  obtain ⟨v, h1, h2, h3⟩ := h
  exact ⟨v, h1, h2.ext (by decide) e, h3⟩
theorem Cm.st (hr : K32 x.root) (A : Option Addr) (n c : Nat) : St 35 (x.cells (.slice A n c)) := by
  refine ⟨by simp [Cm.cells, nums_length, hr.1], fun u hu => ?_⟩
  rw [Cm.cells, List.toList_toArray] at hu
  rcases List.mem_append.1 hu with hu | hu
  · exact one_nums _ _ u hu
  · simp at hu; rcases hu with rfl | rfl | rfl <;> rfl
theorem RCommit.st (h : RCommit w S cs x) : St 35 cs := by
  obtain ⟨v, rfl, ⟨A, cap, rfl, _⟩, h3, _⟩ := h
  exact Cm.st h3 _ _ _
theorem Cm.at_ (hr : K32 x.root) (v : Value) : (x.cells v)[32]? = some v ∧ (x.cells v)[33]? = some (.int .i64 x.num) ∧ (x.cells v)[34]? = some (.string x.note) := by
  have := hr.1
  refine ⟨?_, ?_, ?_⟩ <;> rw [Cm.cells, List.getElem?_toArray, List.getElem?_append_right (by rw [nums_length]; omega), nums_length, this] <;> rfl
theorem Cm.root_at (v : Value) (j : Nat) (u : Value) (hu : (numsA .u8 x.root)[j]? = some u) : (x.cells v)[0 + j]? = some u := by
  have hj : j < x.root.length := by have := (Array.getElem?_eq_some_iff.1 hu).1; simpa [numsA, nums] using this
  rw [Nat.zero_add, Cm.cells, List.getElem?_toArray, List.getElem?_append_left (by rw [nums_length]; exact hj)]
  simpa [numsA] using hu
end
theorem aggCommitL : Agg Try.prog 118 35 := Agg.mkS (fs := _) Try.underlying118 (by kernel_rfl)
theorem aggCommitI : Agg Try.prog 124 35 := Agg.mkS (fs := _) Try.underlying124 (by kernel_rfl)
theorem Own.setRow_below {α : Type} {T : Ty α} {e : TypeId} {w : World} {base g : Nat} {v : Value} {xs : List α} (h : Own T e w base v xs) (hg : g < base) (row : Array Value) : Own T e (w.setRow g row) base v xs :=
  h.kept (row := some g) ⟨rfl, rfl, rfl, by simp, fun k _ hk => setRow_other _ _ _ _ (fun e => hk (by rw [e]))⟩ (.inr fun e => by have := (h.base_le _ e).1; omega)
attribute [local irreducible] Blk in
set_option maxHeartbeats 1000000 in
set_option maxRecDepth 100000 in
theorem toCommit_o (cs : Array Value) (x : Cm) (w : World) (S : Nat → Prop) (h : RCommit w S cs x) (hln : x.par.length ≤ 1048576) :
    Calls Try.prog 73 #[.agg cs] w fun e w' => ∃ v', e = .returned (.agg (x.cells v')) ∧ Own tKey 53 w' w.heap.size v' x.par ∧ K32 x.root ∧ (Lit.int .i64 x.num).wf = true ∧ x.note.size ≤ 140737488351232 ∧ Ext w w' := by
  obtain ⟨v, rfl, hr, hroot, hnum, hnote⟩ := h
  obtain ⟨A, cap, rfl, hcap, hlen, _⟩ := id hr
  have H := Lib.hid hr
  have HL := Lib.hid (sizeN (k := .u8) hroot.1)
  have HSL := Lib.hid (show St 32 (numsA .u8 x.root) from St.nums hroot.1)
  have Hroot := Lib.hid hroot
  clear hr hroot
  have hat := Cm.at_ Hroot.out (.slice A x.par.length cap)
  have HAT := Lib.hid hat
  clear hat
  go_enter Try.func73, Try.ntmps73
  go_wp2_with (refine wpl_loadP (off := 0) (sub := numsA .u8 x.root) (((Blk.new w _ _).alloc _).alloc _) aggB32 HL.out (Cm.root_at _) rfl _ rfl rfl ?_)
  refine (toKey_any x.root Hroot.out _).mono ?_
  rintro e w1 ⟨rfl, hx⟩
  have B0 := Lib.hid ((((Blk.new w 118 (x.cells (.slice A x.par.length cap))).alloc _).alloc _).ext hx)
  have B1 := Lib.hid (((Blk.new' (g := w.heap.size + 1) (w := w.alloc _) (by simp) 124 _).alloc _).ext hx)
  have F0 := Lib.hid (Fill.start' ((Blk.new' (g := w.heap.size + 2) (w := (w.alloc _).alloc _) (by simp) 124 _).ext hx) (n := 35) rfl)
  have XW := Lib.hid ((((ext_alloc w _).alloc _).alloc _).trans hx)
  clear hx
  have c0 : ∀ row, (w1.setRow (w.heap.size + 2) row).cell? ⟨w.heap.size, 32, none⟩ = some (.slice A x.par.length cap) := fun row => (B0.out.row_far (by omega) _).at_ 32 HAT.out.1
  go_wp2_with (refine wpl_fill (n := 32) (m := 3) F0.out rfl aggKey HSL.out rfl _ _ rfl rfl rfl rfl ?_; intro row hF; have F1 := Lib.hid hF; clear hF)
  refine (toKeyS_u _ x.par _ _ (H.out.ext (by decide) (XW.out.setRow (by omega) _)) hln).mono ?_
  rintro e w2 ⟨v2, rfl, ho, hx⟩
  obtain ⟨A2, n2, c2, rfl⟩ := ho.shape3
  replace B0 := Lib.hid ((B0.out.row_far (by omega) row).ext hx)
  replace B1 := Lib.hid ((B1.out.row_far (by omega) row).ext hx)
  have F2 := Lib.hid (show Fill w2 (w.heap.size + 2) 124 (nums .u8 x.root) 3 by have := F1.out.ext hx; simpa [numsA] using this)
  have hbs : w.heap.size + 3 ≤ (w1.setRow (w.heap.size + 2) row).heap.size := by have := F1.out; obtain ⟨R, _, hb⟩ := this; have := hb.lt; omega
  replace XW := Lib.hid ((XW.out.setRow (by omega) row).trans hx)
  have HO := Lib.hid ho
  clear hx ho F0 F1 c0
  obtain ⟨R, hR, hb⟩ := F2.out
  match R, hR with
  | [r0, r1, r2], _ =>
    have hl : (nums .u8 x.root).length = 32 := by rw [nums_length, Hroot.out.1]
    have HB := Lib.hid hb
    have d0 := B0.out.at_ 33 HAT.out.2.1
    have d1 := B0.out.at_ 34 HAT.out.2.2
    have e0 : w2.cell? ⟨w.heap.size + 2, 32, none⟩ = some r0 := by rw [hb.cell, List.getElem?_toArray, List.getElem?_append_right (by rw [hl]; omega), hl]; rfl
    have e1 : w2.cell? ⟨w.heap.size + 2, 33, none⟩ = some r1 := by rw [hb.cell, List.getElem?_toArray, List.getElem?_append_right (by rw [hl]; omega), hl]; rfl
    have e2 : w2.cell? ⟨w.heap.size + 2, 34, none⟩ = some r2 := by rw [hb.cell, List.getElem?_toArray, List.getElem?_append_right (by rw [hl]; omega), hl]; rfl
    have f0 := hb.free 32
    have f1 := hb.free 33
    have f2 := hb.free 34
    clear hb
    have HST := Lib.hid (Cm.st Hroot.out A2 n2 c2)
    have hsz := HST.out.size
    have HE : Hid (Blk (((w2.setCell ⟨w.heap.size + 2, 32, none⟩ (.slice A2 n2 c2)).setCell ⟨w.heap.size + 2, 33, none⟩ (.int .i64 x.num)).setCell ⟨w.heap.size + 2, 34, none⟩ (.string x.note)) (w.heap.size + 2) 124 (x.cells (.slice A2 n2 c2))) := Lib.hid (by
      have h3 := ((HB.out.set 32 (.slice A2 n2 c2)).set 33 (.int .i64 x.num)).set 34 (.string x.note)
      have e : x.cells (.slice A2 n2 c2) = (((nums .u8 x.root ++ [r0, r1, r2]).toArray.setIfInBounds 32 (.slice A2 n2 c2)).setIfInBounds 33 (.int .i64 x.num)).setIfInBounds 34 (.string x.note) := by
        simp [Cm.cells, List.set_append, hl]
      rw [e]
      exact h3)
    have B1' := Lib.hid (((B1.out.far (p := ⟨w.heap.size + 2, 32, none⟩) (by simp) (.slice A2 n2 c2)).far (p := ⟨w.heap.size + 2, 33, none⟩) (by simp) (.int .i64 x.num)).far (p := ⟨w.heap.size + 2, 34, none⟩) (by simp) (.string x.note))
    go_wp2_with (first
      | (refine wpl_loadB HE.out aggCommitI hsz rfl _ rfl rfl ?_)
      | (refine wpl_storeB B1'.out aggCommitI HST.out rfl rfl _ _ rfl rfl rfl rfl ?_))
    refine bodyPost_ret (results_blkB rfl _ rfl aggCommitI hsz (B1'.out.setRow _)) rfl ?_
    have hsz2 := XW.out.size
    refine ⟨_, rfl, ?_, Hroot.out, hnum, hnote, (((XW.out.set (by simp <;> omega) _).set (by simp <;> omega) _).set (by simp <;> omega) _).setRow (by simp <;> omega) _⟩
    have hb3 : w.heap.size ≤ (w1.setRow (w.heap.size + 2) row).heap.size := by omega
    have q1 : w.heap.size + 2 < (w1.setRow (w.heap.size + 2) row).heap.size := by omega
    have q2 : w.heap.size + 1 < (w1.setRow (w.heap.size + 2) row).heap.size := by omega
    exact ((((HO.out.set_below (p := ⟨w.heap.size + 2, 32, none⟩) q1 (.slice A2 n2 c2)).set_below (p := ⟨w.heap.size + 2, 33, none⟩) q1 (.int .i64 x.num)).set_below (p := ⟨w.heap.size + 2, 34, none⟩) q1 (.string x.note)).setRow_below q2 _).le hb3
theorem toCommit_u (cs : Array Value) (x : Cm) (w : World) (S : Nat → Prop) (h : RCommit w S cs x) (hln : x.par.length ≤ 1048576) :
    Calls Try.prog 73 #[.agg cs] w fun e w' => ∃ cs', e = .returned (.agg cs') ∧ RCommit w' (fun g => w.heap.size ≤ g ∧ g < w'.heap.size) cs' x ∧ Ext w w' := by
  refine (toCommit_o cs x w S h hln).mono ?_
  rintro e w' ⟨v', rfl, ho, h1, h2, h3, hx⟩
  exact ⟨_, rfl, ⟨v', rfl, ho.rd, h1, h2, h3⟩, hx⟩
set_option maxHeartbeats 1000000 in
set_option maxRecDepth 100000 in
theorem szCommit_u (cs : Array Value) (x : Cm) (l : Int) (w : World) (S : Nat → Prop) (h : RCommit w S cs x) (h0 : -1 ≤ l) (h1 : l ≤ 1048576) :
    Calls Try.prog 69 #[.agg cs, .int .i64 l] w fun e w' => e = .returned (.int .i64 (if l - (x.par.length + x.note.size : Nat) < 0 then -1 else l - (x.par.length + x.note.size : Nat))) ∧ Ext w w' := by
  obtain ⟨v, rfl, hr, hroot, hnum, hnote⟩ := h
  obtain ⟨A, cap, rfl, hcap, hlen, _⟩ := id hr
  have hat := Cm.at_ hroot (.slice A x.par.length cap)
  have c0 : (w.alloc (.cells (x.cells (.slice A x.par.length cap)) 118)).cell? ⟨w.heap.size, 32, none⟩ = some (.slice A x.par.length cap) := (Blk.new w _ _).at_ 32 hat.1
  have c1 : (w.alloc (.cells (x.cells (.slice A x.par.length cap)) 118)).cell? ⟨w.heap.size, 34, none⟩ = some (.string x.note) := (Blk.new w _ _).at_ 34 hat.2.2
  clear hat hr
  have hc := fun W => szKeyS_any A x.par.length cap l (by omega) h0 h1 W
  by_cases h2 : l - (x.par.length : Int) < 0
  · rw [if_pos (by omega)]
    simp only [if_pos h2] at hc
    go_enter Try.func69, Try.ntmps69
    go_wp2_with fail
    refine (hc _).mono ?_
    rintro e w' ⟨rfl, rfl⟩
    go_wp2
    go_ret
    exact ⟨rfl, ext_alloc _ _⟩
  · simp only [if_neg h2] at hc
    by_cases h3 : l - (x.par.length : Int) - x.note.size < 0
    · rw [if_pos (by omega)]
      go_enter Try.func69, Try.ntmps69
      go_wp2_with fail
      refine (hc _).mono ?_
      rintro e w' ⟨rfl, rfl⟩
      go_wp2
      go_ret
      exact ⟨rfl, ext_alloc _ _⟩
    · rw [if_neg (by omega)]
      go_enter Try.func69, Try.ntmps69
      go_wp2_with fail
      refine (hc _).mono ?_
      rintro e w' ⟨rfl, rfl⟩
      go_wp2
      go_ret
      exact ⟨ret_int (by omega), ext_alloc _ _⟩

attribute [local irreducible] Blk in
set_option maxHeartbeats 1000000 in
set_option maxRecDepth 100000 in
theorem eqCommit_u (cs cs' : Array Value) (x : Cm) (w : World) (S S' : Nat → Prop) (h : RCommit w S cs x) (h' : RCommit w S' cs' x) :
    Calls Try.prog 76 #[.agg cs, .agg cs'] w fun e w' => e = .returned (.bool true) ∧ Ext w w' := by
  obtain ⟨v, rfl, hr, hroot, hnum, hnote⟩ := h
  obtain ⟨v', rfl, hr', _, _, _⟩ := h'
  obtain ⟨A, cap, rfl, _⟩ := id hr
  obtain ⟨A', cap', rfl, _⟩ := id hr'
  have H := Lib.hid hr
  have H' := Lib.hid hr'
  have HL := Lib.hid (sizeN (k := .u8) hroot.1)
  have Hroot := Lib.hid hroot
  have HAT := Lib.hid (Cm.at_ hroot (.slice A x.par.length cap))
  have HAT' := Lib.hid (Cm.at_ hroot (.slice A' x.par.length cap'))
  have q1 : (x.num != x.num) = false := by simp
  have q2 : (x.note.toList != x.note.toList) = false := by simp
  clear hr hr' hroot
  go_enter Try.func76, Try.ntmps76
  go_wp2_with (first
    | (refine wpl_loadP (off := 0) (sub := numsA .u8 x.root) ((Blk.new w _ _).alloc _) aggKey HL.out (Cm.root_at (.slice A x.par.length cap)) rfl _ rfl rfl ?_)
    | (refine wpl_loadP (off := 0) (sub := numsA .u8 x.root) (Blk.new' (g := w.heap.size + 1) (by simp) _ _) aggKey HL.out (Cm.root_at (.slice A' x.par.length cap')) rfl _ rfl rfl ?_))
  refine (eqKey_any _ _ Hroot.out Hroot.out _).mono ?_
  rintro e w1 ⟨rfl, hx⟩
  rw [beq_self_eq_true]
  have B0 := Lib.hid (((Blk.new w 124 (x.cells (.slice A x.par.length cap))).alloc (.cells (x.cells (.slice A' x.par.length cap')) 124)).ext hx)
  have B1 := Lib.hid ((Blk.new' (g := w.heap.size + 1) (w := w.alloc (.cells (x.cells (.slice A x.par.length cap)) 124)) (by simp) 124 (x.cells (.slice A' x.par.length cap'))).ext hx)
  have XW := Lib.hid (((ext_alloc w _).alloc _).trans hx)
  clear hx
  have c0 := B0.out.at_ 32 HAT.out.1
  have c1 := B1.out.at_ 32 HAT'.out.1
  go_wp2_with fail
  refine (eqKeyS_u _ _ x.par _ S S' (H.out.ext (by decide) XW.out) (H'.out.ext (by decide) XW.out)).mono ?_
  rintro e w2 ⟨rfl, hx⟩
  have d0 := (B0.out.ext hx).at_ 33 HAT.out.2.1
  have d1 := (B1.out.ext hx).at_ 33 HAT'.out.2.1
  have e0 := (B0.out.ext hx).at_ 34 HAT.out.2.2
  have e1 := (B1.out.ext hx).at_ 34 HAT'.out.2.2
  replace XW := Lib.hid (XW.out.trans hx)
  clear hx B0 B1 c0 c1
  go_wp2_with fail
  go_ret
  exact ⟨rfl, XW.out⟩

end Go.Proofs.Ytnklgkmpcochfaa
/- Numbers of bytes, the lowest one first. No condition. -/
namespace Go.Proofs.Ytnklgkmpcochfaa
open Go.RowKit
set_option linter.unusedVariables false
set_option linter.unusedSimpArgs false

/-- the number of bytes, the lowest one first -/
def littleN : List Int → Int
  | [] => 0
  | x :: r => x + 256 * littleN r
theorem littleN_snoc (l : List Int) (x : Int) : littleN (l ++ [x]) = littleN l + x * 256 ^ l.length := by
  induction l with
  | nil => simp [littleN]
  | cons y r ih =>
    simp only [List.cons_append, littleN, ih, List.length_cons, Int.pow_succ]
    rw [Int.mul_add, ← Int.add_assoc, Int.mul_left_comm, Int.mul_comm 256 (256 ^ r.length)]
theorem littleN_bound (l : List Int) (h : B8 l) : 0 ≤ littleN l ∧ littleN l < 256 ^ l.length := by
  induction l with
  | nil => simp [littleN]
  | cons y r ih =>
    have h1 := ih (fun x hx => h x (by simp [hx]))
    have h2 := h y (by simp)
    simp only [littleN, List.length_cons, Int.pow_succ]
    omega
theorem take_snoc (xs : List Int) (k : Nat) (h : k < xs.length) : xs.take (k + 1) = xs.take k ++ [gI xs k] := by
  rw [List.take_succ_eq_append_getElem h, gI_lt h]
theorem B8.take {xs : List Int} (h : B8 xs) (k : Nat) : B8 (xs.take k) := fun x hx => h x (List.mem_of_mem_take hx)
theorem B8.drop {xs : List Int} (h : B8 xs) (k : Nat) : B8 (xs.drop k) := fun x hx => h x (List.mem_of_mem_drop hx)
theorem B8.append {xs ys : List Int} (h : B8 xs) (k : B8 ys) : B8 (xs ++ ys) := fun x hx => (List.mem_append.1 hx).elim (h x) (k x)
theorem wraps_u64 (n : Int) (h₀ : 0 ≤ n) (h₁ : n < 2 ^ 64) : IntKind.u64.wrap n = n := by
  simp [IntKind.wrap, IntKind.bits, IntKind.signed]; omega
theorem wraps_u32 (n : Int) (h₀ : 0 ≤ n) (h₁ : n < 2 ^ 32) : IntKind.u32.wrap n = n := by
  simp [IntKind.wrap, IntKind.bits, IntKind.signed]; omega
theorem or_comm_nat (k : IntKind) (j : Nat) (hj : j ≤ k.bits) (hk : ∀ n : Int, 0 ≤ n → n < 2 ^ j → k.wrap n = n) (x y : Int) (h0 : 0 ≤ x) (h1 : x < 2 ^ j) (h2 : 0 ≤ y) (h3 : y < 2 ^ j) : bits .or k x y = bits .or k y x := by
  obtain ⟨a, rfl⟩ := Int.eq_ofNat_of_zero_le h0
  obtain ⟨b, rfl⟩ := Int.eq_ofNat_of_zero_le h2
  rw [(bits_nat k j hj hk a b (by exact_mod_cast h1) (by exact_mod_cast h3)).2, (bits_nat k j hj hk b a (by exact_mod_cast h3) (by exact_mod_cast h1)).2, Nat.or_comm]
theorem pow256 (k : Nat) : (256 : Int) ^ k = 2 ^ (8 * k) := by rw [Int.pow_mul]; rfl
/-- a byte laid above what is there -/
theorem or_above (a x : Int) (k : Nat) (hk : k ≤ 7) (h0 : 0 ≤ a) (h1 : a < 256 ^ k) (h2 : 0 ≤ x) (h3 : x ≤ 255) : bits .or .u64 a (IntKind.u64.wrap (x * 2 ^ (8 * k))) = a + x * 256 ^ k := by
  rw [← pow256]
  have hp : (256 : Int) ^ k * 256 ≤ 2 ^ 64 := by
    rw [← Int.pow_succ]
    rcases (show k = 0 ∨ k = 1 ∨ k = 2 ∨ k = 3 ∨ k = 4 ∨ k = 5 ∨ k = 6 ∨ k = 7 by omega) with rfl | rfl | rfl | rfl | rfl | rfl | rfl | rfl <;> decide
  have hpos : (0 : Int) < 256 ^ k := Int.pow_pos (by decide)
  have hx : x * 256 ^ k ≤ 255 * 256 ^ k := Int.mul_le_mul_of_nonneg_right h3 (by omega)
  have hx0 : 0 ≤ x * 256 ^ k := Int.mul_nonneg h2 (by omega)
  rw [wraps_u64 (x * 256 ^ k) hx0 (by omega), or_comm_nat .u64 64 (by decide) wraps_u64 a (x * 256 ^ k) h0 (by omega) hx0 (by omega)]
  rw [bits_join .u64 64 (by decide) wraps_u64 (8 * k) (x * 256 ^ k) a hx0 (by rw [← pow256]; exact Int.mul_emod_left _ _) (by omega) h0 (by rw [← pow256]; exact h1) (by omega), Int.add_comm]

theorem little_step (xs : List Int) (h : B8 xs) (k : Nat) (hk : k < xs.length) (h7 : k ≤ 7) :
    bits .or .u64 (littleN (xs.take k)) (IntKind.u64.wrap (gI xs k * 2 ^ (8 * k))) = littleN (xs.take (k + 1)) := by
  have hb := littleN_bound (xs.take k) (h.take k)
  have hl : (xs.take k).length = k := by rw [List.length_take]; omega
  rw [hl] at hb
  have hx := h.get k
  rw [or_above _ _ k h7 hb.1 hb.2 hx.1 hx.2, take_snoc xs k hk, littleN_snoc, hl]

end Go.Proofs.Ytnklgkmpcochfaa
/- Mixing of blocks into a state, in plain words. No condition. -/
namespace Go.Proofs.Ytnklgkmpcochfaa
open Go.RowKit
set_option linter.unusedVariables false
set_option linter.unusedSimpArgs false

/-- words of 32 bits -/
def U32 (xs : List Int) : Prop := ∀ x ∈ xs, 0 ≤ x ∧ x ≤ 4294967295
theorem U32.get {xs : List Int} (h : U32 xs) (i : Nat) : 0 ≤ gI xs i ∧ gI xs i ≤ 4294967295 := by
  unfold gI
  by_cases hi : i < xs.length
  · have := h (xs[i]) (List.getElem_mem hi); simpa [List.getD_eq_getElem?_getD, List.getElem?_eq_getElem hi] using this
  · simp [List.getD_eq_getElem?_getD, List.getElem?_eq_none (by omega : xs.length ≤ i)]
theorem U32.set {xs : List Int} (h : U32 xs) (i : Nat) {x : Int} (hx : 0 ≤ x ∧ x ≤ 4294967295) : U32 (xs.set i x) := by
  intro y hy
  rcases List.mem_or_eq_of_mem_set hy with hy | rfl
  · exact h y hy
  · exact hx
theorem gI_set (xs : List Int) (i j : Nat) (x : Int) (hi : i < xs.length) : gI (xs.set i x) j = if i = j then x else gI xs j := by
  unfold gI
  simp only [List.getD_eq_getElem?_getD, List.getElem?_set, hi, if_true]
  split <;> simp
theorem set_same (xs : List Int) (i : Nat) (h : i < xs.length) : xs.set i (gI xs i) = xs := by
  rw [gI_lt h]; exact List.set_getElem_self h
theorem mod32 (x : Int) : 0 ≤ x % 4294967296 ∧ x % 4294967296 ≤ 4294967295 := by omega
theorem bits32 (op : BinOp) (x y : Int) : 0 ≤ bits op .u32 x y ∧ bits op .u32 x y ≤ 4294967295 := by
  have h : ∀ z, 0 ≤ IntKind.u32.wrap z ∧ IntKind.u32.wrap z ≤ 4294967295 := fun z => by rw [IntKind.wrap_u32]; omega
  unfold bits
  exact h _
@[irreducible] def turn7 (x : Int) : Int := bits .or .u32 (x * 128 % 4294967296) (x / 33554432)
@[irreducible] def turn13 (x : Int) : Int := bits .or .u32 (x * 8192 % 4294967296) (x / 524288)
/-- word i of a block -/
def word (b : List Int) (i : Nat) : Int := littleN ((b.drop (4 * i)).take 4)
@[irreducible] def words (b : List Int) : List Int := (List.range 8).map (word b)
/-- one step of the mixing -/
@[irreducible] def mixStep (m : List Int) (r i : Nat) (s : List Int) : List Int :=
  s.set i ((bits .xor .u32 (turn7 ((gI s i + gI m ((i + 3 * r) % 8) + 2654435769 * (8 * (r : Int) + (i : Int) + 1)) % 4294967296)) (gI s ((i + 1) % 8)) + turn13 (gI s ((i + 5) % 8))) % 4294967296)
def mixInR (m : List Int) (r : Nat) : Nat → List Int → List Int
  | 0, s => s
  | i + 1, s => mixStep m r i (mixInR m r i s)
@[irreducible] def mixIn (m : List Int) (r i : Nat) (s : List Int) : List Int := mixInR m r i s
def mixOutR (m : List Int) : Nat → List Int → List Int
  | 0, s => s
  | r + 1, s => mixIn m r 8 (mixOutR m r s)
@[irreducible] def mixOut (m : List Int) (r : Nat) (s : List Int) : List Int := mixOutR m r s
def xorInR (st : List Int) : Nat → List Int → List Int
  | 0, s => s
  | i + 1, s => (xorInR st i s).set i (bits .xor .u32 (gI (xorInR st i s) i) (gI st i))
@[irreducible] def xorIn (st : List Int) (i : Nat) (s : List Int) : List Int := xorInR st i s
theorem mixIn_zero (m : List Int) (r : Nat) (s : List Int) : mixIn m r 0 s = s := by unfold mixIn; rfl
theorem mixIn_succ (m : List Int) (r i : Nat) (s : List Int) : mixIn m r (i + 1) s = mixStep m r i (mixIn m r i s) := by unfold mixIn; rfl
theorem mixOut_zero (m s : List Int) : mixOut m 0 s = s := by unfold mixOut; rfl
theorem mixOut_succ (m : List Int) (r : Nat) (s : List Int) : mixOut m (r + 1) s = mixIn m r 8 (mixOut m r s) := by unfold mixOut; rfl
theorem xorIn_zero (st s : List Int) : xorIn st 0 s = s := by unfold xorIn; rfl
theorem xorIn_succ (st : List Int) (i : Nat) (s : List Int) : xorIn st (i + 1) s = (xorIn st i s).set i (bits .xor .u32 (gI (xorIn st i s) i) (gI st i)) := by unfold xorIn; rfl
/-- a block mixed into a state -/
@[irreducible] def mixL (st b : List Int) : List Int := xorIn st 8 (mixOut (words b) 12 st)
theorem words_eq (b : List Int) : words b = (List.range 8).map (word b) := by rw [words]
theorem words_length (b : List Int) : (words b).length = 8 := by simp [words]
theorem mixStep_length (m : List Int) (r i : Nat) (s : List Int) : (mixStep m r i s).length = s.length := by simp [mixStep]
theorem mixIn_length (m : List Int) (r i : Nat) (s : List Int) : (mixIn m r i s).length = s.length := by
  induction i with
  | zero => rw [mixIn_zero]
  | succ i ih => simp [mixIn_succ, mixStep_length, ih]
theorem mixOut_length (m : List Int) (r : Nat) (s : List Int) : (mixOut m r s).length = s.length := by
  induction r with
  | zero => rw [mixOut_zero]
  | succ r ih => rw [mixOut_succ, mixIn_length, ih]
theorem xorIn_length (st : List Int) (i : Nat) (s : List Int) : (xorIn st i s).length = s.length := by
  induction i with
  | zero => rw [xorIn_zero]
  | succ i ih => simp [xorIn_succ, ih]
theorem mixIn_ok (m : List Int) (r i : Nat) (s : List Int) (h : U32 s) : U32 (mixIn m r i s) := by
  induction i with
  | zero => rwa [mixIn_zero]
  | succ i ih => rw [mixIn_succ, mixStep]; exact ih.set _ (mod32 _)
theorem mixOut_ok (m : List Int) (r : Nat) (s : List Int) (h : U32 s) : U32 (mixOut m r s) := by
  induction r with
  | zero => rwa [mixOut_zero]
  | succ r ih => rw [mixOut_succ]; exact mixIn_ok _ _ _ _ ih
theorem xorIn_ok (st : List Int) (i : Nat) (s : List Int) (h : U32 s) : U32 (xorIn st i s) := by
  induction i with
  | zero => rwa [xorIn_zero]
  | succ i ih => rw [xorIn_succ]; exact ih.set _ (bits32 _ _ _)
theorem mixL_length (st b : List Int) (h : st.length = 8) : (mixL st b).length = 8 := by simp [mixL, xorIn_length, mixOut_length, h]
theorem mixL_ok (st b : List Int) (h : U32 st) : U32 (mixL st b) := by rw [mixL]; exact xorIn_ok _ _ _ (mixOut_ok _ _ _ h)
/-- the state of a tag -/
@[irreducible] def startL (tag : Int) : List Int := (List.range 8).map fun (i : Nat) => 16777619 * ((i : Int) + 1) + tag
theorem startL_length (tag : Int) : (startL tag).length = 8 := by simp [startL]
theorem startL_ok (tag : Int) (h : 0 ≤ tag ∧ tag ≤ 255) : U32 (startL tag) := by
  intro x hx
  rw [startL] at hx
  obtain ⟨i, hi, rfl⟩ := List.mem_map.1 hx
  have := List.mem_range.1 hi
  omega
theorem mapRange_set (f : Nat → Int) (n i : Nat) (h : i < n) : ((List.range i).map f ++ List.replicate (n - i) 0).set i (f i) = (List.range (i + 1)).map f ++ List.replicate (n - (i + 1)) 0 := by
  obtain ⟨k, rfl⟩ : ∃ k, n = i + 1 + k := ⟨n - (i + 1), by omega⟩
  rw [show i + 1 + k - i = k + 1 by omega, show i + 1 + k - (i + 1) = k by omega, List.range_succ, List.map_append, List.replicate_succ]
  rw [List.set_append_right _ _ (by simp)]
  simp

end Go.Proofs.Ytnklgkmpcochfaa
/- The key of bytes, in plain words. No condition. -/
namespace Go.Proofs.Ytnklgkmpcochfaa
open Go.RowKit
set_option linter.unusedVariables false
set_option linter.unusedSimpArgs false

theorem fill_step (xs : List Int) (n k : Nat) (hk : k < n) (hl : xs.length = n) : (xs.take k ++ List.replicate (n - k) 0).set k (gI xs k) = xs.take (k + 1) ++ List.replicate (n - (k + 1)) 0 := by
  obtain ⟨m, hm⟩ : ∃ m, n = k + 1 + m := ⟨n - (k + 1), by omega⟩
  have h1 : (xs.take k).length = k := by rw [List.length_take]; omega
  rw [List.set_append_right _ _ (by omega), h1, Nat.sub_self, show n - k = m + 1 by omega, show n - (k + 1) = m by omega, List.replicate_succ, List.set_cons_zero]
  rw [List.take_succ_eq_append_getElem (by omega), ← gI_lt (by omega), List.append_assoc]
  rfl
@[irreducible] def padZ (n : Nat) : Nat := (55 - n % 32) % 32
theorem padZ_eq (n : Nat) : padZ n = (55 - n % 32) % 32 := by unfold padZ; rfl
@[irreducible] def bytesLE (n : Int) (k : Nat) : List Int := (List.range k).map fun i => n / 256 ^ i % 256
theorem bytesLE_zero (n : Int) : bytesLE n 0 = [] := by simp [bytesLE]
theorem bytesLE_succ (n : Int) (k : Nat) : bytesLE n (k + 1) = bytesLE n k ++ [n / 256 ^ k % 256] := by simp [bytesLE, List.range_succ]
theorem bytesLE_length (n : Int) (k : Nat) : (bytesLE n k).length = k := by simp [bytesLE]
/-- what stands behind the bytes -/
@[irreducible] def padL (n : Nat) (len : Int) : List Int := [128] ++ List.replicate (padZ n) 0 ++ bytesLE len 8
theorem padL_eq (n : Nat) (len : Int) : padL n len = [128] ++ List.replicate (padZ n) 0 ++ bytesLE len 8 := by rw [padL]
theorem padL_length (n : Nat) (len : Int) : (padL n len).length = padZ n + 9 := by rw [padL]; simp only [List.length_append, List.length_cons, List.length_nil, List.length_replicate, bytesLE_length]; omega
theorem replicate_ok (z : Nat) : B8 (List.replicate z (0 : Int)) := by
  intro x hx
  obtain rfl := (List.mem_replicate.1 hx).2
  omega
/-- a block -/
@[irreducible] def blockL (all : List Int) (i : Nat) : List Int := (all.drop (32 * i)).take 32
theorem blockL_eq (all : List Int) (i : Nat) : blockL all i = (all.drop (32 * i)).take 32 := by rw [blockL]
theorem blockL_ok (all : List Int) (i : Nat) (h : B8 all) (hi : 32 * i + 32 ≤ all.length) : K32 (blockL all i) := by
  rw [blockL]
  exact ⟨by simp; omega, (h.drop _).take _⟩
def blocksL (all : List Int) (n : Nat) : List (List Int) := (List.range n).map (blockL all)
theorem blocksL_succ (all : List Int) (n : Nat) : blocksL all (n + 1) = blocksL all n ++ [blockL all n] := by simp [blocksL, List.range_succ]
/-- n blocks mixed in -/
def mixNR (all st : List Int) : Nat → List Int
  | 0 => st
  | n + 1 => mixL (mixNR all st n) (blockL all n)
@[irreducible] def mixN (all st : List Int) (n : Nat) : List Int := mixNR all st n
theorem mixN_zero (all st : List Int) : mixN all st 0 = st := by unfold mixN; rfl
theorem mixN_succ (all st : List Int) (n : Nat) : mixN all st (n + 1) = mixL (mixN all st n) (blockL all n) := by unfold mixN; rfl
theorem mixN_length (all st : List Int) (n : Nat) (h : st.length = 8) : (mixN all st n).length = 8 := by
  induction n with
  | zero => rwa [mixN_zero]
  | succ n ih => rw [mixN_succ]; exact mixL_length _ _ ih
theorem mixN_ok (all st : List Int) (n : Nat) (h : U32 st) : U32 (mixN all st n) := by
  induction n with
  | zero => rwa [mixN_zero]
  | succ n ih => rw [mixN_succ]; exact mixL_ok _ _ ih
/-- the key of a state -/
@[irreducible] def keyL (s : List Int) : List Int := (List.range 32).map fun i => gI s (i / 4) / 2 ^ (8 * (i % 4)) % 256
theorem keyL_length (s : List Int) : (keyL s).length = 32 := by simp [keyL]
theorem keyL_at (s : List Int) (k : Nat) (h : k < 32) : gI (keyL s) k = gI s (k / 4) / 2 ^ (8 * (k % 4)) % 256 := by
  rw [gI_lt (by rw [keyL_length]; exact h)]
  simp [keyL]
theorem keyL_ok (s : List Int) : K32 (keyL s) := by
  refine ⟨keyL_length s, fun x hx => ?_⟩
  rw [keyL] at hx
  obtain ⟨i, _, rfl⟩ := List.mem_map.1 hx
  omega
/-- the key behind a state and what is left of the bytes -/
@[irreducible] def endL (st held : List Int) (len : Int) : List Int := keyL (mixN (held ++ padL held.length len) st ((held.length + padZ held.length + 9) / 32))
@[irreducible] def hashL (tag : Int) (data : List Int) : List Int := endL (startL tag) data data.length
theorem endL_ok (st held : List Int) (len : Int) : K32 (endL st held len) := by rw [endL]; exact keyL_ok _
theorem hashL_ok (tag : Int) (data : List Int) : K32 (hashL tag data) := by rw [hashL]; exact endL_ok _ _ _
theorem padded_mod (n : Nat) : (n + padZ n + 9) % 32 = 0 := by rw [padZ_eq]; omega

end Go.Proofs.Ytnklgkmpcochfaa
/- Small functions of the package slices at bytes, and of numbers. No condition. -/
namespace Go.Proofs.Ytnklgkmpcochfaa
open Go.RowKit
set_option linter.unusedVariables false
set_option linter.unusedSimpArgs false

theorem rowByte : Row Try.prog tByte 66 5 1 := Row.mk' Try.underlying66 (.int .u8 0) (by kernel_rfl) rfl (by decide) (by decide)


/-! ### numbers -/
set_option maxHeartbeats 400000 in
theorem l00In_any (n a b : Int) (w : World) : Calls Try.prog 103 #[.int .i64 n, .int .i64 a, .int .i64 b] w fun e w' => e = .returned (.bool (decide (a ≤ n) && decide (n ≤ b))) ∧ w = w' := by
  by_cases h : a ≤ n
  · have h1 : decide (a ≤ n) = true := by simpa using h
    simp only [h1, Bool.true_and]
    go_enter Try.func103, Try.ntmps103
    go_wp2
    go_ret
    exact ⟨rfl, rfl⟩
  · have h1 : decide (a ≤ n) = false := by simpa using h
    simp only [h1, Bool.false_and]
    go_enter Try.func103, Try.ntmps103
    go_wp2
    go_ret
    exact ⟨rfl, rfl⟩
set_option maxHeartbeats 400000 in
theorem within_any (n a b : Int) (w : World) : Calls Try.prog 108 #[.int .i64 n, .int .i64 a, .int .i64 b] w fun e w' => e = .returned (.bool (decide (a ≤ n) && decide (n ≤ b))) ∧ w = w' := by
  by_cases h : a ≤ n
  · have h1 : decide (a ≤ n) = true := by simpa using h
    simp only [h1, Bool.true_and]
    go_enter Try.func108, Try.ntmps108
    go_wp2
    go_ret
    exact ⟨rfl, rfl⟩
  · have h1 : decide (a ≤ n) = false := by simpa using h
    simp only [h1, Bool.false_and]
    go_enter Try.func108, Try.ntmps108
    go_wp2
    go_ret
    exact ⟨rfl, rfl⟩
theorem sizeB_any (A : Option Addr) (n c : Nat) (w : World) : Calls Try.prog 40 #[.slice A n c] w fun e w' => e = .returned (.int .i64 n) ∧ w = w' := by
  go_enter Try.func40, Try.ntmps40
  go_wp2
  go_ret
  exact ⟨rfl, rfl⟩

end Go.Proofs.Ytnklgkmpcochfaa
/- The statements' key of bytes: blocks and what stands behind the bytes. No condition. -/
namespace Go.Proofs.Ytnklgkmpcochfaa
open Go.RowKit
set_option linter.unusedVariables false
set_option linter.unusedSimpArgs false

set_option maxHeartbeats 1000000 in
set_option maxRecDepth 100000 in
theorem l01Block_any (v : Value) (xs : List Int) (w : World) (S : Nat → Prop) (h : RdL tByte w S v xs) (i : Nat) (hi : 32 * i + 32 ≤ xs.length) :
    Calls Try.prog 142 #[v, .int .i64 ((32 * i : Nat) : Int)] w fun e w' => e = .returned (.agg (numsA .u8 (blockL xs i))) ∧ Ext w w' := by
  obtain ⟨A, cap, rfl, hcap, hlen, hrd, hok⟩ := h
  have hrd' : Rd w S 1 A xs.length (nums .u8 xs) := by rw [← flat_bytes]; exact hrd
  obtain ⟨g, o, rfl, hs, hc⟩ := hrd'.2 (by omega)
  have cellx : ∀ j, j < xs.length → w.cell? ⟨g, o + j, none⟩ = some (.int .u8 (gI xs j)) := fun j hj => hc j _ (nums_at _ _ _ hj)
  have CX := Lib.hid cellx
  clear hrd hrd' hok hc cellx
  have HB := Lib.hid (blockL_eq xs i)
  have hbl : (blockL xs i).length = 32 := by rw [HB.out]; simp; omega
  go_enter Try.func142, Try.ntmps142
  go_wp2_with (refine wpl_storeN (k := .u8) (xs := List.replicate 32 0) (Blk.new' (g := w.heap.size + 1) (by simp) _ _) aggB32 (by simp) rfl rfl _ _ rfl rfl rfl rfl ?_)
  go_loopw [6] (fun q wr => ∃ (k : Nat) (z : Array Value), k ≤ 32 ∧ q = .int .i64 k ∧ z.size = 32 ∧ Blk wr w.heap.size 45 z ∧ Blk wr (w.heap.size + 1) 45 (numsA .u8 ((blockL xs i).take k ++ List.replicate (32 - k) 0)) ∧ Ext w wr) (fun q _ => 32 - (intOf q).toNat)
  case atStart => exact ⟨0, _, by omega, rfl, rfl, ((Blk.new w _ _).alloc _).row_far (by omega) _, by rw [List.take_zero, List.nil_append, Nat.sub_zero]; exact (Blk.new' (by simp) _ _).setRow _, ((ext_alloc _ _).alloc _).setRow (by omega) _⟩
  case round =>
    obtain ⟨k, z, hk, rfl, hz, hb1, hb2, hx⟩ := hrel
    have HX := Lib.hid hx
    have HB1 := Lib.hid hb1
    have HB2 := Lib.hid hb2
    clear hx hb1 hb2
    by_cases hlt : k < 32
    · have hc := HB2.out.num k (by simp; omega)
      have hf := HB2.out.free k
      have hd := HX.out.cell (CX.out (32 * i + k) (by omega))
      have e1 : IntKind.i64.wrap (32 * (i : Int) + k) = ((32 * i + k : Nat) : Int) := by rw [IntWalk.i64_in _ (by omega)]; omega
      have e2 : ((32 * i + k : Nat) : Int) < (xs.length : Int) := by omega
      have hnew : ((blockL xs i).take k ++ List.replicate (32 - k) 0).set k (gI xs (32 * i + k)) = (blockL xs i).take (k + 1) ++ List.replicate (32 - (k + 1)) 0 := by
        have h1 : gI (blockL xs i) k = gI xs (32 * i + k) := by
          unfold gI
          rw [HB.out, List.getD_eq_getElem?_getD, List.getD_eq_getElem?_getD, List.getElem?_take, if_pos hlt, List.getElem?_drop]
        rw [← h1]
        exact fill_step _ 32 k hlt hbl
      have HN := Lib.hid hnew
      clear hnew
      go_wp2_with fail
      go_roundw
      case rel =>
        have h2 := HB2.out.set k (.int .u8 (gI xs (32 * i + k)))
        rw [numsA_set, HN.out] at h2
        exact ⟨k + 1, z, by omega, by go_num, hz, HB1.out.far (by simp) _, h2, HX.out.set (by simp) _⟩
      case measure => simp [intOf]; omega
    · obtain rfl : k = 32 := by omega
      have hb := HB2.out
      rw [Nat.sub_self, List.replicate_zero, List.append_nil, List.take_of_length_le (by omega)] at hb
      have HB3 := Lib.hid hb
      clear hb
      go_wp2_with (first
        | (refine wpl_loadN HB3.out aggB32 hbl rfl _ rfl rfl ?_)
        | (refine wpl_storeN HB1.out aggB32 hbl hz rfl _ _ rfl rfl rfl rfl ?_))
      refine bodyPost_ret (results_blk rfl _ rfl aggB32 hbl (HB1.out.setRow _)) rfl ?_
      exact ⟨rfl, HX.out.setRow (Nat.le_refl _) _⟩

end Go.Proofs.Ytnklgkmpcochfaa
/- The statements' key of bytes: what stands behind the bytes. No condition. -/
namespace Go.Proofs.Ytnklgkmpcochfaa
open Go.RowKit
set_option linter.unusedVariables false
set_option linter.unusedSimpArgs false

theorem okOne {x : Int} (h : 0 ≤ x ∧ x ≤ 255) : ∀ y ∈ [x], tByte.ok y := by
  intro y hy
  obtain rfl := List.mem_singleton.1 hy
  exact h
theorem rd_byte (w : World) (x : Int) (h : 0 ≤ x ∧ x ≤ 255) (t : TypeId) : Rd (w.alloc (.cells #[.int .u8 x] t)) (fun _ => True) tByte.sz (some ⟨w.heap.size, 0, none⟩) [x].length ([x].flatMap tByte.enc) := rd_one (T := tByte) w x h t
theorem Own.len {α : Type} {T : Ty α} {e : TypeId} {w : World} {base : Nat} {A : Option Addr} {n c : Nat} {xs : List α} (h : Own T e w base (.slice A n c) xs) : n = xs.length := by
  obtain ⟨A', c', he⟩ := h.shape
  injection he
set_option maxHeartbeats 1000000 in
set_option maxRecDepth 100000 in
theorem l01Padded_any (v : Value) (xs : List Int) (w : World) (S : Nat → Prop) (h : RdL tByte w S v xs) (hl : xs.length ≤ 70368744177664) (len : Int) (h0 : 0 ≤ len) (h1 : len ≤ 9223372036854775807) :
    Calls Try.prog 140 #[v, .int .i64 len] w fun e w' => ∃ v', e = .returned v' ∧ Own tByte 5 w' w.heap.size v' (xs ++ padL xs.length len) ∧ Ext w w' := by
  obtain ⟨A, cap, rfl, hcap, hlen, hrd, hok⟩ := h
  have Hrd := Lib.hid hrd
  have Hok := Lib.hid hok
  clear hrd hok
  go_enter Try.func140, Try.ntmps140
  go_wp2_with (first
    | (at_builtin; refine wpl_append rowByte rfl _ _ rfl (v := .slice (some ⟨w.heap.size, 0, none⟩) 0 0) rfl (Own.empty tByte _ 5 w.heap.size (Nat.le_refl _)) _ _ rfl rfl (Hrd.out.ext (by decide) (ext_alloc _ _)) Hok.out (by simp; omega) (by simp) ?_; intro v1 w1 ho1 hg1 hat1; rw [List.nil_append] at ho1; have HX1 := Lib.hid ((ext_alloc w _).grown hg1 (fun k hk => Nat.le_of_eq (Option.some.inj hk))); have HO1 := Lib.hid ho1; obtain ⟨B1, bn1, bc1, rfl⟩ := ho1.shape3; clear ho1 hg1 hat1)
    | (at_builtin; refine wpl_append rowByte rfl _ _ rfl (v := .slice B1 bn1 bc1) rfl (HO1.out.alloc _) _ _ rfl (A := some ⟨w1.heap.size, 0, none⟩) (ys := [128]) rfl (rd_byte w1 128 (by decide) _) (okOne (by decide)) (by simp; omega) (HX1.out.alloc _).size ?_; intro v2 w2 ho1 hg1 hat1; have HX2 := Lib.hid ((HO1.out.alloc _).ext_app (HX1.out.alloc _) hg1); have HO2 := Lib.hid ho1; clear ho1 hg1 hat1 HX1 HO1))
  go_loopw [5] (fun o wr => ∃ z : Nat, z ≤ padZ xs.length ∧ Own tByte 5 wr w.heap.size o (xs ++ [128] ++ List.replicate z 0) ∧ Ext w wr) (fun o _ => xs.length + 40 - lenV o)
  case atStart => exact ⟨0, by omega, by rw [List.replicate_zero, List.append_nil]; exact HO2.out, HX2.out⟩
  case round =>
    clear HO2 HX2
    obtain ⟨z, hz, ho, hx⟩ := hrel
    have HX := Lib.hid hx
    have HO := Lib.hid ho
    obtain ⟨B, bn, bc, rfl⟩ := ho.shape3
    have hbn := ho.len
    simp only [List.length_append, List.length_cons, List.length_nil, List.length_replicate] at hbn
    clear hx ho
    have hp := padZ_eq xs.length
    have hbl : (bn : Int) ≤ 9223372036854775807 := by omega
    by_cases hlt : z < padZ xs.length
    · have hm : ¬ ((bn : Int) % 32 = 24) := by omega
      have hz31 : z ≤ 31 := by omega
      have HP := Lib.hid hp
      have HN := Lib.hid hbn
      clear hp hbn
      go_wp2_with (at_builtin; refine wpl_append rowByte rfl _ _ rfl (v := .slice B bn bc) rfl (HO.out.alloc _) _ _ rfl (A := some ⟨wr.heap.size, 0, none⟩) (ys := [0]) rfl (rd_byte wr (0) (by decide) _) (okOne (by decide)) (by simp; omega) (HX.out.alloc _).size ?_; intro v9 w9 ho1 hg1 hat1; have HX9 := Lib.hid ((HO.out.alloc _).ext_app (HX.out.alloc _) hg1); have HO9 := Lib.hid ho1; clear ho1 hg1 hat1)
      go_roundw
      case rel => exact ⟨z + 1, by omega, by rw [List.replicate_succ', ← List.append_assoc]; exact HO9.out, HX9.out⟩
      case measure =>
        have h1 := HO9.out.shape
        obtain ⟨_, _, rfl⟩ := h1
        have := HN.out
        have := HP.out
        simp [lenV]
        omega
    · have hm : (bn : Int) % 32 = 24 := by omega
      obtain rfl : z = padZ xs.length := by omega
      have HP := Lib.hid hp
      have HN := Lib.hid hbn
      clear hp hbn
      go_wp2_with fail
      clear hm
      go_loopw [1, 5, 6] (fun l o i wq => ∃ k : Nat, k ≤ 8 ∧ i = .int .i64 k ∧ l = .int .i64 (len / 256 ^ k) ∧ Own tByte 5 wq w.heap.size o (xs ++ [128] ++ List.replicate (padZ xs.length) 0 ++ bytesLE len k) ∧ Ext w wq) (fun _ _ i _ => 8 - (intOf i).toNat)
      case atStart => exact ⟨0, by omega, rfl, by simp, by rw [bytesLE_zero, List.append_nil]; exact HO.out, HX.out⟩
      case round =>
        clear HO HX
        obtain ⟨k, hk, rfl, rfl, ho, hx⟩ := hrel
        have HX := Lib.hid hx
        have HO := Lib.hid ho
        obtain ⟨C, cn, cc, rfl⟩ := ho.shape3
        clear hx ho
        by_cases hk8 : k < 8
        · have hd0 : 0 ≤ len / 256 ^ k := Int.ediv_nonneg h0 (Int.pow_nonneg (by decide))
          have hd1 : len / 256 ^ k ≤ len := Int.ediv_le_self _ h0
          have hs1 : len / 256 ^ (k + 1) = len / 256 ^ k / 256 := by rw [Int.pow_succ, Int.ediv_ediv_of_nonneg (Int.pow_nonneg (by decide))]
          have hs2 := bytesLE_succ len k
          generalize len / 256 ^ k = d at *
          have HS1 := Lib.hid hs1
          have HS2 := Lib.hid hs2
          have hpz : padZ xs.length ≤ 31 := by have := padZ_eq xs.length; omega
          clear hs1 hs2
          go_wp2_with (at_builtin; refine wpl_append rowByte rfl _ _ rfl (v := .slice C cn cc) rfl (HO.out.alloc _) _ _ rfl (A := some ⟨wr.heap.size, 0, none⟩) (ys := [d % 256]) rfl (rd_byte wr (d % 256) (by omega) _) (okOne (by omega)) (by simp [bytesLE_length]; omega) (HX.out.alloc _).size ?_; intro v9 w9 ho1 hg1 hat1; have HX9 := Lib.hid ((HO.out.alloc _).ext_app (HX.out.alloc _) hg1); have HO9 := Lib.hid ho1; clear ho1 hg1 hat1)
          go_roundw
          case rel => exact ⟨k + 1, by omega, by go_num, by rw [HS1.out], by rw [HS2.out, ← List.append_assoc]; exact HO9.out, HX9.out⟩
          case measure => simp [intOf]; omega
        · obtain rfl : k = 8 := by omega
          go_wp2_with fail
          go_ret
          have ho := HO.out
          rw [List.append_assoc xs, List.append_assoc xs, ← padL_eq] at ho
          exact ⟨_, rfl, ho, HX.out⟩

end Go.Proofs.Ytnklgkmpcochfaa
/- The program's number of bytes. No condition. -/
namespace Go.Proofs.Ytnklgkmpcochfaa
open Go.RowKit
set_option linter.unusedVariables false
set_option linter.unusedSimpArgs false

set_option maxHeartbeats 1000000 in
set_option maxRecDepth 100000 in
theorem littleNumber_any (v : Value) (xs : List Int) (w : World) (S : Nat → Prop) (h : RdL tByte w S v xs) (hl : xs.length ≤ 7) :
    Calls Try.prog 155 #[v] w fun e w' => e = .returned (.int .u64 (littleN xs)) ∧ w = w' := by
  obtain ⟨A, cap, rfl, hcap, hlen, hrd, hok⟩ := h
  have Hrd := Lib.hid (show Rd w S 1 A xs.length (nums .u8 xs) by rw [← flat_bytes]; exact hrd)
  have Hok := Lib.hid hok
  clear hrd hok
  go_enter Try.func155, Try.ntmps155
  go_wp2
  go_loop [3, 8] (fun q i => ∃ k : Nat, k ≤ xs.length ∧ i = .int .i64 k ∧ q = .int .u64 (littleN (xs.take k))) (fun _ i => xs.length - (intOf i).toNat)
  case atStart => exact ⟨0, by omega, rfl, by simp [littleN]⟩
  case round =>
    obtain ⟨k, hk, rfl, rfl⟩ := hrel
    by_cases hlt : k < xs.length
    · obtain ⟨g, o, rfl, hs, hc⟩ := (Hrd.out).byte k hlt
      have hb := B8.get Hok.out k
      go_wp2
      go_round
      case rel => exact ⟨k + 1, by omega, by go_num, by rw [little_step xs Hok.out k hlt (by omega)]⟩
      case measure => simp [intOf]; omega
    · go_wp2
      go_ret
      obtain rfl : k = xs.length := by omega
      rw [List.take_length]
      exact ⟨rfl, rfl⟩

end Go.Proofs.Ytnklgkmpcochfaa
/- Mixing of blocks into a state: the words. No condition. -/
namespace Go.Proofs.Ytnklgkmpcochfaa
open Go.RowKit
set_option linter.unusedVariables false
set_option linter.unusedSimpArgs false

set_option maxHeartbeats 1000000 in
set_option maxRecDepth 100000 in
theorem l01Turn_7 (x : Int) (w : World) : Calls Try.prog 154 #[.int .u32 x, .int .u64 7] w fun e w' => e = .returned (.int .u32 (turn7 x)) ∧ w = w' := by
  unfold turn7
  go_enter Try.func154, Try.ntmps154
  go_wp2
  go_ret
  exact ⟨rfl, rfl⟩
set_option maxHeartbeats 1000000 in
set_option maxRecDepth 100000 in
theorem l01Turn_13 (x : Int) (w : World) : Calls Try.prog 154 #[.int .u32 x, .int .u64 13] w fun e w' => e = .returned (.int .u32 (turn13 x)) ∧ w = w' := by
  unfold turn13
  go_enter Try.func154, Try.ntmps154
  go_wp2
  go_ret
  exact ⟨rfl, rfl⟩
set_option maxHeartbeats 1000000 in
set_option maxRecDepth 100000 in
theorem rot_7 (x : Int) (w : World) : Calls Try.prog 156 #[.int .u32 x, .int .i64 7] w fun e w' => e = .returned (.int .u32 (turn7 x)) ∧ w = w' := by
  have hb : bits .and .u64 7 31 = 7 := by decide
  unfold turn7
  go_enter Try.func156, Try.ntmps156
  go_wp2
  go_ret
  exact ⟨rfl, rfl⟩
set_option maxHeartbeats 1000000 in
set_option maxRecDepth 100000 in
theorem rot_13 (x : Int) (w : World) : Calls Try.prog 156 #[.int .u32 x, .int .i64 13] w fun e w' => e = .returned (.int .u32 (turn13 x)) ∧ w = w' := by
  have hb : bits .and .u64 13 31 = 13 := by decide
  unfold turn13
  go_enter Try.func156, Try.ntmps156
  go_wp2
  go_ret
  exact ⟨rfl, rfl⟩
set_option maxHeartbeats 1000000 in
set_option maxRecDepth 100000 in
theorem l01Start_any (tag : Int) (h : 0 ≤ tag ∧ tag ≤ 255) (w : World) : Calls Try.prog 115 #[.int .u8 tag] w fun e w' => e = .returned (.agg (numsA .u32 (startL tag))) ∧ Ext w w' := by
  go_enter Try.func115, Try.ntmps115
  go_wp2
  go_loopw [4] (fun i wr => ∃ (k : Nat) (z : Array Value), k ≤ 8 ∧ i = .int .i64 k ∧ z.size = 8 ∧ Blk wr w.heap.size 177 z ∧ Blk wr (w.heap.size + 1) 177 (numsA .u32 ((List.range k).map (fun (i : Nat) => 16777619 * ((i : Int) + 1) + tag) ++ List.replicate (8 - k) 0)) ∧ Ext w wr) (fun i _ => 8 - (intOf i).toNat)
  case atStart => exact ⟨0, _, by omega, rfl, rfl, (Blk.new _ _ _).alloc _, Blk.new' (by simp) _ _, (ext_alloc _ _).alloc _⟩
  case round =>
    obtain ⟨k, z, hk, rfl, hz, hb1, hb2, hx⟩ := hrel
    have HX := Lib.hid hx
    have HB1 := Lib.hid hb1
    have HB2 := Lib.hid hb2
    clear hx hb1 hb2
    by_cases hlt : k < 8
    · have hc := HB2.out.num k (by simp; omega)
      have hf := HB2.out.free k
      go_wp2
      go_roundw
      case rel =>
        have h2 := HB2.out.set k (.int .u32 (16777619 * ((k : Int) + 1) + tag))
        rw [numsA_set, mapRange_set (fun (i : Nat) => 16777619 * ((i : Int) + 1) + tag) 8 k hlt] at h2
        exact ⟨k + 1, z, by omega, by go_num, hz, HB1.out.far (by simp) _, h2, HX.out.set (by simp) _⟩
      case measure => simp [intOf]; omega
    · obtain rfl : k = 8 := by omega
      have hb := HB2.out
      rw [Nat.sub_self, List.replicate_zero, List.append_nil] at hb
      have hst : (List.range 8).map (fun (i : Nat) => 16777619 * ((i : Int) + 1) + tag) = startL tag := by rw [startL]
      rw [hst] at hb
      have HB := Lib.hid hb
      clear hb hst
      go_wp2_with (first
        | (refine wpl_loadN HB.out aggU32 (startL_length tag) rfl _ rfl rfl ?_)
        | (refine wpl_storeN HB1.out aggU32 (startL_length tag) hz rfl _ _ rfl rfl rfl rfl ?_))
      refine bodyPost_ret (results_blk rfl _ rfl aggU32 (startL_length tag) (HB1.out.setRow _)) rfl ?_
      exact ⟨rfl, HX.out.setRow (Nat.le_refl _) _⟩
set_option maxHeartbeats 1000000 in
set_option maxRecDepth 100000 in
theorem startState_any (tag : Int) (h : 0 ≤ tag ∧ tag ≤ 255) (w : World) : Calls Try.prog 121 #[.int .u8 tag] w fun e w' => e = .returned (.agg (numsA .u32 (startL tag))) ∧ Ext w w' := by
  go_enter Try.func121, Try.ntmps121
  go_wp2
  go_loopw [6] (fun i wr => ∃ (k : Nat) (z : Array Value), k ≤ 8 ∧ i = .int .i64 k ∧ z.size = 8 ∧ Blk wr w.heap.size 177 z ∧ Blk wr (w.heap.size + 1) 177 (numsA .u32 ((List.range k).map (fun (i : Nat) => 16777619 * ((i : Int) + 1) + tag) ++ List.replicate (8 - k) 0)) ∧ Ext w wr) (fun i _ => 8 - (intOf i).toNat)
  case atStart => exact ⟨0, _, by omega, rfl, rfl, (Blk.new _ _ _).alloc _, Blk.new' (by simp) _ _, (ext_alloc _ _).alloc _⟩
  case round =>
    obtain ⟨k, z, hk, rfl, hz, hb1, hb2, hx⟩ := hrel
    have HX := Lib.hid hx
    have HB1 := Lib.hid hb1
    have HB2 := Lib.hid hb2
    clear hx hb1 hb2
    by_cases hlt : k < 8
    · have hc := HB2.out.num k (by simp; omega)
      have hf := HB2.out.free k
      go_wp2
      go_roundw
      case rel =>
        have h2 := HB2.out.set k (.int .u32 (16777619 * ((k : Int) + 1) + tag))
        rw [numsA_set, mapRange_set (fun (i : Nat) => 16777619 * ((i : Int) + 1) + tag) 8 k hlt] at h2
        exact ⟨k + 1, z, by omega, by go_num, hz, HB1.out.far (by simp) _, h2, HX.out.set (by simp) _⟩
      case measure => simp [intOf]; omega
    · obtain rfl : k = 8 := by omega
      have hb := HB2.out
      rw [Nat.sub_self, List.replicate_zero, List.append_nil] at hb
      have hst : (List.range 8).map (fun (i : Nat) => 16777619 * ((i : Int) + 1) + tag) = startL tag := by rw [startL]
      rw [hst] at hb
      have HB := Lib.hid hb
      clear hb hst
      go_wp2_with (first
        | (refine wpl_loadN HB.out aggU32 (startL_length tag) rfl _ rfl rfl ?_)
        | (refine wpl_storeN HB1.out aggU32 (startL_length tag) hz rfl _ _ rfl rfl rfl rfl ?_))
      refine bodyPost_ret (results_blk rfl _ rfl aggU32 (startL_length tag) (HB1.out.setRow _)) rfl ?_
      exact ⟨rfl, HX.out.setRow (Nat.le_refl _) _⟩

end Go.Proofs.Ytnklgkmpcochfaa
/- The program's mixing of a block into a state. No condition. -/
namespace Go.Proofs.Ytnklgkmpcochfaa
open Go.RowKit
set_option linter.unusedVariables false
set_option linter.unusedSimpArgs false

set_option maxHeartbeats 8000000 in
set_option maxRecDepth 100000 in
theorem mixBlock_any (st b : List Int) (hs : st.length = 8) (hu : U32 st) (hk : K32 b) (w : World) : Calls Try.prog 145 #[.agg (numsA .u32 st), .agg (numsA .u8 b)] w fun e w' => e = .returned (.agg (numsA .u32 (mixL st b))) ∧ Ext w w' := by
  have HU := Lib.hid hu
  have HK := Lib.hid hk
  have HS := Lib.hid hs
  clear hu hk hs
  go_enter Try.func145, Try.ntmps145
  go_wp2_with fail
  go_loopw [14] (fun i wr => ∃ (k : Nat) (z : Array Value), k ≤ 8 ∧ i = .int .i64 k ∧ z.size = 8 ∧ Blk wr w.heap.size 177 (numsA .u32 st) ∧ Blk wr (w.heap.size + 1) 45 (numsA .u8 b) ∧ Blk wr (w.heap.size + 2) 177 z ∧ Blk wr (w.heap.size + 3) 177 (numsA .u32 ((List.range k).map (word b) ++ List.replicate (8 - k) 0)) ∧ Ext w wr) (fun i _ => 8 - (intOf i).toNat)
  case atStart => exact ⟨0, _, by omega, rfl, rfl, ((((Blk.new _ _ _).alloc _).alloc _).alloc _), ((Blk.new' (by simp) _ _).alloc _).alloc _, (Blk.new' (by simp) _ _).alloc _, Blk.new' (by simp) _ _, (((ext_alloc _ _).alloc _).alloc _).alloc _⟩
  case round =>
    obtain ⟨k, z, hk, rfl, hz, hb1, hb2, hb3, hb4, hx⟩ := hrel
    have HX := Lib.hid hx
    have HB1 := Lib.hid hb1
    have HB2 := Lib.hid hb2
    have HB3 := Lib.hid hb3
    have HB4 := Lib.hid hb4
    clear hx hb1 hb2 hb3 hb4
    by_cases hlt : k < 8
    · have hl : ((List.range k).map (word b) ++ List.replicate (8 - k) 0).length = 8 := by simp; omega
      have hc := HB4.out.num k (by omega)
      have hf := HB4.out.free k
      have hN := mapRange_set (word b) 8 k hlt
      generalize (List.range k).map (word b) ++ List.replicate (8 - k) 0 = M at *
      have HN := Lib.hid hN
      clear hN
      have hw : 0 ≤ word b k ∧ word b k ≤ 4294967295 := by
        have h1 := littleN_bound ((b.drop (4 * k)).take 4) ((HK.out.2.drop _).take _)
        have h2 : ((b.drop (4 * k)).take 4).length = 4 := by simp [HK.out.1]; omega
        rw [h2] at h1
        unfold word
        omega
      have HLN := Lib.hid (littleNumber_any (.slice (some ⟨w.heap.size + 1, 4 * k, none⟩) 4 (32 - 4 * k)) ((b.drop (4 * k)).take 4) wr (fun _ => True) ⟨some ⟨w.heap.size + 1, 4 * k, none⟩, 32 - 4 * k, by simp [HK.out.1]; omega, by simp [HK.out.1]; omega, by simp; omega, by
        refine ⟨by rw [flat_bytes, nums_length]; exact (Nat.mul_one _).symm, fun _ => ⟨_, _, rfl, trivial, fun j u hu => ?_⟩⟩
        rw [flat_bytes] at hu
        rw [HB2.out.cell]
        have hj : j < 4 := by
          have := (List.getElem?_eq_some_iff.1 hu).1
          rw [nums_length, List.length_take] at this
          omega
        rw [← hu]
        simp [numsA, nums, List.getElem?_take, hj], (HK.out.2.drop _).take _⟩ (by simp; omega))
      have hwd : littleN ((b.drop (4 * k)).take 4) = word b k := by unfold word; rfl
      rw [hwd] at HLN
      clear hwd
      generalize word b k = W at *
      have hw0 := hw.1
      have hw1 := hw.2
      have e0 : IntKind.i64.wrap (4 * (k : Int)) = 4 * k := IntWalk.i64_in _ (by omega)
      have e1 : IntKind.i64.wrap (4 * (k : Int) + 4) = 4 * k + 4 := IntWalk.i64_in _ (by omega)
      have e2 : (4 * (k : Int) + 4).toNat = 4 * k + 4 := by omega
      have e3 : (4 * (k : Int)).toNat = 4 * k := by omega
      have e4 : ¬ 32 = 4 * k := by omega
      have e5 : 4 * k + 4 - 4 * k = 4 := by omega
      have A0 : (0 : Int) ≤ 4 * k := by omega
      have A1 : (4 * (k : Int)) ≤ 4 * k + 4 := by omega
      have A2 : (4 * (k : Int) + 4) ≤ 32 := by omega
      clear hw
      go_wp2_with (go_at_call 155; refine (HLN.out).mono ?_; rintro e w' ⟨rfl, rfl⟩)
      go_roundw
      case rel =>
        have h4 := HB4.out.set k (.int .u32 W)
        rw [numsA_set, HN.out] at h4
        exact ⟨k + 1, z, by omega, by go_num, hz, HB1.out.far (by simp; omega) _, HB2.out.far (by simp) _, HB3.out.far (by simp) _, h4, HX.out.set (by simp; omega) _⟩
      case measure => simp [intOf]; omega
    · obtain rfl : k = 8 := by omega
      go_wp2_with (first
        | (refine wpl_loadN HB1.out aggU32 HS.out rfl _ rfl rfl ?_)
        | (refine wpl_storeN (Blk.new wr _ _) aggU32 HS.out rfl rfl _ _ rfl rfl rfl rfl ?_))
      have h4 := HB4.out
      rw [Nat.sub_self, List.replicate_zero, List.append_nil, ← words_eq] at h4
      have h5 : Blk _ wr.heap.size 177 (numsA .u32 st) := (Blk.new wr 177 #[Value.int IntKind.u32 0, Value.int IntKind.u32 0, Value.int IntKind.u32 0, Value.int IntKind.u32 0, Value.int IntKind.u32 0, Value.int IntKind.u32 0, Value.int IntKind.u32 0, Value.int IntKind.u32 0]).setRow (numsA .u32 st)
      have lt4 := h4.lt
      have n1 : w.heap.size ≠ wr.heap.size := by omega
      have n3 : w.heap.size + 2 ≠ wr.heap.size := by omega
      have n4 : w.heap.size + 3 ≠ wr.heap.size := by omega
      have hgs : w.heap.size + 4 ≤ wr.heap.size := by omega
      have hx0 := (HX.out.alloc (.cells #[Value.int IntKind.u32 0, Value.int IntKind.u32 0, Value.int IntKind.u32 0, Value.int IntKind.u32 0, Value.int IntKind.u32 0, Value.int IntKind.u32 0, Value.int IntKind.u32 0, Value.int IntKind.u32 0] 177)).setRow HX.out.size (numsA .u32 st)
      have hb1 := (HB1.out.alloc (.cells #[Value.int IntKind.u32 0, Value.int IntKind.u32 0, Value.int IntKind.u32 0, Value.int IntKind.u32 0, Value.int IntKind.u32 0, Value.int IntKind.u32 0, Value.int IntKind.u32 0, Value.int IntKind.u32 0] 177)).row_far n1 (numsA .u32 st)
      have hb3 := (HB3.out.alloc (.cells #[Value.int IntKind.u32 0, Value.int IntKind.u32 0, Value.int IntKind.u32 0, Value.int IntKind.u32 0, Value.int IntKind.u32 0, Value.int IntKind.u32 0, Value.int IntKind.u32 0, Value.int IntKind.u32 0] 177)).row_far n3 (numsA .u32 st)
      have hb4 := (h4.alloc (.cells #[Value.int IntKind.u32 0, Value.int IntKind.u32 0, Value.int IntKind.u32 0, Value.int IntKind.u32 0, Value.int IntKind.u32 0, Value.int IntKind.u32 0, Value.int IntKind.u32 0, Value.int IntKind.u32 0] 177)).row_far n4 (numsA .u32 st)
      clear h4 lt4 HB1 HB2 HB3 HB4 HX n1 n3 n4
      generalize wr.heap.size = gs at *
      have HW := Lib.hid (words_eq b)
      go_loopw [29] (fun i wq => ∃ r : Nat, r ≤ 12 ∧ i = .int .i64 r ∧ Blk wq w.heap.size 177 (numsA .u32 st) ∧ Blk wq (w.heap.size + 2) 177 z ∧ Blk wq (w.heap.size + 3) 177 (numsA .u32 (words b)) ∧ Blk wq gs 177 (numsA .u32 (mixOut (words b) r st)) ∧ Ext w wq) (fun i _ => 12 - (intOf i).toNat)
      case atStart => exact ⟨0, by omega, rfl, hb1, hb3, hb4, by rw [mixOut_zero]; exact h5, hx0⟩
      case round =>
        clear hx0 hb1 hb3 hb4 h5
        obtain ⟨r, hr, rfl, hb1, hb3, hb4, hb5, hx⟩ := hrel
        have HX := Lib.hid hx
        have HB1 := Lib.hid hb1
        have HB3 := Lib.hid hb3
        have HB4 := Lib.hid hb4
        have HB5 := Lib.hid hb5
        clear hx hb1 hb3 hb4 hb5
        by_cases hlr : r < 12
        · go_wp2_with fail
          have hd12 : decide ((r : Int) < 12) = true := by simp; omega
          simp only [hd12]
          go_loopw [32] (fun i wq => ∃ k : Nat, k ≤ 8 ∧ i = .int .i64 k ∧ Blk wq w.heap.size 177 (numsA .u32 st) ∧ Blk wq (w.heap.size + 2) 177 z ∧ Blk wq (w.heap.size + 3) 177 (numsA .u32 (words b)) ∧ Blk wq gs 177 (numsA .u32 (mixIn (words b) r k (mixOut (words b) r st))) ∧ Ext w wq) (fun i _ => 8 - (intOf i).toNat)
          case atStart => exact ⟨0, by omega, rfl, HB1.out, HB3.out, HB4.out, by rw [mixIn_zero]; exact HB5.out, HX.out⟩
          case round =>
            clear HX HB1 HB3 HB4 HB5
            obtain ⟨k, hk, rfl, hb1, hb3, hb4, hb5, hx⟩ := hrel
            have HX := Lib.hid hx
            have HB1 := Lib.hid hb1
            have HB3 := Lib.hid hb3
            have HB4 := Lib.hid hb4
            have HB5 := Lib.hid hb5
            clear hx hb1 hb3 hb4 hb5
            by_cases hlk : k < 8
            · have hl := (mixIn_length (words b) r k (mixOut (words b) r st)).trans ((mixOut_length (words b) r st).trans HS.out)
              have hu := mixIn_ok (words b) r k _ (mixOut_ok (words b) r st HU.out)
              have HE := Lib.hid (mixIn_succ (words b) r k (mixOut (words b) r st))
              generalize mixIn (words b) r k (mixOut (words b) r st) = s at *
              have p1 : (k + 3 * r) % 8 < 8 := Nat.mod_lt _ (by decide)
              have p2 : (k + 1) % 8 < 8 := Nat.mod_lt _ (by decide)
              have p3 : (k + 5) % 8 < 8 := Nat.mod_lt _ (by decide)
              have c0 := HB5.out.num k (by omega)
              have c1 := HB4.out.num ((k + 3 * r) % 8) (by rw [words_length]; omega)
              have c2 := HB5.out.num ((k + 1) % 8) (by omega)
              have c3 := HB5.out.num ((k + 5) % 8) (by omega)
              have hf := HB5.out.free k
              have u0 := hu.get k
              have u2 := hu.get ((k + 1) % 8)
              have u3 := hu.get ((k + 5) % 8)
              have q1 : ((k : Int) + 3 * r) % 8 = (((k + 3 * r) % 8 : Nat) : Int) := by omega
              have q2 : ((k : Int) + 1) % 8 = (((k + 1) % 8 : Nat) : Int) := by omega
              have q3 : ((k : Int) + 5) % 8 = (((k + 5) % 8 : Nat) : Int) := by omega
              generalize hj1 : (k + 3 * r) % 8 = j1 at *
              generalize hj2 : (k + 1) % 8 = j2 at *
              generalize hj3 : (k + 5) % 8 = j3 at *
              have J1 := Lib.hid hj1
              have J2 := Lib.hid hj2
              have J3 := Lib.hid hj3
              clear hj1 hj2 hj3 hu
              go_wp2_with fail
              go_quiet (fail)
              replace c0 := (show (wr.drewN nq).cell? _ = _ from c0)
              replace c2 := (show (wr.drewN nq).cell? _ = _ from c2)
              replace c3 := (show (wr.drewN nq).cell? _ = _ from c3)
              replace hf := (show (wr.drewN nq).frozen? _ = _ from hf)
              replace HX := Lib.hid (HX.out.drewN nq)
              replace HB1 := Lib.hid (HB1.out.drewN nq)
              replace HB3 := Lib.hid (HB3.out.drewN nq)
              replace HB4 := Lib.hid (HB4.out.drewN nq)
              replace HB5 := Lib.hid (HB5.out.drewN nq)
              clear c1
              generalize wr.drewN nq = wx at *
              go_wp2_with fail
              go_quiet ((go_at_call 156; exact Calls.quiet_of ((rot_7 _ _).mono fun e w' ⟨he, hw⟩ => ⟨he, 0, hw.symm⟩)))
              go_wp2_with (go_at_call 156; refine (rot_13 _ _).mono ?_; rintro e w' ⟨rfl, rfl⟩)
              go_roundw
              case rel =>
                have h5 := (HB5.out.drewN nq).set k (.int .u32 ((bits .xor .u32 (turn7 ((gI s k + gI (words b) j1 + 2654435769 * (8 * (r : Int) + (k : Int) + 1)) % 4294967296)) (gI s j2) + turn13 (gI s j3)) % 4294967296))
                rw [numsA_set] at h5
                have he := HE.out
                unfold mixStep at he
                rw [J1.out, J2.out, J3.out] at he
                rw [← he] at h5
                exact ⟨k + 1, by omega, by go_num, (HB1.out.drewN _).far (by simp; omega) _, (HB3.out.drewN _).far (by simp; omega) _, (HB4.out.drewN _).far (by simp; omega) _, h5, (HX.out.drewN _).set (by simp; omega) _⟩
              case measure => simp [intOf]; omega
            · obtain rfl : k = 8 := by omega
              go_wp2_with fail
              go_roundw
              case rel => exact ⟨r + 1, by omega, by go_num, HB1.out, HB3.out, HB4.out, by rw [mixOut_succ]; exact HB5.out, HX.out⟩
              case measure => simp [intOf]; omega
        · obtain rfl : r = 12 := by omega
          go_wp2_with fail
          have HL := Lib.hid ((mixOut_length (words b) 12 st).trans HS.out)
          have HE := Lib.hid (show mixL st b = xorIn st 8 (mixOut (words b) 12 st) by rw [mixL])
          generalize mixOut (words b) 12 st = s at *
          go_loopw [74] (fun i wq => ∃ k : Nat, k ≤ 8 ∧ i = .int .i64 k ∧ Blk wq w.heap.size 177 (numsA .u32 st) ∧ Blk wq (w.heap.size + 2) 177 z ∧ Blk wq gs 177 (numsA .u32 (xorIn st k s)) ∧ Ext w wq) (fun i _ => 8 - (intOf i).toNat)
          case atStart => exact ⟨0, by omega, rfl, HB1.out, HB3.out, by rw [xorIn_zero]; exact HB5.out, HX.out⟩
          case round =>
            clear HX HB1 HB3 HB4 HB5
            obtain ⟨k, hk, rfl, hb1, hb3, hb5, hx⟩ := hrel
            have HX := Lib.hid hx
            have HB1 := Lib.hid hb1
            have HB3 := Lib.hid hb3
            have HB5 := Lib.hid hb5
            clear hx hb1 hb3 hb5
            have hl := (xorIn_length st k s).trans HL.out
            by_cases hlk : k < 8
            · have c0 := HB5.out.num k (by omega)
              have c1 := HB1.out.num k (by rw [HS.out]; omega)
              have hf := HB5.out.free k
              have HE2 := Lib.hid (xorIn_succ st k s)
              generalize xorIn st k s = s1 at *
              go_wp2_with fail
              go_region
              go_wp2_with fail
              go_roundw
              case rel =>
                have h5 := HB5.out.set k (.int .u32 (bits .xor .u32 (gI s1 k) (gI st k)))
                rw [numsA_set, ← HE2.out] at h5
                exact ⟨k + 1, by omega, by go_num, (HB1.out.far (by simp; omega) _).drewN 1, (HB3.out.far (by simp; omega) _).drewN 1, h5.drewN 1, (HX.out.set (by simp; omega) _).drew⟩
              case measure => simp [intOf]; omega
            · obtain rfl : k = 8 := by omega
              rw [← HE.out] at HB5 hl
              go_wp2_with (first
                | (refine wpl_loadN HB5.out aggU32 hl rfl _ rfl rfl ?_)
                | (refine wpl_storeN HB3.out aggU32 hl hz rfl _ _ rfl rfl rfl rfl ?_))
              refine bodyPost_ret (results_blk rfl _ rfl aggU32 hl (HB3.out.setRow _)) rfl ?_
              exact ⟨rfl, HX.out.setRow (by omega) _⟩

end Go.Proofs.Ytnklgkmpcochfaa
/- Two slices of bytes put together. No condition. -/
namespace Go.Proofs.Ytnklgkmpcochfaa
open Go.RowKit
set_option linter.unusedVariables false
set_option linter.unusedSimpArgs false

set_option maxHeartbeats 1000000 in
set_option maxRecDepth 100000 in
theorem grow_any (n : Nat) (h0 : 0 < n) (hn : n ≤ 70368744177664) (w : World) : Calls Try.prog 143 #[.slice none 0 0, .int .i64 n] w fun e w' => ∃ v', e = .returned v' ∧ Own tByte 5 w' w.heap.size v' [] ∧ Ext w w' := by
  obtain ⟨i, z, hi, hz, hs, hby, hzs⟩ := rowByte.info
  have hr := Lib.run_append_nil_zeros (P := Try.prog) w 66 3 66 5 i z .i64 .i64 rowByte.ht (by kernel_rfl) hi hz n h0 (by rw [hs]; decide) (by omega) (by rw [hby]; omega)
  have hc1 := grownCap_ge w n 0 5
  have hc2 := grownCap_le_maxLen w n 0 5 (by simp only [maxLen]; omega)
  generalize grownCap w n 0 5 = c at *
  obtain ⟨row, hrow⟩ : ∃ row, row = Builtin.zeroCells z.cells n ++ Builtin.zeroCells z.cells (c - n) := ⟨_, rfl⟩
  have hsz : row.size = c := by rw [hrow, Array.size_append, size_zeroCells, size_zeroCells, hzs]; show n * 1 + (c - n) * 1 = c; omega
  rw [← hrow] at hr
  clear hrow
  have HR := Lib.hid hr
  have HC := Lib.hid hc2
  clear hr hc2 hi hz hs hby hzs
  go_enter Try.func143, Try.ntmps143
  go_wp2_with (at_builtin; refine Lib.wpList_append_run _ rfl _ _ _ _ rfl _ _ rfl rfl _ _ HR.out ?_)
  go_ret
  exact ⟨_, rfl, ⟨⟨by simp, .inr ⟨w.heap.size, c, row, rfl, Nat.le_refl _, heap_alloc_new w _, Nat.zero_le _, HC.out, by show row.size = c * 1; omega, by simp⟩⟩, by simp, by simp⟩, (ext_alloc w _).drew⟩

set_option maxHeartbeats 1000000 in
set_option maxRecDepth 100000 in
theorem concat2_any (g o : Nat) (v u : Value) (xs ys : List Int) (w : World) (S S' : Nat → Prop) (h : RdL tByte w S v xs) (h' : RdL tByte w S' u ys) (h0 : 0 < xs.length + ys.length) (hn : xs.length + ys.length ≤ 70368744177664)
    (c0 : w.cell? ⟨g, o, none⟩ = some v) (c1 : w.cell? ⟨g, o + 1, none⟩ = some u) :
    Calls Try.prog 117 #[.slice (some ⟨g, o, none⟩) 2 2] w fun e w' => ∃ v', e = .returned v' ∧ Own tByte 5 w' w.heap.size v' (xs ++ ys) ∧ Ext w w' := by
  have H := Lib.hid h
  have H' := Lib.hid h'
  obtain ⟨A, cap, rfl, hcap, hlen, _⟩ := h
  obtain ⟨A', cap', rfl, hcap', hlen', _⟩ := h'
  go_enter Try.func117, Try.ntmps117
  go_wp2_with fail
  go_loop [3, 11] (fun s i => (i = .int .i64 0 ∧ s = .int .i64 0) ∨ (i = .int .i64 1 ∧ s = .int .i64 xs.length) ∨ (i = .int .i64 2 ∧ s = .int .i64 (xs.length + ys.length : Nat))) (fun _ i => 2 - (intOf i).toNat)
  case atStart => exact .inl ⟨rfl, rfl⟩
  case round =>
    rcases hrel with ⟨rfl, rfl⟩ | ⟨rfl, rfl⟩ | ⟨rfl, rfl⟩
    · go_wp2_with fail
      go_round
      case rel => exact .inr (.inl ⟨rfl, rfl⟩)
      case measure => simp [intOf]
    · go_wp2_with fail
      go_round
      case rel => exact .inr (.inr ⟨rfl, by go_num⟩)
      case measure => simp [intOf]
    · have G := grow_any (xs.length + ys.length) h0 hn w
      have HG := Lib.hid G
      clear G
      go_wp2_with fail
      refine HG.out.mono ?_
      rintro e w1 ⟨v1, rfl, ho, hx⟩
      have HO := Lib.hid ho
      have HX := Lib.hid hx
      have c0' := hx.cell c0
      have c1' := hx.cell c1
      clear ho hx
      go_wp2_with fail
      go_loopw [6, 27] (fun v i wr => Ext w wr ∧ ((i = .int .i64 0 ∧ Own tByte 5 wr w.heap.size v []) ∨ (i = .int .i64 1 ∧ Own tByte 5 wr w.heap.size v xs) ∨ (i = .int .i64 2 ∧ Own tByte 5 wr w.heap.size v (xs ++ ys)))) (fun _ i _ => 2 - (intOf i).toNat)
      case atStart => exact ⟨HX.out, .inl ⟨rfl, HO.out⟩⟩
      case round =>
        clear HO HX c0' c1'
        obtain ⟨hx, hr⟩ := hrel
        have HX := Lib.hid hx
        have d0 := hx.cell c0
        have d1 := hx.cell c1
        clear hx
        rcases hr with ⟨rfl, ho⟩ | ⟨rfl, ho⟩ | ⟨rfl, ho⟩
        · obtain ⟨B, bn, bc, rfl⟩ := ho.shape3
          have HO := Lib.hid ho
          have hr := H.out.ext (by decide) HX.out
          obtain ⟨A2, cap2, he, _, _, hr1, hok1⟩ := hr
          injection he with e1 e2 e3
          subst e1 e3
          have HR := Lib.hid hr1
          have HK := Lib.hid hok1
          clear ho hr1 hok1
          go_wp2_with (at_builtin; refine wpl_append rowByte rfl _ _ rfl (v := .slice B bn bc) rfl HO.out _ _ rfl (ys := xs) (A := A) (S := S) rfl HR.out HK.out (by simp; omega) HX.out.size ?_; intro v1 w1 ho1 hg1 hat1; have HO1 := Lib.hid ho1; have HX1 := Lib.hid (HO.out.ext_app HX.out hg1); clear ho1 hg1 hat1)
          go_roundw
          case rel => exact ⟨HX1.out, .inr (.inl ⟨rfl, HO1.out⟩)⟩
          case measure => simp [intOf]
        · obtain ⟨B, bn, bc, rfl⟩ := ho.shape3
          have HO := Lib.hid ho
          have hr := H'.out.ext (by decide) HX.out
          obtain ⟨A2, cap2, he, _, _, hr1, hok1⟩ := hr
          injection he with e1 e2 e3
          subst e1 e3
          have HR := Lib.hid hr1
          have HK := Lib.hid hok1
          clear ho hr1 hok1
          go_wp2_with (at_builtin; refine wpl_append rowByte rfl _ _ rfl (v := .slice B bn bc) rfl HO.out _ _ rfl (ys := ys) (A := A') (S := S') rfl HR.out HK.out (by omega) HX.out.size ?_; intro v1 w1 ho1 hg1 hat1; have HO1 := Lib.hid ho1; have HX1 := Lib.hid (HO.out.ext_app HX.out hg1); clear ho1 hg1 hat1)
          go_roundw
          case rel => exact ⟨HX1.out, .inr (.inr ⟨rfl, HO1.out⟩)⟩
          case measure => simp [intOf]
        · have HO := Lib.hid ho
          clear ho
          go_wp2_with fail
          go_ret
          exact ⟨_, rfl, HO.out, HX.out⟩

end Go.Proofs.Ytnklgkmpcochfaa
/- The program's key of bytes: the parts. No condition. -/
namespace Go.Proofs.Ytnklgkmpcochfaa
open Go.RowKit
set_option linter.unusedVariables false
set_option linter.unusedSimpArgs false

set_option maxHeartbeats 1000000 in
set_option maxRecDepth 100000 in
theorem appendLittle_any (v : Value) (ys : List Int) (n : Int) (c : Nat) (w w0 : World) (h : Own tByte 5 w w0.heap.size v ys) (hx : Ext w0 w) (hn : 0 ≤ n ∧ n ≤ 18446744073709551615) (hc : c ≤ 8) (hl : ys.length ≤ 70368744177664) :
    Calls Try.prog 144 #[v, .int .u64 n, .int .i64 c] w fun e w' => ∃ v', e = .returned v' ∧ Own tByte 5 w' w0.heap.size v' (ys ++ bytesLE n c) ∧ Ext w0 w' := by
  obtain ⟨B, bn, bc, rfl⟩ := h.shape3
  have HO := Lib.hid h
  have HX := Lib.hid hx
  clear h hx
  go_enter Try.func144, Try.ntmps144
  go_wp2_with fail
  go_loopw [0, 9] (fun o i wr => ∃ k : Nat, k ≤ c ∧ i = .int .i64 k ∧ Own tByte 5 wr w0.heap.size o (ys ++ bytesLE n k) ∧ Ext w0 wr) (fun _ i _ => c - (intOf i).toNat)
  case atStart => exact ⟨0, by omega, rfl, by rw [bytesLE_zero, List.append_nil]; exact HO.out, HX.out⟩
  case round =>
    clear HO HX
    obtain ⟨k, hk, rfl, ho, hx⟩ := hrel
    have HO := Lib.hid ho
    have HX := Lib.hid hx
    obtain ⟨C, cn, cc, rfl⟩ := ho.shape3
    clear ho hx
    by_cases hlt : k < c
    · have hs2 := bytesLE_succ n k
      rw [pow256] at hs2
      have HS2 := Lib.hid hs2
      clear hs2
      go_wp2_with (at_builtin; refine wpl_append rowByte rfl _ _ rfl (v := .slice C cn cc) rfl (HO.out.alloc _) _ _ rfl (A := some ⟨wr.heap.size, 0, none⟩) (ys := [n / 2 ^ (8 * k) % 256]) rfl (rd_byte wr (n / 2 ^ (8 * k) % 256) (by omega) _) (okOne (by omega)) (by simp [bytesLE_length]; omega) (HX.out.alloc _).size ?_; intro v9 w9 ho1 hg1 hat1; have HX9 := Lib.hid ((HO.out.alloc _).ext_app (HX.out.alloc _) hg1); have HO9 := Lib.hid ho1; clear ho1 hg1 hat1)
      go_roundw
      case rel => exact ⟨k + 1, by omega, by go_num, by rw [HS2.out, ← List.append_assoc]; exact HO9.out, HX9.out⟩
      case measure => simp [intOf]; omega
    · obtain rfl : k = c := by omega
      go_wp2_with fail
      go_ret
      exact ⟨_, rfl, HO.out, HX.out⟩

end Go.Proofs.Ytnklgkmpcochfaa
/- The program's key of bytes: what stands behind the bytes. No condition. -/
namespace Go.Proofs.Ytnklgkmpcochfaa
open Go.RowKit
set_option linter.unusedVariables false
set_option linter.unusedSimpArgs false

/-- a literal's cells, written one by one -/
theorem fold_fill_at (l : List Value) (n : Nat) (Z : Array Value) (h : Z.size = n + l.length) : ((l.zipIdx n).foldl (fun cs x => cs.setIfInBounds x.2 x.1) Z) = (Z.toList.take n ++ l).toArray := by
  induction l generalizing n Z with
  | nil =>
    have : n = Z.toList.length := by simpa using h.symm
    rw [this, List.take_length]
    simp
  | cons a r ih =>
    have hn : n < Z.size := by rw [h]; simp
    simp only [List.zipIdx_cons, List.foldl_cons]
    rw [ih (n + 1) _ (by simp at h ⊢; omega)]
    congr 1
    rw [Array.toList_setIfInBounds, List.take_succ_eq_append_getElem (by simpa using hn), List.getElem_set_self, List.take_set_of_le (Nat.le_refl _), List.append_assoc]
    rfl
theorem fold_fill (l : List Value) (Z : Array Value) (h : Z.size = l.length) : (l.zipIdx.foldl (fun cs x => cs.setIfInBounds x.2 x.1) Z) = l.toArray := by
  rw [fold_fill_at l 0 Z (by omega)]
  simp
set_option maxHeartbeats 1000000 in
set_option maxRecDepth 100000 in
theorem padding_any (n : Nat) (hn : n ≤ 70368744177664) (w : World) :
    Calls Try.prog 118 #[.int .i64 n] w fun e w' => ∃ v', e = .returned v' ∧ Own tByte 5 w' w.heap.size v' (padL n n) ∧ Ext w w' := by
  go_enter Try.func118, Try.ntmps118
  go_wp2_with fail
  go_loopw [3] (fun o wr => ∃ z : Nat, z ≤ padZ n ∧ Own tByte 5 wr w.heap.size o ([128] ++ List.replicate z 0) ∧ Ext w wr) (fun o _ => 40 - lenV o)
  case atStart => exact ⟨0, by omega, by rw [List.replicate_zero, List.append_nil]; exact Own.of_blk8 (Blk.new w _ _) (Nat.le_refl _) (by simp) (fun x hx => by simp at hx; omega), ext_alloc _ _⟩
  case round =>
    obtain ⟨z, hz, ho, hx⟩ := hrel
    have HX := Lib.hid hx
    have HO := Lib.hid ho
    obtain ⟨B, bn, bc, rfl⟩ := ho.shape3
    have hbn := ho.len
    simp only [List.length_append, List.length_cons, List.length_nil, List.length_replicate] at hbn
    clear hx ho
    have hp := padZ_eq n
    have hbl : (bn : Int) ≤ 100 := by omega
    have hz31 : z ≤ 31 := by omega
    by_cases hlt : z < padZ n
    · have hm : ¬ (((n : Int) + bn) % 32 = 24) := by omega
      have HP := Lib.hid hp
      have HN := Lib.hid hbn
      clear hp hbn
      go_wp2_with (first
        | (go_at_call 40; refine (sizeB_any _ _ _ _).mono ?_; rintro e w' ⟨rfl, rfl⟩)
        | (at_builtin; refine wpl_append rowByte rfl _ _ rfl (v := .slice B bn bc) rfl (HO.out.alloc _) _ _ rfl (A := some ⟨wr.heap.size, 0, none⟩) (ys := [0]) rfl (rd_byte wr 0 (by decide) _) (okOne (by decide)) (by simp; omega) (HX.out.alloc _).size ?_; intro v9 w9 ho1 hg1 hat1; have HX9 := Lib.hid ((HO.out.alloc _).ext_app (HX.out.alloc _) hg1); have HO9 := Lib.hid ho1; clear ho1 hg1 hat1))
      go_roundw
      case rel => exact ⟨z + 1, by omega, by rw [List.replicate_succ', ← List.append_assoc]; exact HO9.out, HX9.out⟩
      case measure =>
        have h1 := HO9.out.shape
        obtain ⟨_, _, rfl⟩ := h1
        have := HN.out
        have := HP.out
        simp [lenV]
        omega
    · have hm : ((n : Int) + bn) % 32 = 24 := by omega
      obtain rfl : z = padZ n := by omega
      have HP := Lib.hid hp
      have HN := Lib.hid hbn
      clear hp hbn
      go_wp2_with (first
        | (go_at_call 40; refine (sizeB_any _ _ _ _).mono ?_; rintro e w' ⟨rfl, rfl⟩)
        | (go_at_call 144; refine (appendLittle_any _ _ n 8 _ w HO.out HX.out (by omega) (by omega) (by simp; omega)).mono ?_; rintro e w9 ⟨v9, rfl, ho9, hx9⟩))
      go_ret
      exact ⟨_, rfl, by rw [padL_eq]; exact ho9, hx9⟩

set_option maxHeartbeats 1000000 in
set_option maxRecDepth 100000 in
theorem blocks_any (v : Value) (al : List Int) (m : Nat) (w : World) (S : Nat → Prop) (h : RdL tByte w S v al) (hm : al.length = 32 * m) (hl : al.length ≤ 140737488355) :
    Calls Try.prog 116 #[v] w fun e w' => ∃ v' u, e = .returned (.tuple #[v', u]) ∧ Own tKey 45 w' w.heap.size v' (blocksL al m) ∧ Ext w w' := by
  obtain ⟨A, cap, rfl, hcap, hlen, hrd, hok⟩ := h
  have Hrd := Lib.hid (show Rd w S 1 A al.length (nums .u8 al) by rw [← flat_bytes]; exact hrd)
  have Hok := Lib.hid (show B8 al from hok)
  clear hrd hok
  have rowBlk : Row Try.prog tKey 116 45 32 := Row.mk' (by kernel_rfl) (.agg #[.int .u8 0, .int .u8 0, .int .u8 0, .int .u8 0, .int .u8 0, .int .u8 0, .int .u8 0, .int .u8 0, .int .u8 0, .int .u8 0, .int .u8 0, .int .u8 0, .int .u8 0, .int .u8 0, .int .u8 0, .int .u8 0, .int .u8 0, .int .u8 0, .int .u8 0, .int .u8 0, .int .u8 0, .int .u8 0, .int .u8 0, .int .u8 0, .int .u8 0, .int .u8 0, .int .u8 0, .int .u8 0, .int .u8 0, .int .u8 0, .int .u8 0, .int .u8 0]) (by kernel_rfl) rfl (by decide) (by decide)
  have HR := Lib.hid rowBlk
  clear rowBlk
  go_enter Try.func116, Try.ntmps116
  go_wp2_with fail
  go_loopw [0, 4] (fun d o wr => ∃ (k : Nat) (A1 : Option Addr) (c1 : Nat), k ≤ m ∧ d = .slice A1 (al.drop (32 * k)).length c1 ∧ (al.drop (32 * k)).length ≤ c1 ∧ Rd w S 1 A1 (al.drop (32 * k)).length (nums .u8 (al.drop (32 * k))) ∧ Own tKey 45 wr w.heap.size o (blocksL al k) ∧ Ext w wr) (fun d _ _ => lenV d)
  case atStart => exact ⟨0, A, cap, by omega, rfl, hcap, Hrd.out, Own.empty _ _ _ _ (Nat.le_refl _), ext_alloc _ _⟩
  case round =>
    obtain ⟨k, A1, c1, hk, rfl, hc1, hr, ho, hx⟩ := hrel
    have HX := Lib.hid hx
    have HO := Lib.hid ho
    have HR1 := Lib.hid hr
    obtain ⟨B, bn, bc, rfl⟩ := ho.shape3
    clear hx ho hr
    have hdl : (al.drop (32 * k)).length = 32 * (m - k) := by rw [List.length_drop]; omega
    rw [hdl] at HR1 hc1 ⊢
    by_cases hlt : k < m
    · obtain ⟨n, hn⟩ : ∃ n, n = 32 * (m - k) := ⟨_, rfl⟩
      rw [← hn] at HR1 hc1 ⊢
      have hn32 : 32 ≤ n := by omega
      obtain ⟨g, o, rfl, hs, hcell⟩ := HR1.out.2 (by omega)
      have hK := blockL_ok al k Hok.out (by omega)
      have hbl : (blockL al k).length = 32 := hK.1
      have hck : ∀ j u, (nums .u8 (blockL al k))[j]? = some u → wr.cell? ((⟨g, o, none⟩ : Addr).add j) = some u := by
        intro j u hu
        rw [Addr.add_lit]
        refine HX.out.cell (hcell j u ?_)
        have hj : j < 32 := by
          have := (List.getElem?_eq_some_iff.1 hu).1
          rw [nums_length, hbl] at this
          exact this
        rw [blockL_eq] at hu
        rw [← hu]
        simp [nums, List.getElem?_take, hj]
      have HCK := Lib.hid hck
      have HCut := Lib.hid (HR1.out.cut8 32 c1 hn32 hc1)
      have HBS := Lib.hid (blocksL_succ al k)
      have hle : (blocksL al k).length = k := by simp [blocksL]
      generalize blockL al k = blk at *
      have HN := Lib.hid hn
      have HDL := Lib.hid hdl
      have HK := Lib.hid hK
      have HLE := Lib.hid hle
      clear hn hdl hcell hck hK hle
      have hnl : (nums .u8 blk).length = 32 := by rw [nums_length, hbl]
      have hge : (32 : Int) ≤ (n : Int) := by omega
      have W7 : ¬ n < 32 := by omega
      have harr : (Instr.arrayAt 45 (.slice (some ⟨g, o, none⟩) n c1)).run Try.prog wr = .ok (.pointer (some ⟨g, o, none⟩)) wr := by
        simp [Instr.arrayAt, run_underlying (show Try.prog.underlying 45 = some (.array 32 5) by kernel_rfl), W7]
      go_wp2_with (first
        | (refine wpl_load ⟨g, o, none⟩ (nums .u8 blk) (by rw [nums_length, hbl]; exact aggB32) rfl _ rfl rfl HCK.out ?_)
        | (at_builtin; rw [fold_fill (nums .u8 blk) _ (by rw [hnl]; rfl)]; refine wpl_append HR.out rfl _ _ rfl (v := .slice B bn bc) rfl (HO.out.alloc _) _ _ rfl (A := some ⟨wr.heap.size, 0, none⟩) (ys := [blk]) rfl (rd_one (T := tKey) wr blk HK.out _) (by intro y hy; obtain rfl := List.mem_singleton.1 hy; exact HK.out) (by rw [HLE.out]; simp; omega) (HX.out.alloc _).size ?_; intro v9 w9 ho1 hg1 hat1; have HX9 := Lib.hid ((HO.out.alloc _).ext_app (HX.out.alloc _) hg1); have HO9 := Lib.hid ho1; clear ho1 hg1 hat1))
      go_roundw
      case rel =>
        have hcut := HCut.out
        rw [List.drop_drop, show 32 * k + 32 = 32 * (k + 1) by omega] at hcut
        have hl2 : (al.drop (32 * (k + 1))).length = n - 32 := by rw [List.length_drop]; have := HN.out; omega
        refine ⟨k + 1, _, c1 - 32, by omega, ?_, by omega, hcut, by rw [HBS.out]; exact HO9.out, HX9.out⟩
        rw [hl2]
      case measure => simp [lenV]; omega
    · obtain rfl : k = m := by omega
      rw [Nat.sub_self, Nat.mul_zero] at HR1 hc1 ⊢
      go_wp2_with fail
      go_ret2
      exact ⟨_, _, rfl, HO.out, HX.out⟩

end Go.Proofs.Ytnklgkmpcochfaa
/- The program's key of bytes: the blocks mixed in. No condition. -/
namespace Go.Proofs.Ytnklgkmpcochfaa
open Go.RowKit
set_option linter.unusedVariables false
set_option linter.unusedSimpArgs false

set_option maxHeartbeats 1000000 in
set_option maxRecDepth 100000 in
theorem mixed_any (st : List Int) (hs8 : st.length = 8) (hu : U32 st) (v : Value) (al : List Int) (m : Nat) (w : World) (S : Nat → Prop) (h : RdL tKey w S v (blocksL al m)) :
    Calls Try.prog 120 #[.agg (numsA .u32 st), v] w fun e w' => e = .returned (.agg (numsA .u32 (mixN al st m))) ∧ Ext w w' := by
  obtain ⟨A, cap, rfl, hcap, hlen, hrd, hok⟩ := h
  have HEL := Lib.hid (fun k (hk : k < (blocksL al m).length) => hrd.elem hok k hk)
  have HOK := Lib.hid hok
  have HS8 := Lib.hid hs8
  have HU := Lib.hid hu
  have hbl : (blocksL al m).length = m := by simp [blocksL]
  have HBL := Lib.hid (show ∀ k, (h : k < (blocksL al m).length) → (blocksL al m)[k] = blockL al k from fun k h => by simp [blocksL])
  have HBM := Lib.hid hbl
  rw [hbl] at hcap hlen ⊢
  clear hrd hok hs8 hu
  go_enter Try.func120, Try.ntmps120
  go_wp2_with fail
  go_loopw [9] (fun q wr => ∃ (k : Nat) (z : Array Value), k ≤ m ∧ q = .int .i64 k ∧ z.size = 8 ∧ Blk wr w.heap.size 177 (numsA .u32 (mixN al st k)) ∧ Blk wr (w.heap.size + 1) 177 z ∧ Ext w wr) (fun q _ => m - (intOf q).toNat)
  case atStart => exact ⟨0, _, by omega, rfl, rfl, by rw [mixN_zero]; exact (Blk.new w _ _).alloc _, Blk.new' (by simp) _ _, (ext_alloc _ _).alloc _⟩
  case round =>
    obtain ⟨k, z, hk, rfl, hz, hb0, hb1, hx⟩ := hrel
    have HX := Lib.hid hx
    have HB0 := Lib.hid hb0
    have HB1 := Lib.hid hb1
    clear hx hb0 hb1
    by_cases hlt : k < m
    · obtain ⟨g, o, rfl, hs, hc⟩ := HEL.out k (by rw [HBM.out]; exact hlt)
      have hK := HOK.out _ (List.getElem_mem (l := blocksL al m) (n := k) (by rw [HBM.out]; exact hlt))
      rw [HBL.out] at hc hK
      have hbl : (blockL al k).length = 32 := hK.1
      have hck : ∀ j u, (nums .u8 (blockL al k))[j]? = some u → wr.cell? ((⟨g, o + k * 32, none⟩ : Addr).add j) = some u := by
        intro j u hu
        rw [Addr.add_lit]
        exact HX.out.cell (hc j u hu)
      have HCK := Lib.hid hck
      have HK := Lib.hid (show K32 (blockL al k) from hK)
      have hs := mixN_length al st k HS8.out
      have hu := mixN_ok al st k HU.out
      have HN := Lib.hid (mixN_succ al st k)
      have lt1 := HB1.out.lt
      generalize mixN al st k = s at *
      generalize blockL al k = blk at *
      have hb0 := (HB0.out.alloc (.cells #[Value.int .u8 0, Value.int .u8 0, Value.int .u8 0, Value.int .u8 0, Value.int .u8 0, Value.int .u8 0, Value.int .u8 0, Value.int .u8 0, Value.int .u8 0, Value.int .u8 0, Value.int .u8 0, Value.int .u8 0, Value.int .u8 0, Value.int .u8 0, Value.int .u8 0, Value.int .u8 0, Value.int .u8 0, Value.int .u8 0, Value.int .u8 0, Value.int .u8 0, Value.int .u8 0, Value.int .u8 0, Value.int .u8 0, Value.int .u8 0, Value.int .u8 0, Value.int .u8 0, Value.int .u8 0, Value.int .u8 0, Value.int .u8 0, Value.int .u8 0, Value.int .u8 0, Value.int .u8 0] 45)).row_far (by omega : w.heap.size ≠ wr.heap.size) (numsA .u8 blk)
      have hb1 := (HB1.out.alloc (.cells #[Value.int .u8 0, Value.int .u8 0, Value.int .u8 0, Value.int .u8 0, Value.int .u8 0, Value.int .u8 0, Value.int .u8 0, Value.int .u8 0, Value.int .u8 0, Value.int .u8 0, Value.int .u8 0, Value.int .u8 0, Value.int .u8 0, Value.int .u8 0, Value.int .u8 0, Value.int .u8 0, Value.int .u8 0, Value.int .u8 0, Value.int .u8 0, Value.int .u8 0, Value.int .u8 0, Value.int .u8 0, Value.int .u8 0, Value.int .u8 0, Value.int .u8 0, Value.int .u8 0, Value.int .u8 0, Value.int .u8 0, Value.int .u8 0, Value.int .u8 0, Value.int .u8 0, Value.int .u8 0] 45)).row_far (by omega : w.heap.size + 1 ≠ wr.heap.size) (numsA .u8 blk)
      have hb2 := (Blk.new wr 45 #[Value.int .u8 0, Value.int .u8 0, Value.int .u8 0, Value.int .u8 0, Value.int .u8 0, Value.int .u8 0, Value.int .u8 0, Value.int .u8 0, Value.int .u8 0, Value.int .u8 0, Value.int .u8 0, Value.int .u8 0, Value.int .u8 0, Value.int .u8 0, Value.int .u8 0, Value.int .u8 0, Value.int .u8 0, Value.int .u8 0, Value.int .u8 0, Value.int .u8 0, Value.int .u8 0, Value.int .u8 0, Value.int .u8 0, Value.int .u8 0, Value.int .u8 0, Value.int .u8 0, Value.int .u8 0, Value.int .u8 0, Value.int .u8 0, Value.int .u8 0, Value.int .u8 0, Value.int .u8 0]).setRow (numsA .u8 blk)
      have hx0 := (HX.out.alloc (.cells #[Value.int .u8 0, Value.int .u8 0, Value.int .u8 0, Value.int .u8 0, Value.int .u8 0, Value.int .u8 0, Value.int .u8 0, Value.int .u8 0, Value.int .u8 0, Value.int .u8 0, Value.int .u8 0, Value.int .u8 0, Value.int .u8 0, Value.int .u8 0, Value.int .u8 0, Value.int .u8 0, Value.int .u8 0, Value.int .u8 0, Value.int .u8 0, Value.int .u8 0, Value.int .u8 0, Value.int .u8 0, Value.int .u8 0, Value.int .u8 0, Value.int .u8 0, Value.int .u8 0, Value.int .u8 0, Value.int .u8 0, Value.int .u8 0, Value.int .u8 0, Value.int .u8 0, Value.int .u8 0] 45)).setRow HX.out.size (numsA .u8 blk)
      have G0 := Lib.hid hb0
      have G1 := Lib.hid hb1
      have G2 := Lib.hid hb2
      have GX := Lib.hid hx0
      have HM := Lib.hid (fun W => mixBlock_any s blk hs hu HK.out W)
      have HSS := Lib.hid hs
      clear hc hck hK hb0 hb1 hb2 hx0 hu hs
      go_wp2_with (first
        | (refine wpl_load ⟨g, o + k * 32, none⟩ (nums .u8 blk) (by rw [nums_length, hbl]; exact aggB32) rfl _ rfl rfl HCK.out ?_)
        | (refine wpl_storeN (k := .u8) (xs := blk) (Blk.new wr _ _) aggB32 hbl rfl rfl _ _ rfl rfl rfl rfl ?_)
        | (refine wpl_loadN G0.out aggU32 HSS.out rfl _ rfl rfl ?_)
        | (refine wpl_loadN G2.out aggB32 hbl rfl _ rfl rfl ?_))
      refine (HM.out _).mono ?_
      rintro e w4 ⟨rfl, hx4⟩
      have F0 := Lib.hid (G0.out.ext hx4)
      have F1 := Lib.hid (G1.out.ext hx4)
      have FX := Lib.hid (GX.out.trans hx4)
      have hml := mixL_length s blk HSS.out
      clear hx4
      go_wp2_with (refine wpl_storeN (k := .u32) (xs := mixL s blk) F0.out aggU32 hml (by rw [numsA_size]; exact HSS.out) rfl _ _ rfl rfl rfl rfl ?_)
      go_roundw
      case rel => exact ⟨k + 1, z, by omega, by go_num, hz, by rw [HN.out]; exact F0.out.setRow _, F1.out.row_far (by omega) _, FX.out.setRow (Nat.le_refl _) _⟩
      case measure => simp [intOf]; omega
    · obtain rfl : k = m := by omega
      have hs := mixN_length al st k HS8.out
      go_wp2_with (first
        | (refine wpl_loadN HB0.out aggU32 hs rfl _ rfl rfl ?_)
        | (refine wpl_storeN HB1.out aggU32 hs hz rfl _ _ rfl rfl rfl rfl ?_))
      refine bodyPost_ret (results_blk rfl _ rfl aggU32 hs (HB1.out.setRow _)) rfl ?_
      exact ⟨rfl, HX.out.setRow (by omega) _⟩

end Go.Proofs.Ytnklgkmpcochfaa
/- The program's key of bytes: the key of a state. No condition. -/
namespace Go.Proofs.Ytnklgkmpcochfaa
open Go.RowKit
set_option linter.unusedVariables false
set_option linter.unusedSimpArgs false

theorem stp_copy {P : Program} {dT sT elem : TypeId} {ops : Array Oper} {o : Oper} {a : Act} {w : World} {K : Act → World → Prop} {Q : Exit → Act → World → Prop} {E : Prop} (hgd : o.guard = none) (d x : Operand)
    (hop : o.op = .call { callee := .builtin .copy, args := #[d, x], argTypes := #[dT, sT] }) (g off dLen dCap : Nat) (A : Addr) (n c : Nat) {cur : Array Value} {t : TypeId} (cs : List Value)
    (hd : a.eval d = .slice (some ⟨g, off, none⟩) dLen dCap) (hx : a.eval x = .slice (some A) n c) (hu : P.underlying dT = some (.slice elem)) (hs : (P.info? elem).map (·.size) = some 1)
    (hg : Blk w g t cur) (hn : cs.length = Nat.min n dLen) (hsrc : ∀ j v, cs[j]? = some v → w.cell? (A.add j) = some v) (hfit : off + cs.length ≤ cur.size) (h1 : ∀ v ∈ cs, v.oneCell' = true)
    (h : K (a.put o.dst (goInt cs.length)) (w.setRow g (splice cur off cs))) :
    if Region.wanted o (yielded ops a.tmps) = true then Oper.wp P o a w K Q else E := by
  have hrun := run_copy_row (P := P) w dT sT o.type elem g off dLen dCap A n c cur t cs hu hs hg hn hsrc hfit h1
  have hw : Region.wanted o (yielded ops a.tmps) = true := by simp [Region.wanted, hgd]
  rw [if_pos hw]
  unfold Oper.wp execOp
  simp only [hop, resolve, invoke, builtin, Sem.run_bind, Sem.run_pure, Result.andThen_ok, List.map_toArray, List.map_cons, List.map_nil, hd, hx, hrun]
  exact h
theorem keyL_word (s : List Int) (k : Nat) (h : k < 8) : bytesLE (gI s k) 4 = ((keyL s).drop (4 * k)).take 4 := by
  apply List.ext_getElem
  · rw [bytesLE_length, List.length_take, List.length_drop, keyL_length]; omega
  · intro j h1 h2
    rw [bytesLE_length] at h1
    have e := keyL_at s (4 * k + j) (by omega)
    rw [gI_lt (by rw [keyL_length]; omega), show (4 * k + j) / 4 = k by omega, show (4 * k + j) % 4 = j by omega] at e
    simp only [List.getElem_take, List.getElem_drop, e]
    simp only [bytesLE, List.getElem_map, List.getElem_range, pow256]
theorem keyL_splice (s : List Int) (k : Nat) (h : k < 8) : splice (numsA .u8 ((keyL s).take (4 * k) ++ List.replicate (32 - 4 * k) 0)) (4 * k) (nums .u8 (bytesLE (gI s k) 4)) = numsA .u8 ((keyL s).take (4 * (k + 1)) ++ List.replicate (32 - 4 * (k + 1)) 0) := by
  have hl := keyL_length s
  have h1 : ((keyL s).take (4 * k)).length = 4 * k := by rw [List.length_take]; omega
  have hd : ((keyL s).take (4 * k)).drop (4 * k + 4) = [] := List.drop_eq_nil_of_le (by omega)
  unfold splice numsA
  congr 1
  rw [nums_length, bytesLE_length, keyL_word s k h]
  simp only [nums, ← List.map_take, ← List.map_drop, ← List.map_append]
  congr 1
  rw [List.take_left' h1, List.drop_append, hd, List.nil_append, h1, List.drop_replicate, show 4 * (k + 1) = 4 * k + 4 by omega, List.take_add, show 32 - 4 * k - (4 * k + 4 - 4 * k) = 32 - (4 * k + 4) by omega]
set_option maxHeartbeats 1000000 in
set_option maxRecDepth 100000 in
theorem keyOf_any (s : List Int) (hs8 : s.length = 8) (hu : U32 s) (w : World) :
    Calls Try.prog 119 #[.agg (numsA .u32 s)] w fun e w' => e = .returned (.agg (numsA .u8 (keyL s))) ∧ Ext w w' := by
  have HS8 := Lib.hid hs8
  have HU := Lib.hid hu
  have hkl := keyL_length s
  have HKL := Lib.hid hkl
  clear hkl hu
  go_enter Try.func119, Try.ntmps119
  go_wp2_with (first
    | (refine wpl_storeN (k := .u8) (xs := List.replicate 32 0) (Blk.new' (g := w.heap.size + 2) (by simp) _ _) aggKey (by simp) rfl rfl _ _ rfl rfl rfl rfl ?_)
    | (refine wpl_loadN (Blk.row_far (g := w.heap.size) (((Blk.new w _ _).alloc _).alloc _) (by omega) _) aggU32 hs8 rfl _ rfl rfl ?_))
  have HB1 := Lib.hid ((((Blk.new' (g := w.heap.size + 1) (by simp) 53 #[Value.int .u8 0, Value.int .u8 0, Value.int .u8 0, Value.int .u8 0, Value.int .u8 0, Value.int .u8 0, Value.int .u8 0, Value.int .u8 0, Value.int .u8 0, Value.int .u8 0, Value.int .u8 0, Value.int .u8 0, Value.int .u8 0, Value.int .u8 0, Value.int .u8 0, Value.int .u8 0, Value.int .u8 0, Value.int .u8 0, Value.int .u8 0, Value.int .u8 0, Value.int .u8 0, Value.int .u8 0, Value.int .u8 0, Value.int .u8 0, Value.int .u8 0, Value.int .u8 0, Value.int .u8 0, Value.int .u8 0, Value.int .u8 0, Value.int .u8 0, Value.int .u8 0, Value.int .u8 0] : Blk ((w.alloc (.cells (numsA .u32 s) 177)).alloc _) _ _ _).alloc (.cells #[Value.int .u8 0, Value.int .u8 0, Value.int .u8 0, Value.int .u8 0, Value.int .u8 0, Value.int .u8 0, Value.int .u8 0, Value.int .u8 0, Value.int .u8 0, Value.int .u8 0, Value.int .u8 0, Value.int .u8 0, Value.int .u8 0, Value.int .u8 0, Value.int .u8 0, Value.int .u8 0, Value.int .u8 0, Value.int .u8 0, Value.int .u8 0, Value.int .u8 0, Value.int .u8 0, Value.int .u8 0, Value.int .u8 0, Value.int .u8 0, Value.int .u8 0, Value.int .u8 0, Value.int .u8 0, Value.int .u8 0, Value.int .u8 0, Value.int .u8 0, Value.int .u8 0, Value.int .u8 0] 53))).row_far (by omega : w.heap.size + 1 ≠ w.heap.size + 2) (numsA .u8 (List.replicate 32 0)))
  go_loopw [8] (fun q wr => ∃ (k : Nat) (z : Array Value), k ≤ 8 ∧ q = .int .i64 k ∧ z.size = 32 ∧ Blk wr (w.heap.size + 1) 53 z ∧ Blk wr (w.heap.size + 2) 53 (numsA .u8 ((keyL s).take (4 * k) ++ List.replicate (32 - 4 * k) 0)) ∧ Ext w wr) (fun q _ => 8 - (intOf q).toNat)
  case atStart => exact ⟨0, _, by omega, rfl, rfl, HB1.out, by rw [Nat.mul_zero, List.take_zero, List.nil_append, Nat.sub_zero]; exact (Blk.new' (by simp) _ _).setRow _, (((ext_alloc _ _).alloc _).alloc _).setRow (by omega) _⟩
  case round =>
    clear HB1
    obtain ⟨k, z, hk, rfl, hz, hb1, hb2, hx⟩ := hrel
    have HX := Lib.hid hx
    have HB1 := Lib.hid hb1
    have HB2 := Lib.hid hb2
    clear hx hb1 hb2
    by_cases hlt : k < 8
    · have hat := numsA_at .u32 s k (by rw [hs8]; exact hlt)
      have hu := HU.out.get k
      have hz0 : (0 : Int) ≤ (k : Int) := by omega
      have hk8 : (k : Int) < 8 := by omega
      have hidx : (Instr.index 177 (.agg (numsA .u32 s)) (.int .i64 k)).run Try.prog wr = .ok (.int .u32 (gI s k)) wr := by
        have h1 : (isAgg 176).run Try.prog wr = .ok false wr := by kernel_rfl
        have h2 : (sizeOf 176).run Try.prog wr = .ok 1 wr := by kernel_rfl
        simp [Instr.index, asIntOf, run_underlying (show Try.prog.underlying 177 = some (.array 8 176) by kernel_rfl), hk8, hlt, part, h1, h2, hat]
      have HSP := Lib.hid (keyL_splice s k hlt)
      have hcur : (numsA .u8 ((keyL s).take (4 * k) ++ List.replicate (32 - 4 * k) 0)).size = 32 := by
        rw [numsA_size, List.length_append, List.length_replicate, List.length_take, HKL.out]; omega
      generalize numsA .u8 ((keyL s).take (4 * k) ++ List.replicate (32 - 4 * k) 0) = cur at *
      have hbl := bytesLE_length (gI s k) 4
      have hal : ∀ W, Calls Try.prog 144 #[.slice none 0 0, .int .u64 (gI s k), .int .i64 4] W fun e w' => ∃ v', e = .returned v' ∧ Own tByte 5 w' W.heap.size v' (bytesLE (gI s k) 4) ∧ Ext W w' := by
        intro W
        have := appendLittle_any (.slice none 0 0) [] (gI s k) 4 W W (Own.nil _ _ _ _) (Ext.refl _) (by omega) (by decide) (by simp)
        rw [List.nil_append] at this
        exact this
      generalize bytesLE (gI s k) 4 = bs at *
      have HAL := Lib.hid hal
      have W1 : IntKind.i64.wrap (4 * (k : Int)) = 4 * k := IntWalk.i64_in _ (by omega)
      have W2 : (4 * (k : Int)).toNat = 4 * k := by omega
      have W3 : ¬ 32 = 4 * k := by omega
      have W6 : IntKind.u64.wrap (gI s k) = gI s k := wraps_u64 _ (by omega) (by omega)
      have W4 : (0 : Int) ≤ 4 * k := by omega
      have W5 : 4 * (k : Int) ≤ 32 := by omega
      have HBL := Lib.hid hbl
      clear hal hbl
      have r1 := (Ext.refl wr).drew
      go_wp2_with fail
      go_region_law (first
        | (go_simp; go_at_call 144; refine (HAL.out _).mono ?_; rintro e p1 ⟨v1, rfl, ho1, hx1⟩; obtain ⟨g1, bc1, rfl, hb1, hlt1, hcc1, hf1, hs1⟩ := ho1.byte 0 (by rw [HBL.out]; decide); clear hcc1 hf1 hs1; have HCL := Lib.hid (fun j v (hj : (nums .u8 bs)[j]? = some v) => ho1.1.cells (g := g1) rfl j v (by rw [flat_bytes]; exact hj)); have HX1 := Lib.hid hx1; clear ho1 hx1)
        | (refine stp_copy (dT := 66) (sT := 66) (elem := 5) rfl (.tmp 14) (.tmp 17) rfl (w.heap.size + 1 + 1) (4 * k) (32 - 4 * k) (32 - 4 * k) ⟨g1, 0, none⟩ bs.length bc1 (cur := cur) (t := 53) (nums .u8 bs) rfl rfl rowByte.ht (by kernel_rfl) ((HB2.out.drewN 1).ext HX1.out) (by rw [nums_length, HBL.out]; exact (Nat.min_eq_left (by omega)).symm) HCL.out (by rw [nums_length, HBL.out, hcur]; omega) (one_nums _ _) ?_))
      all_goals
        (try simp only [Act.put, List.setIfInBounds_toArray, List.set_cons_zero, List.set_cons_succ, List.getElem_cons_zero, List.getElem_cons_succ, List.getElem_toArray])
        go_wp2_with fail
        go_roundw
        case rel => exact ⟨k + 1, z, by omega, by go_num, hz, ((HB1.out.drewN 1).ext HX1.out).row_far (by omega) _, by rw [← HSP.out]; exact ((HB2.out.drewN 1).ext HX1.out).setRow _, ((HX.out.drew).trans HX1.out).setRow (by omega) _⟩
        case measure => simp [intOf]; omega
    · obtain rfl : k = 8 := by omega
      have hb := HB2.out
      rw [Nat.sub_self, List.replicate_zero, List.append_nil, List.take_of_length_le (by rw [HKL.out]; decide)] at hb
      have HB3 := Lib.hid hb
      clear hb
      go_wp2_with (first
        | (refine wpl_loadN HB3.out aggKey HKL.out rfl _ rfl rfl ?_)
        | (refine wpl_storeN HB1.out aggKey HKL.out hz rfl _ _ rfl rfl rfl rfl ?_))
      refine bodyPost_ret (results_blk rfl _ rfl aggKey HKL.out (HB1.out.setRow _)) rfl ?_
      exact ⟨rfl, HX.out.setRow (by omega) _⟩

end Go.Proofs.Ytnklgkmpcochfaa
/- The program's key of bytes. No condition. -/
namespace Go.Proofs.Ytnklgkmpcochfaa
open Go.RowKit
set_option linter.unusedVariables false
set_option linter.unusedSimpArgs false

set_option maxHeartbeats 1000000 in
set_option maxRecDepth 100000 in
theorem hash_any (tag : Int) (ht : 0 ≤ tag ∧ tag ≤ 255) (v : Value) (xs : List Int) (w : World) (S : Nat → Prop) (h : RdL tByte w S v xs) (hl : xs.length ≤ 140737488000) :
    Calls Try.prog 92 #[.int .u8 tag, v] w fun e w' => e = .returned (.agg (numsA .u8 (hashL tag xs))) ∧ Ext w w' := by
  have H := Lib.hid h
  obtain ⟨A, cap, rfl, hcap, hlen, hz1, hz2⟩ := h
  clear hz1 hz2
  go_enter Try.func92, Try.ntmps92
  go_wp2_with fail
  refine (sizeB_any _ _ _ _).mono ?_
  rintro e w' ⟨rfl, rfl⟩
  go_wp2_with fail
  refine (padding_any xs.length (by omega) _).mono ?_
  rintro e w1 ⟨v1, rfl, ho1, hx1⟩
  have HO1 := Lib.hid ho1
  have HX1 := Lib.hid hx1
  obtain ⟨B1, bn1, bc1, rfl⟩ := ho1.shape3
  clear ho1 hx1
  go_wp2_with fail
  have hcc := concat2_any w1.heap.size 0 _ _ xs (padL xs.length xs.length) (w1.alloc (.cells #[.slice A xs.length cap, .slice B1 bn1 bc1] 66)) S _ (H.out.ext (by decide) (((ext_alloc w _).trans HX1.out).alloc _)) (HO1.out.alloc _).rd (by rw [padL_length]; omega) (by rw [padL_length, padZ_eq]; omega) (by go_simp) (by go_simp)
  refine hcc.mono ?_
  clear hcc
  rintro e w2 ⟨v2, rfl, ho2, hx2⟩
  have HO2 := Lib.hid ho2
  have HX2 := Lib.hid (((ext_alloc w (.cells _ 53)).trans (HX1.out.alloc _)).trans hx2)
  have HB2 := Lib.hid (((Blk.new w 53 _).ext (HX1.out.alloc _)).ext hx2)
  obtain ⟨B2, bn2, bc2, rfl⟩ := ho2.shape3
  clear ho2 hx2 HX1 HO1
  have hlen2 : (xs ++ padL xs.length xs.length).length = xs.length + padZ xs.length + 9 := by rw [List.length_append, padL_length]; omega
  have hpz : padZ xs.length ≤ 31 := by rw [padZ_eq]; omega
  have hm0 := padded_mod xs.length
  have HE := Lib.hid (show hashL tag xs = keyL (mixN (xs ++ padL xs.length xs.length) (startL tag) ((xs.length + padZ xs.length + 9) / 32)) by rw [hashL, endL])
  obtain ⟨m, hm⟩ : ∃ m, xs.length + padZ xs.length + 9 = 32 * m := ⟨(xs.length + padZ xs.length + 9) / 32, by omega⟩
  rw [show (xs.length + padZ xs.length + 9) / 32 = m by omega] at HE
  have hal : (xs ++ padL xs.length xs.length).length = 32 * m := by omega
  have hal2 : (xs ++ padL xs.length xs.length).length ≤ 140737488355 := by omega
  clear hlen2 hpz hm0 hm
  generalize xs ++ padL xs.length xs.length = al at *
  go_wp2_with fail
  refine (blocks_any _ al m w2 _ HO2.out.rd hal hal2).mono ?_
  rintro e w3 ⟨v3, u3, rfl, ho3, hx3⟩
  have HO3 := Lib.hid ho3
  have HX3 := Lib.hid (HX2.out.trans hx3)
  have HB3 := Lib.hid (HB2.out.ext hx3)
  clear ho3 hx3 HX2 HB2 HO2
  go_wp2_with fail
  refine (startState_any tag ht _).mono ?_
  rintro e w4 ⟨rfl, hx4⟩
  have HX4 := Lib.hid (HX3.out.trans hx4)
  have HB4 := Lib.hid (HB3.out.ext hx4)
  have HO4 := Lib.hid (HO3.out.ext hx4)
  clear hx4 HX3 HB3 HO3
  go_wp2_with fail
  refine (mixed_any (startL tag) (startL_length tag) (startL_ok tag ht) v3 al m w4 _ HO4.out.rd).mono ?_
  rintro e w5 ⟨rfl, hx5⟩
  have HX5 := Lib.hid (HX4.out.trans hx5)
  have HB5 := Lib.hid (HB4.out.ext hx5)
  clear hx5 HX4 HB4 HO4
  go_wp2_with fail
  refine (keyOf_any (mixN al (startL tag) m) (mixN_length _ _ _ (startL_length tag)) (mixN_ok _ _ _ (startL_ok tag ht)) w5).mono ?_
  rintro e w6 ⟨rfl, hx6⟩
  have HX6 := Lib.hid (HX5.out.trans hx6)
  have HB6 := Lib.hid (HB5.out.ext hx6)
  clear hx6 HX5 HB5
  have hk := (hashL_ok tag xs).1
  rw [← HE.out]
  go_wp2_with (refine wpl_storeN HB6.out aggKey hk rfl rfl _ _ rfl rfl rfl rfl ?_)
  refine bodyPost_ret (results_blk rfl _ rfl aggKey hk (HB6.out.setRow _)) rfl ?_
  exact ⟨rfl, HX6.out.setRow (Nat.le_refl _) _⟩

end Go.Proofs.Ytnklgkmpcochfaa
