/- Words on memory for this seat's walks: a world that has only grown, blocks that are known whole, slices that are read, rows of a call's own. No condition. -/
import Derived.Test.YtikpakhccmdmcaaRows
import Derived.WalkKit
import Derived.WalkSpells
import Derived.WalkLawsBesides
import Derived.BigQuiet
import Derived.Lib.Hide
import Derived.Deep.QuietTactic
import Derived.Deep.Draws
import Derived.Deep.AppendLies
import Derived.Maps.AppendAt
namespace Go.Proofs.Ytikpakhccmdmcaa
open Go.RowKit
set_option linter.unusedVariables false
set_option linter.unusedSimpArgs false

/-! ### 1. A world that has only grown -/
abbrev Ext (w w' : World) : Prop := Below w.heap.size w w'
theorem Ext.refl (w : World) : Ext w w := Below.refl _ _
theorem Ext.trans {a b c : World} (h : Ext a b) (k : Ext b c) : Ext a c := Below.trans h (Below.mono k h.size)
theorem Ext.below {B : Nat} {a b c : World} (h : Below B a b) (k : Ext b c) (hB : B ≤ b.heap.size) : Below B a c := Below.trans h (Below.mono k hB)
theorem below_drewN {B : Nat} {a w : World} (h : Below B a w) (n : Nat) : Below B a (w.drewN n) := ⟨h.os, h.tape, h.output, h.size, h.block⟩
theorem ext_alloc (w : World) (o : Obj) : Ext w (w.alloc o) := (Below.refl _ _).alloc (Nat.le_refl _) _
theorem Ext.alloc {a b : World} (h : Ext a b) (o : Obj) : Ext a (b.alloc o) := Below.alloc h h.size o
theorem Ext.drewN {a b : World} (h : Ext a b) (n : Nat) : Ext a (b.drewN n) := below_drewN h n
theorem Ext.drew {a b : World} (h : Ext a b) : Ext a b.drew := Below.drew h
theorem Ext.cell {a b : World} (h : Ext a b) {p : Addr} {v : Value} (hc : a.cell? p = some v) : b.cell? p = some v := (Below.cell h (World.block_lt_of_cell? a p hc)).trans hc
theorem Ext.free {a b : World} (h : Ext a b) {p : Addr} (hp : p.block < a.heap.size) (hc : a.frozen? p = false) : b.frozen? p = false := (Below.frozen h hp).trans hc
theorem Ext.heap {a b : World} (h : Ext a b) {g : Nat} {o : Obj} (hc : a.heap[g]? = some o) : b.heap[g]? = some o := (h.block g (Array.getElem?_eq_some_iff.1 hc).1).trans hc
/-- only orders have been drawn -/
def Drawn (w w' : World) : Prop := ∃ n, w' = w.drewN n
theorem Drawn.refl (w : World) : Drawn w w := ⟨0, rfl⟩
theorem Drawn.drewN {a b : World} (h : Drawn a b) (n : Nat) : Drawn a (b.drewN n) := by
  obtain ⟨m, rfl⟩ := h
  exact ⟨_, World.drewN_drewN ..⟩
theorem Drawn.trans {a b c : World} (h : Drawn a b) (k : Drawn b c) : Drawn a c := by
  obtain ⟨m, rfl⟩ := k
  exact h.drewN m
theorem Drawn.ext {a b : World} (h : Drawn a b) : Ext a b := by
  obtain ⟨m, rfl⟩ := h
  exact (Ext.refl a).drewN m
theorem size_alloc (w : World) (o : Obj) : (w.alloc o).heap.size = w.heap.size + 1 := by simp

/-! ### 2. A block that is known whole -/
def Blk (w : World) (g : Nat) (t : TypeId) (cs : Array Value) : Prop := w.heap[g]? = some (.cells cs t (0, 0))
section
variable {w w' : World} {g : Nat} {t : TypeId} {cs : Array Value}
theorem Blk.lt (h : Blk w g t cs) : g < w.heap.size := (Array.getElem?_eq_some_iff.1 h).1
theorem Blk.cell (h : Blk w g t cs) (i : Nat) : w.cell? ⟨g, i, none⟩ = cs[i]? := cell_of_row w g i cs t (0, 0) h
theorem Blk.at_ (h : Blk w g t cs) (i : Nat) {v : Value} (hv : cs[i]? = some v) : w.cell? ⟨g, i, none⟩ = some v := (h.cell i).trans hv
theorem Blk.free (h : Blk w g t cs) (i : Nat) : w.frozen? ⟨g, i, none⟩ = false := by unfold Blk at h; simp [World.frozen?, h]
theorem Blk.new (w : World) (t : TypeId) (cs : Array Value) : Blk (w.alloc (.cells cs t)) w.heap.size t cs := heap_alloc_new w _
theorem Blk.alloc (h : Blk w g t cs) (o : Obj) : Blk (w.alloc o) g t cs := (Below.heap_alloc w o g h.lt).trans h
theorem Blk.drewN (h : Blk w g t cs) (n : Nat) : Blk (w.drewN n) g t cs := h
theorem Blk.ext (h : Blk w g t cs) (e : Ext w w') : Blk w' g t cs := e.heap h
theorem Blk.set (h : Blk w g t cs) (i : Nat) (u : Value) : Blk (w.setCell ⟨g, i, none⟩ u) g t (cs.setIfInBounds i u) := by
  unfold Blk at h ⊢
  simp [World.setCell, Array.getElem?_modify, h]
theorem Blk.far (h : Blk w g t cs) {p : Addr} (hp : g ≠ p.block) (u : Value) : Blk (w.setCell p u) g t cs := (Below.heap_setCell w p u g hp).trans h
theorem Blk.grown {row : Option Nat} (h : Blk w g t cs) (hb : w.grownBy w' row) (hg : some g ≠ row) : Blk w' g t cs := (hb.block g h.lt hg).trans h
end

/-! ### 3. Numbers in cells -/
/-- element i of a list of numbers -/
def gI (xs : List Int) (i : Nat) : Int := xs.getD i 0
theorem gI_lt {xs : List Int} {i : Nat} (h : i < xs.length) : gI xs i = xs[i] := by simp [gI, List.getD_eq_getElem?_getD, h]
def nums (k : IntKind) (xs : List Int) : List Value := xs.map (Value.int k)
def numsA (k : IntKind) (xs : List Int) : Array Value := (nums k xs).toArray
theorem nums_length (k : IntKind) (xs : List Int) : (nums k xs).length = xs.length := by simp [nums]
theorem numsA_size (k : IntKind) (xs : List Int) : (numsA k xs).size = xs.length := by simp [numsA, nums]
theorem nums_at (k : IntKind) (xs : List Int) (i : Nat) (h : i < xs.length) : (nums k xs)[i]? = some (.int k (gI xs i)) := by
  simp [nums, List.getElem?_eq_getElem h, gI]
theorem numsA_at (k : IntKind) (xs : List Int) (i : Nat) (h : i < xs.length) : (numsA k xs)[i]? = some (.int k (gI xs i)) := by
  simp [numsA, nums, List.getElem?_eq_getElem h, gI]
theorem nums_append (k : IntKind) (xs ys : List Int) : nums k (xs ++ ys) = nums k xs ++ nums k ys := by simp [nums]
theorem numsA_set (k : IntKind) (xs : List Int) (i : Nat) (x : Int) : (numsA k xs).setIfInBounds i (.int k x) = numsA k (xs.set i x) := by
  simp [numsA, nums, List.map_set]
theorem one_nums (k : IntKind) (xs : List Int) : ∀ u ∈ nums k xs, u.oneCell' = true := by
  intro u hu
  obtain ⟨_, _, rfl⟩ := List.mem_map.1 hu
  rfl
theorem Blk.num {w : World} {g t : Nat} {k : IntKind} {xs : List Int} (h : Blk w g t (numsA k xs)) (i : Nat) (hi : i < xs.length) : w.cell? ⟨g, i, none⟩ = some (.int k (gI xs i)) :=
  h.at_ i (numsA_at k xs i hi)
/-- a byte -/
def B8 (xs : List Int) : Prop := ∀ x ∈ xs, 0 ≤ x ∧ x ≤ 255
theorem B8.get {xs : List Int} (h : B8 xs) (i : Nat) : 0 ≤ gI xs i ∧ gI xs i ≤ 255 := by
  unfold gI
  by_cases hi : i < xs.length
  · have := h (xs[i]) (List.getElem_mem hi); simpa [List.getD_eq_getElem?_getD, List.getElem?_eq_getElem hi] using this
  · simp [List.getD_eq_getElem?_getD, List.getElem?_eq_none (by omega : xs.length ≤ i)]
theorem take_eq_step {a b : List Int} {k : Nat} (ha : k < a.length) (hb : k < b.length) (h : a.take k = b.take k) (e : gI a k = gI b k) : a.take (k + 1) = b.take (k + 1) := by
  rw [List.take_succ_eq_append_getElem ha, List.take_succ_eq_append_getElem hb, h]
  rw [gI_lt ha, gI_lt hb] at e
  rw [e]
theorem set_take_step {xs ys : List Int} {k : Nat} (hx : k < xs.length) (hl : ys.length = xs.length) (h : ys.take k = xs.take k) : (ys.set k (gI xs k)).take (k + 1) = xs.take (k + 1) := by
  rw [List.take_succ_eq_append_getElem hx, List.take_succ_eq_append_getElem (by simpa [hl] using hx)]
  rw [List.take_set, List.set_eq_of_length_le (by simp; omega), h]
  simp [gI_lt hx]

/-! ### 4. Types without pointers -/
structure Ty (α : Type) where
  sz : Nat
  enc : α → List Value
  ok : α → Prop
  len : ∀ x, ok x → (enc x).length = sz
  one : ∀ x, ∀ u ∈ enc x, u.oneCell' = true
def tByte : Ty Int := ⟨1, fun x => [.int .u8 x], fun x => 0 ≤ x ∧ x ≤ 255, fun _ _ => rfl, fun _ u hu => by simp at hu; subst hu; rfl⟩
/-- a key -/
def K32 (k : List Int) : Prop := k.length = 32 ∧ B8 k
def tKey : Ty (List Int) := ⟨32, nums .u8, K32, fun x h => by rw [nums_length]; exact h.1, fun x => one_nums _ x⟩
def tEntry : Ty (ByteArray × ByteArray) := ⟨2, fun e => [.string e.1, .string e.2], fun _ => True, fun _ _ => rfl, fun _ u hu => by simp at hu; rcases hu with rfl | rfl <;> rfl⟩
theorem flat_length {α : Type} (T : Ty α) (xs : List α) (h : ∀ x ∈ xs, T.ok x) : (xs.flatMap T.enc).length = xs.length * T.sz := by
  induction xs with
  | nil => simp
  | cons x r ih =>
    simp only [List.flatMap_cons, List.length_append, List.length_cons, T.len x (h x (by simp)), ih (fun y hy => h y (by simp [hy])), Nat.add_mul]
    omega
theorem flat_at {α : Type} (T : Ty α) (xs : List α) (h : ∀ x ∈ xs, T.ok x) (i : Nat) (hi : i < xs.length) (j : Nat) (hj : j < T.sz) :
    (xs.flatMap T.enc)[i * T.sz + j]? = (T.enc xs[i])[j]? := by
  induction xs generalizing i with
  | nil => simp at hi
  | cons x r ih =>
    have hl := T.len x (h x (by simp))
    cases i with
    | zero => simp only [Nat.zero_mul, Nat.zero_add, List.flatMap_cons, List.getElem_cons_zero]; rw [List.getElem?_append_left (by omega)]
    | succ i =>
      simp only [List.flatMap_cons, List.getElem_cons_succ]
      rw [List.getElem?_append_right (by rw [hl, Nat.add_mul]; omega), hl, ← ih (fun y hy => h y (by simp [hy])) i (by simpa using hi)]
      congr 1
      rw [Nat.add_mul]
      omega
theorem flat_bytes (xs : List Int) : xs.flatMap tByte.enc = nums .u8 xs := by
  induction xs with
  | nil => rfl
  | cons x r ih => simp only [List.flatMap_cons, ih]; rfl

/-! ### 5. A slice that is read -/
/-- the slice '.slice A n _' holds the cells cs, and lies in a block with S -/
def Rd (w : World) (S : Nat → Prop) (sz : Nat) (A : Option Addr) (n : Nat) (cs : List Value) : Prop :=
  cs.length = n * sz ∧ (0 < n → ∃ g o, A = some ⟨g, o, none⟩ ∧ S g ∧ ∀ j u, cs[j]? = some u → w.cell? ⟨g, o + j, none⟩ = some u)
section
variable {w w' : World} {S S' : Nat → Prop} {sz n : Nat} {A : Option Addr} {cs : List Value}
theorem Rd.keep (h : Rd w S sz A n cs) (hk : ∀ g, S g → w'.heap[g]? = w.heap[g]?) : Rd w' S sz A n cs :=
  ⟨h.1, fun hn => by
    obtain ⟨g, o, e, hs, hc⟩ := h.2 hn
    exact ⟨g, o, e, hs, fun j u hu => (World.cell?_of_block (w := w) (hk g hs)).trans (hc j u hu)⟩⟩
theorem Rd.mono (h : Rd w S sz A n cs) (hk : ∀ g, S g → S' g) : Rd w S' sz A n cs :=
  ⟨h.1, fun hn => by
    obtain ⟨g, o, e, hs, hc⟩ := h.2 hn
    exact ⟨g, o, e, hk g hs, hc⟩⟩
/-- whatever is read lies in a block that is there -/
theorem Rd.old (h : Rd w S sz A n cs) (hz : 0 < sz) : Rd w (fun g => S g ∧ g < w.heap.size) sz A n cs :=
  ⟨h.1, fun hn => by
    obtain ⟨g, o, e, hs, hc⟩ := h.2 hn
    have hl : 0 < cs.length := by rw [h.1]; exact Nat.mul_pos hn hz
    exact ⟨g, o, e, ⟨hs, World.block_lt_of_cell? w _ (hc 0 _ (List.getElem?_eq_getElem hl))⟩, hc⟩⟩
theorem Rd.ext (h : Rd w S sz A n cs) (hz : 0 < sz) (e : Ext w w') : Rd w' S sz A n cs :=
  ((h.old hz).keep fun g hg => e.block g hg.2).mono fun _ hg => hg.1
theorem Rd.nil (w : World) (S : Nat → Prop) (sz : Nat) (A : Option Addr) : Rd w S sz A 0 [] := ⟨by simp, fun h => absurd h (by omega)⟩
/-- the cut from k on, its address as the machine spells it -/
theorem Rd.cut (h : Rd w S sz A n cs) {k cap : Nat} (hk : k ≤ n) (hc : n ≤ cap) : Rd w S sz (if cap = k then A else A.map (·.add (k * sz))) (n - k) (cs.drop (k * sz)) := by
  refine ⟨by rw [List.length_drop, h.1, Nat.sub_mul], fun hn => ?_⟩
  obtain ⟨g, o, rfl, hs, hcell⟩ := h.2 (by omega)
  rw [if_neg (by omega)]
  refine ⟨g, o + k * sz, by simp [Addr.add_lit], hs, fun j u hu => ?_⟩
  rw [Nat.add_assoc]
  exact hcell _ u (by rw [← hu, List.getElem?_drop])
/-- the first k -/
theorem Rd.head (h : Rd w S sz A n cs) {k : Nat} (hk : k ≤ n) : Rd w S sz A k (cs.take (k * sz)) := by
  refine ⟨by rw [List.length_take, h.1]; exact Nat.min_eq_left (Nat.mul_le_mul_right _ hk), fun hn => ?_⟩
  obtain ⟨g, o, e, hs, hc⟩ := h.2 (by omega)
  refine ⟨g, o, e, hs, fun j u hu => hc j u ?_⟩
  rw [List.getElem?_take] at hu
  split at hu
  · exact hu
  · cases hu
end
/-- the value v is a slice that reads as the list xs -/
def RdL {α : Type} (T : Ty α) (w : World) (S : Nat → Prop) (v : Value) (xs : List α) : Prop :=
  ∃ A cap, v = .slice A xs.length cap ∧ xs.length ≤ cap ∧ xs.length ≤ 140737488355328 ∧ Rd w S T.sz A xs.length (xs.flatMap T.enc) ∧ ∀ x ∈ xs, T.ok x
section
variable {α : Type} {T : Ty α} {w w' : World} {S S' : Nat → Prop} {v : Value} {xs : List α}
theorem RdL.keep (h : RdL T w S v xs) (hk : ∀ g, S g → w'.heap[g]? = w.heap[g]?) : RdL T w' S v xs := by
  obtain ⟨A, cap, e, h1, h2, h3, h4⟩ := h
  exact ⟨A, cap, e, h1, h2, h3.keep hk, h4⟩
theorem RdL.mono (h : RdL T w S v xs) (hk : ∀ g, S g → S' g) : RdL T w S' v xs := by
  obtain ⟨A, cap, e, h1, h2, h3, h4⟩ := h
  exact ⟨A, cap, e, h1, h2, h3.mono hk, h4⟩
theorem RdL.ext (h : RdL T w S v xs) (hz : 0 < T.sz) (e : Ext w w') : RdL T w' S v xs := by
  obtain ⟨A, cap, he, h1, h2, h3, h4⟩ := h
  exact ⟨A, cap, he, h1, h2, h3.ext hz e, h4⟩
end
/-- cell j of element i, where xs is not empty -/
theorem Rd.elem {α : Type} {T : Ty α} {w : World} {S : Nat → Prop} {A : Option Addr} {xs : List α} (h : Rd w S T.sz A xs.length (xs.flatMap T.enc)) (hok : ∀ x ∈ xs, T.ok x) (i : Nat) (hi : i < xs.length) :
    ∃ g o, A = some ⟨g, o, none⟩ ∧ S g ∧ ∀ j u, (T.enc xs[i])[j]? = some u → w.cell? ⟨g, o + i * T.sz + j, none⟩ = some u := by
  obtain ⟨g, o, e, hs, hc⟩ := h.2 (by omega)
  refine ⟨g, o, e, hs, fun j u hu => ?_⟩
  rw [Nat.add_assoc]
  refine hc _ u ?_
  have hj : j < T.sz := by
    have := (List.getElem?_eq_some_iff.1 hu).1
    rwa [T.len _ (hok _ (List.getElem_mem hi))] at this
  rw [flat_at T xs hok i hi j hj, hu]
theorem Rd.byte {w : World} {S : Nat → Prop} {A : Option Addr} {xs : List Int} (h : Rd w S 1 A xs.length (nums .u8 xs)) (i : Nat) (hi : i < xs.length) :
    ∃ g o, A = some ⟨g, o, none⟩ ∧ S g ∧ w.cell? ⟨g, o + i, none⟩ = some (.int .u8 (gI xs i)) := by
  obtain ⟨g, o, e, hs, hc⟩ := h.2 (by omega)
  exact ⟨g, o, e, hs, hc i _ (nums_at _ _ _ hi)⟩
/-- a cut out of the middle -/
theorem Rd.sub8 {w : World} {S : Nat → Prop} {g o n : Nat} {xs : List Int} (h : Rd w S 1 (some ⟨g, o, none⟩) n (nums .u8 xs)) (i m : Nat) (hm : i + m ≤ xs.length) :
    Rd w S tByte.sz (some ⟨g, o + i, none⟩) ((xs.drop i).take m).length (((xs.drop i).take m).flatMap tByte.enc) := by
  have hn : xs.length = n := by have := h.1; rw [nums_length] at this; omega
  rw [flat_bytes]
  refine ⟨by rw [nums_length]; exact (Nat.mul_one _).symm, fun hp => ?_⟩
  have hl : ((xs.drop i).take m).length = m := by simp; omega
  rw [hl] at hp
  obtain ⟨g', o', e, hs, hc⟩ := h.2 (by omega)
  injection e with e
  injection e with e1 e2
  subst e1
  subst e2
  refine ⟨g, o + i, rfl, hs, fun j u hu => ?_⟩
  rw [Nat.add_assoc]
  refine hc _ u ?_
  rw [← hu]
  have hj : j < m := by
    have := (List.getElem?_eq_some_iff.1 hu).1
    rwa [nums_length, hl] at this
  simp [nums, List.getElem?_take, hj]
/-- what is left behind the first k -/
theorem Rd.cut8 {w : World} {S : Nat → Prop} {g o n : Nat} {xs : List Int} (h : Rd w S 1 (some ⟨g, o, none⟩) n (nums .u8 xs)) (k cap : Nat) (hk : k ≤ n) (hc : n ≤ cap) :
    Rd w S 1 (if cap = k then some ⟨g, o, none⟩ else some ⟨g, o + k, none⟩) (xs.drop k).length (nums .u8 (xs.drop k)) := by
  have hn : xs.length = n := by have := h.1; rw [nums_length] at this; omega
  have h1 := h.cut hk hc
  have e : (if cap = k then some (⟨g, o, none⟩ : Addr) else (some (⟨g, o, none⟩ : Addr)).map (·.add (k * 1))) = if cap = k then some ⟨g, o, none⟩ else some ⟨g, o + k, none⟩ := by
    split
    · rfl
    · simp [Addr.add_lit]
  rw [e, Nat.mul_one] at h1
  have e2 : (nums .u8 xs).drop k = nums .u8 (xs.drop k) := by simp [nums]
  rwa [e2, ← hn, ← List.length_drop] at h1

/-! ### 6. A row of one's own -/
/-- v is nil or the head of a row from block base on that is one's own: its elements are xs -/
def Own {α : Type} (T : Ty α) (e : TypeId) (w : World) (base : Nat) (v : Value) (xs : List α) : Prop :=
  w.ownsRow base e T.sz v xs.length (xs.flatMap T.enc) ∧ xs.length ≤ 140737488355328 ∧ ∀ x ∈ xs, T.ok x
section
variable {α : Type} {T : Ty α} {e : TypeId} {w w' : World} {base base' : Nat} {v : Value} {xs : List α}
theorem Own.shape (h : Own T e w base v xs) : ∃ A cap, v = .slice A xs.length cap := by
  rcases h.1.2 with ⟨rfl, h0⟩ | ⟨g, cap, cur, rfl, _⟩
  · exact ⟨none, 0, by rw [h0]⟩
  · exact ⟨_, cap, rfl⟩
theorem Own.shape3 (h : Own T e w base v xs) : ∃ A n cap, v = .slice A n cap := by
  obtain ⟨A, c, rfl⟩ := h.shape
  exact ⟨_, _, _, rfl⟩
theorem Own.ext (h : Own T e w base v xs) (k : Ext w w') : Own T e w' base v xs :=
  ⟨h.1.kept (row := none) ⟨k.os, k.tape, k.output, k.size, fun i hi _ => k.block i hi⟩ (by cases v.ownBlock <;> simp), h.2⟩
theorem Own.drew (h : Own T e w base v xs) : Own T e w.drew base v xs := h
theorem Own.drewN (h : Own T e w base v xs) (n : Nat) : Own T e (w.drewN n) base v xs := h
theorem Own.alloc (h : Own T e w base v xs) (o : Obj) : Own T e (w.alloc o) base v xs := h.ext (ext_alloc w o)
theorem Own.kept {row : Option Nat} (h : Own T e w base v xs) (hg : w.grownBy w' row) (hne : v.ownBlock = none ∨ v.ownBlock ≠ row) : Own T e w' base v xs := ⟨h.1.kept hg hne, h.2⟩
theorem Own.base_le (h : Own T e w base v xs) (k : Nat) (hk : v.ownBlock = some k) : base ≤ k ∧ k < w.heap.size := h.1.lt k hk
theorem Own.le (h : Own T e w base v xs) (hb : base' ≤ base) : Own T e w base' v xs := by
  refine ⟨⟨h.1.1, ?_⟩, h.2⟩
  rcases h.1.2 with hn | ⟨g, cap, cur, h1, h2, r⟩
  · exact .inl hn
  · exact .inr ⟨g, cap, cur, h1, Nat.le_trans hb h2, r⟩
theorem Own.rd (h : Own T e w base v xs) : RdL T w (fun g => base ≤ g ∧ g < w.heap.size) v xs := by
  obtain ⟨⟨hl, hx⟩, h2, h3⟩ := h
  rcases hx with ⟨rfl, h0⟩ | ⟨g, cap, cur, rfl, hb, hg, hc, hm, hs, ht⟩
  · obtain rfl : xs = [] := List.eq_nil_of_length_eq_zero h0
    exact ⟨none, 0, rfl, Nat.le_refl _, by simp, Rd.nil _ _ _ _, h3⟩
  · refine ⟨_, cap, rfl, hc, h2, ⟨hl, fun hn => ⟨g, 0, rfl, ⟨hb, (Array.getElem?_eq_some_iff.1 hg).1⟩, fun j u hu => ?_⟩⟩, h3⟩
    rw [Nat.zero_add, cell_of_row w g j cur e (0, 0) hg]
    rw [← ht, List.getElem?_take] at hu
    split at hu
    · simpa using hu
    · cases hu
theorem Own.set_below (h : Own T e w base v xs) {p : Addr} (hp : p.block < base) (u : Value) : Own T e (w.setCell p u) base v xs := ⟨ownsRow_setCell_below h.1 hp u, h.2⟩
theorem Own.nil (T : Ty α) (e : TypeId) (w : World) (base : Nat) : Own T e w base (.slice none 0 0) ([] : List α) := ⟨World.ownsRow_nil _ _ _ _, by simp, by simp⟩
end

/-! ### 8. Whole structs and arrays: read, written, made -/
theorem Own.of_blk {α : Type} (T : Ty α) {w : World} {g e base : Nat} {xs : List α} (h : Blk w g e (xs.flatMap T.enc).toArray) (hb : base ≤ g) (hn : xs.length ≤ 140737488355328) (hok : ∀ x ∈ xs, T.ok x) :
    Own T e w base (.slice (some ⟨g, 0, none⟩) xs.length xs.length) xs :=
  ⟨⟨flat_length T xs hok, .inr ⟨g, xs.length, _, rfl, hb, h, Nat.le_refl _, by simp only [maxLen]; omega, by simp only [List.size_toArray]; exact flat_length T xs hok, by
    simp only []
    rw [← flat_length T xs hok, List.take_length]⟩⟩, hn, hok⟩
theorem Own.of_blk8 {w : World} {g e base : Nat} {xs : List Int} (h : Blk w g e (numsA .u8 xs)) (hb : base ≤ g) (hn : xs.length ≤ 140737488355328) (hok : B8 xs) :
    Own tByte e w base (.slice (some ⟨g, 0, none⟩) xs.length xs.length) xs :=
  Own.of_blk tByte (by rw [flat_bytes]; exact h) hb hn hok
/-- a literal of no elements -/
theorem Own.empty {α : Type} (T : Ty α) (w : World) (e base : Nat) (hb : base ≤ w.heap.size) : Own T e (w.alloc (.cells #[] e)) base (.slice (some ⟨w.heap.size, 0, none⟩) 0 0) ([] : List α) :=
  Own.of_blk T (xs := []) (by simpa using Blk.new w e #[]) hb (by simp) (by simp)
/-- t is a struct or an array of n cells -/
def Agg (P : Program) (t n : Nat) : Prop := (∃ d, P.underlying t = some d ∧ (match d with | .struct _ | .array _ _ => true | _ => false) = true) ∧ (P.info? t).map (·.size) = some n
section
variable {P : Program} {ops : Array Oper} {rest : List Oper} {o : Oper} {a : Act} {w : World} {Q : Exit → Act → World → Prop}
theorem run_loadVar_at {t : TypeId} (ad : Addr) (cs : List Value) (ht : Agg P t cs.length) (hc : ∀ j u, cs[j]? = some u → w.cell? (ad.add j) = some u) : (loadVar t ad).run P w = .ok (.agg cs.toArray) w := by
  obtain ⟨⟨d, hu, hd⟩, hs⟩ := ht
  have hl := run_loadCells_list (P := P) w ad cs hc
  cases hq : P.info? t with
  | none => simp [hq] at hs
  | some i =>
    have hs' : i.size = cs.length := by simpa [hq] using hs
    have hagg : (isAgg t).run P w = .ok true w := by
      unfold isAgg
      rw [Sem.run_bind, run_underlying hu w]
      cases d <;> simp_all
    simp [loadVar, Sem.run_bind, hagg, sizeOf, typeInfo, hq, hs', hl]
/-- a whole struct or array is loaded -/
theorem wpl_load {t : TypeId} (ad : Addr) (cs : List Value) (ht : Agg P t cs.length) (hgd : o.guard = none) (x : Operand) (ho : o.op = .load t x) (hx : a.eval x = .pointer (some ad))
    (hc : ∀ j u, cs[j]? = some u → w.cell? (ad.add j) = some u) (h : wpList P ops Q rest (a.put o.dst (.agg cs.toArray)) w) : wpList P ops Q (o :: rest) a w := by
  refine wpList_plain hgd fun K hK => ?_
  unfold Oper.wp execOp
  simp only [ho, hx, Instr.loadAt, Instr.sureAddr, Sem.run_bind, Sem.run_pure, Result.andThen_ok, run_loadVar_at ad cs ht hc]
  exact hK _ _ h
/-- cs with vs written from place o on -/
def splice (cs : Array Value) (o : Nat) (vs : List Value) : Array Value := (cs.toList.take o ++ vs ++ cs.toList.drop (o + vs.length)).toArray
theorem Blk.setRow {w : World} {g t : Nat} {cs : Array Value} (h : Blk w g t cs) (cs' : Array Value) : Blk (w.setRow g cs') g t cs' := setRow_heap w g cs cs' t _ h
theorem Blk.row_far {w : World} {g g' t : Nat} {cs : Array Value} (h : Blk w g t cs) (hg : g ≠ g') (cs' : Array Value) : Blk (w.setRow g' cs') g t cs := (setRow_other w g' g cs' hg).trans h
theorem Ext.setRow {a b : World} (h : Ext a b) {g : Nat} (hg : a.heap.size ≤ g) (cs : Array Value) : Ext a (b.setRow g cs) :=
  Below.trans h ⟨rfl, rfl, rfl, by simp, fun k hk => setRow_other b g k cs (by omega)⟩
theorem Ext.set {a b : World} (h : Ext a b) {p : Addr} (hg : a.heap.size ≤ p.block) (v : Value) : Ext a (b.setCell p v) := Below.setCell h hg v
theorem Ext.grown {a b c : World} {row : Option Nat} (h : Ext a b) (hg : b.grownBy c row) (hr : ∀ k, row = some k → a.heap.size ≤ k) : Ext a c := Below.grown h hg h.size hr
/-- a whole struct or array is stored into a block of one's own -/
theorem wpl_store {t : TypeId} (g off e : Nat) (cur : Array Value) (vs : List Value) (hs : (P.info? t).map (·.size) = some vs.length) (hgd : o.guard = none) (x y : Operand) (ho : o.op = .store t x y)
    (hx : a.eval x = .pointer (some ⟨g, off, none⟩)) (hy : (a.eval y).cells = vs.toArray) (hb : Blk w g e cur) (hl : off + vs.length ≤ cur.size) (h1 : ∀ u ∈ vs, u.oneCell' = true)
    (hd : o.dst = none) (h : wpList P ops Q rest a (w.setRow g (splice cur off vs))) : wpList P ops Q (o :: rest) a w := by
  refine wpList_plain hgd fun K hK => ?_
  have hrun := run_storeCells_at P g off e vs 0 cur w hb (by simpa using hl) h1
  simp only [Nat.add_zero] at hrun
  cases hq : P.info? t with
  | none => simp [hq] at hs
  | some i =>
    have hs' : i.size = vs.length := by simpa [hq] using hs
    unfold Oper.wp execOp
    simp only [ho, hx, Instr.storeAt, Instr.sureAddr, Sem.run_bind, Sem.run_pure, Result.andThen_ok]
    have hst : (storeVar t ⟨g, off, none⟩ (a.eval y)).run P w = .ok () (w.setRow g (splice cur off vs)) := by
      simp only [storeVar, Sem.run_bind, sizeOf, typeInfo]
      simp [hq, hs', hy, hrun, splice]
    rw [hst]
    simp only [Result.andThen_ok, Sem.run_pure]
    have := hK _ _ h
    simpa [hd, Act.put, Oper.upon] using this
/-- a new variable of a struct's or an array's type -/
theorem wpl_alloc {t : TypeId} (z : Array Value) (hz : (P.info? t).map (·.zero) = some (some (.agg z))) (hgd : o.guard = none) (ho : o.op = .alloc t)
    (h : wpList P ops Q rest (a.put o.dst (.pointer (some ⟨w.heap.size, 0, none⟩))) (w.alloc (.cells z t))) : wpList P ops Q (o :: rest) a w := by
  refine wpList_plain hgd fun K hK => ?_
  cases hq : P.info? t with
  | none => simp [hq] at hz
  | some i =>
    have hz' : i.zero = some (.agg z) := by simpa [hq] using hz
    have hrun : (Instr.alloc t true (.tuple #[])).run P w = .ok (.pointer (some ⟨w.heap.size, 0, none⟩)) (w.alloc (.cells z t)) := by
      simp [Instr.alloc, zeroValue, typeInfo, hq, hz', newVar, newRow, Value.cells]
    unfold Oper.wp execOp
    simp only [ho, Sem.run_bind, hrun, Result.andThen_ok, Sem.run_pure]
    exact hK _ _ h
end

/-! ### 9. What may be written -/
/-- v is a slice of n elements of sz cells each, in a block from lo on that is not frozen -/
def Wr (w : World) (lo sz : Nat) (v : Value) (n : Nat) : Prop :=
  ∃ A cap, v = .slice A n cap ∧ n ≤ cap ∧ n ≤ 140737488355328 ∧ (0 < n → ∃ g o cur t, A = some ⟨g, o, none⟩ ∧ lo ≤ g ∧ Blk w g t cur ∧ o + n * sz ≤ cur.size)
theorem Own.wr {α : Type} {T : Ty α} {e : TypeId} {w : World} {base : Nat} {v : Value} {xs : List α} (h : Own T e w base v xs) : Wr w base T.sz v xs.length := by
  obtain ⟨⟨hl, hx⟩, h2, h3⟩ := h
  rcases hx with ⟨rfl, h0⟩ | ⟨g, cap, cur, rfl, hb, hg, hc, hm, hs, ht⟩
  · exact ⟨none, 0, by rw [h0], by omega, h2, fun h => by omega⟩
  · exact ⟨_, cap, rfl, hc, h2, fun _ => ⟨g, 0, cur, e, rfl, hb, hg, by rw [hs, Nat.zero_add]; exact Nat.mul_le_mul_right _ hc⟩⟩
theorem Wr.kept {w w' : World} {lo sz n : Nat} {v : Value} (h : Wr w lo sz v n) (hk : ∀ g, lo ≤ g → g < w.heap.size → w'.heap[g]? = w.heap[g]?) : Wr w' lo sz v n := by
  obtain ⟨A, cap, e, h0, h1, h2⟩ := h
  refine ⟨A, cap, e, h0, h1, fun hn => ?_⟩
  obtain ⟨g, o, cur, t, e1, e2, e3, e4⟩ := h2 hn
  exact ⟨g, o, cur, t, e1, e2, (hk g e2 e3.lt).trans e3, e4⟩
theorem Wr.ext {w w' : World} {lo sz n : Nat} {v : Value} (h : Wr w lo sz v n) (e : Ext w w') : Wr w' lo sz v n := h.kept fun g _ hg => e.block g hg
theorem grown_set {w w' : World} {g i : Nat} (h : w.grownBy w' (some g)) (v : Value) : w.grownBy (w'.setCell ⟨g, i, none⟩ v) (some g) :=
  ⟨h.os, h.tape, h.output, by have := h.size; simpa using this, fun k hk hne => (Below.heap_setCell _ _ _ _ (fun e => hne (by rw [e]))).trans (h.block k hk hne)⟩
theorem grown_refl (w : World) (row : Option Nat) : w.grownBy w row := ⟨rfl, rfl, rfl, Nat.le_refl _, fun _ _ _ => rfl⟩
theorem grown_trans {a b c : World} {row : Option Nat} (h : a.grownBy b row) (k : b.grownBy c row) : a.grownBy c row :=
  ⟨k.os.trans h.os, k.tape.trans h.tape, k.output.trans h.output, Nat.le_trans h.size k.size, fun i hi hn => (k.block i (Nat.lt_of_lt_of_le hi h.size) hn).trans (h.block i hi hn)⟩
theorem grown_ext {a b c : World} {row : Option Nat} (h : a.grownBy b row) (k : Ext b c) : a.grownBy c row :=
  grown_trans h ⟨k.os, k.tape, k.output, k.size, fun i hi _ => k.block i hi⟩
theorem ext_grown {a b : World} (row : Option Nat) (k : Ext a b) : a.grownBy b row := ⟨k.os, k.tape, k.output, k.size, fun i hi _ => k.block i hi⟩
/-- the marks k, k + 1, .. -/
def marks (k : Int) (n : Nat) : List Int := (List.range n).map fun (i : Nat) => (k + (i : Int)) % 256
theorem marks_length (k : Int) (n : Nat) : (marks k n).length = n := by simp [marks]
theorem marks_ok (k : Int) (n : Nat) : B8 (marks k n) := by
  intro x hx
  obtain ⟨i, _, rfl⟩ := List.mem_map.1 hx
  omega
theorem marks_at (k : Int) (n i : Nat) (h : i < n) : gI (marks k n) i = (k + i) % 256 := by
  rw [gI_lt (by rw [marks_length]; exact h)]; simp [marks]

/-! ### 10. append onto a row of one's own -/
/-- t is the type of slices of e, whose elements take T.sz cells and so many bytes -/
structure Row {α : Type} (P : Program) (T : Ty α) (t e : TypeId) (bytes : Nat) : Prop where
  ht : P.underlying t = some (.slice e)
  info : ∃ i z, P.info? e = some i ∧ i.zero = some z ∧ i.size = T.sz ∧ i.bytes = bytes ∧ z.cells.size = T.sz
  sz : 0 < T.sz
  by_ : 0 < bytes
theorem Row.mk' {α : Type} {P : Program} {T : Ty α} {t e : TypeId} {bytes : Nat} (ht : P.underlying t = some (.slice e)) (z : Value) (hi : (P.info? e).map (fun i => (i.zero, i.size, i.bytes)) = some (some z, T.sz, bytes)) (hz : z.cells.size = T.sz) (h1 : 0 < T.sz) (h2 : 0 < bytes) : Row P T t e bytes := by
  obtain ⟨i, a, b, c, d⟩ := info_parts hi
  exact ⟨ht, ⟨i, z, a, b, c, d, hz⟩, h1, h2⟩
section
variable {α : Type} {P : Program} {T : Ty α} {t e : TypeId} {bytes : Nat}
theorem run_append (R : Row P T t e bytes) (ty : TypeId) {w : World} {base : Nat} {v : Value} {xs : List α} (ho : Own T e w base v xs) {S : Nat → Prop} {A : Option Addr} (c : Nat) {ys : List α}
    (hr : Rd w S T.sz A ys.length (ys.flatMap T.enc)) (hok : ∀ y ∈ ys, T.ok y) (hl : (xs.length + ys.length) * bytes ≤ 140737488355328) (hb : base ≤ w.heap.size) :
    ∃ v' w', (Builtin.append_ #[t, t] ty #[v, .slice A ys.length c]).run P w = .ok v' w' ∧ Own T e w' base v' (xs ++ ys) ∧ w.grownBy w' v.ownBlock ∧ (v'.ownBlock = v.ownBlock ∨ v'.ownBlock = some w.heap.size) := by
  obtain ⟨i, z, hi, hz, hs, hby, hzs⟩ := R.info
  have hlen : xs.length + ys.length ≤ 140737488355328 := Nat.le_trans (Nat.le_mul_of_pos_right _ R.by_) hl
  rcases A with _ | ad
  · have h0 : ys.length = 0 := by
      rcases Nat.eq_zero_or_pos ys.length with h0 | h0
      · exact h0
      · obtain ⟨g, o, h, _⟩ := hr.2 h0
        cases h
    obtain rfl : ys = [] := List.eq_nil_of_length_eq_zero h0
    refine ⟨v, w, ?_, by simpa using ho, grown_refl _ _, .inl rfl⟩
    rcases ho.1.2 with ⟨rfl, hn⟩ | ⟨g, cap, cur, rfl, _, _, hnc, _⟩
    · simp [Builtin.append_, run_underlying R.ht, sizeOf, typeInfo, hi, Builtin.lenOf, Builtin.firstCells]
    · simp [Builtin.append_, run_underlying R.ht, sizeOf, typeInfo, hi, Builtin.lenOf, Builtin.firstCells, hnc, storeCells]
  · have hcells : ∀ j u, (ys.flatMap T.enc)[j]? = some u → w.cell? (ad.add j) = some u := by
      intro j u hu
      have hj : 0 < ys.length := by
        rcases Nat.eq_zero_or_pos ys.length with h0 | h0
        · obtain rfl : ys = [] := List.eq_nil_of_length_eq_zero h0
          simp at hu
        · exact h0
      obtain ⟨g, o, h, _, hc⟩ := hr.2 hj
      injection h with h
      subst h
      rw [Addr.add_lit]
      exact hc j u hu
    have h1 : ∀ u ∈ ys.flatMap T.enc, u.oneCell' = true := by
      intro u hu
      obtain ⟨y, _, hy⟩ := List.mem_flatMap.1 hu
      exact T.one y u hy
    obtain ⟨v', w', hrun, h2, h3, _, h5⟩ := run_append_own_at (P := P) w base t ty e i z T.sz bytes R.ht hi hz hs hby hzs R.sz v xs.length (xs.flatMap T.enc) ho.1 ad ys.length c (ys.flatMap T.enc) hr.1 hcells h1 (by simp only [maxLen]; omega) hl hb
    refine ⟨v', w', hrun, ⟨by simpa using h2, by simp; omega, fun x hx => ?_⟩, h3, h5⟩
    rcases List.mem_append.1 hx with hx | hx
    · exact ho.2.2 x hx
    · exact hok x hx
theorem wpl_append (R : Row P T t e bytes) {ops : Array Oper} {rest : List Oper} {o : Oper} {a : Act} {w : World} {Q : Exit → Act → World → Prop} (hgd : o.guard = none) (s x : Operand)
    (hop : o.op = .call { callee := .builtin .append, args := #[s, x], argTypes := #[t, t] })
    {base : Nat} {v : Value} {xs : List α} (hs : a.eval s = v) (ho : Own T e w base v xs) {S : Nat → Prop} {A : Option Addr} (m c : Nat) {ys : List α} (hx : a.eval x = .slice A m c) (hm : m = ys.length)
    (hr : Rd w S T.sz A ys.length (ys.flatMap T.enc)) (hok : ∀ y ∈ ys, T.ok y) (hl : (xs.length + ys.length) * bytes ≤ 140737488355328) (hb : base ≤ w.heap.size)
    (h : ∀ v' w', Own T e w' base v' (xs ++ ys) → w.grownBy w' v.ownBlock → (v'.ownBlock = v.ownBlock ∨ v'.ownBlock = some w.heap.size) → wpList P ops Q rest (a.put o.dst v') w') : wpList P ops Q (o :: rest) a w := by
  subst hm
  obtain ⟨v', w', hrun, h1, h2, h3⟩ := run_append R o.type ho c hr hok hl hb
  refine wpList_plain hgd fun K hK => ?_
  unfold Oper.wp execOp
  simp only [hop, resolve, invoke, builtin, Sem.run_bind, Sem.run_pure, Result.andThen_ok, List.map_toArray, List.map_cons, List.map_nil, hs, hx, hrun]
  exact hK _ _ (h v' w' h1 h2 h3)
end
/-- the same as one step of a region that draws its order -/
theorem stp_append {α : Type} {P : Program} {T : Ty α} {t e : TypeId} {bytes : Nat} (R : Row P T t e bytes) {ops : Array Oper} {o : Oper} {a : Act} {w : World} {K : Act → World → Prop} {Q : Exit → Act → World → Prop} {E : Prop} (hgd : o.guard = none) (s x : Operand)
    (hop : o.op = .call { callee := .builtin .append, args := #[s, x], argTypes := #[t, t] })
    {base : Nat} {v : Value} {xs : List α} (hs : a.eval s = v) (ho : Own T e w base v xs) {S : Nat → Prop} {A : Option Addr} (m c : Nat) {ys : List α} (hx : a.eval x = .slice A m c) (hm : m = ys.length)
    (hr : Rd w S T.sz A ys.length (ys.flatMap T.enc)) (hok : ∀ y ∈ ys, T.ok y) (hl : (xs.length + ys.length) * bytes ≤ 140737488355328) (hb : base ≤ w.heap.size)
    (h : ∀ v' w', Own T e w' base v' (xs ++ ys) → w.grownBy w' v.ownBlock → (v'.ownBlock = v.ownBlock ∨ v'.ownBlock = some w.heap.size) → K (a.put o.dst v') w') :
    if Region.wanted o (yielded ops a.tmps) = true then Oper.wp P o a w K Q else E := by
  subst hm
  obtain ⟨v', w', hrun, h1, h2, h3⟩ := run_append R o.type ho c hr hok hl hb
  have hw : Region.wanted o (yielded ops a.tmps) = true := by simp [Region.wanted, hgd]
  rw [if_pos hw]
  unfold Oper.wp execOp
  simp only [hop, resolve, invoke, builtin, Sem.run_bind, Sem.run_pure, Result.andThen_ok, List.map_toArray, List.map_cons, List.map_nil, hs, hx, hrun]
  exact h v' w' h1 h2 h3
/-- the same onto the empty literal -/
theorem Ext.app {w0 w w' : World} {v : Value} (h : Ext w0 w) (hv : ∀ k, v.ownBlock = some k → w0.heap.size ≤ k) (hg : w.grownBy w' v.ownBlock) : Ext w0 w' := h.grown hg hv
/-- how long a slice is -/
def lenV : Value → Nat
  | .slice _ n _ => n
  | _ => 0
/-- behind an append: the world has grown, if the row is one's own -/
theorem Own.ext_app {α : Type} {T : Ty α} {e : TypeId} {w0 w w' : World} {v : Value} {xs : List α} (h : Ext w0 w) (ho : Own T e w w0.heap.size v xs) (hg : w.grownBy w' v.ownBlock) : Ext w0 w' :=
  h.grown hg fun k hk => (ho.base_le k hk).1
/-- an element of a row of one's own bytes: where it lies, that it may be written, and what is written there -/
theorem Own.byte {e : TypeId} {w : World} {base : Nat} {v : Value} {xs : List Int} (h : Own tByte e w base v xs) (k : Nat) (hk : k < xs.length) :
    ∃ g cap, v = .slice (some ⟨g, 0, none⟩) xs.length cap ∧ base ≤ g ∧ g < w.heap.size ∧ w.cell? ⟨g, k, none⟩ = some (.int .u8 (gI xs k)) ∧ w.frozen? ⟨g, k, none⟩ = false ∧
      ∀ x : Int, 0 ≤ x → x ≤ 255 → Own tByte e (w.setCell ⟨g, k, none⟩ (.int .u8 x)) base v (xs.set k x) := by
  obtain ⟨h1, h2, h3⟩ := h
  rw [flat_bytes] at h1
  rcases h1.2 with ⟨rfl, h0⟩ | ⟨g, cap, cur, rfl, hb, hg, hc, hm, hs, ht⟩
  · omega
  · refine ⟨g, cap, rfl, hb, (Array.getElem?_eq_some_iff.1 hg).1, ?_, by simp [World.frozen?, hg], fun x hx0 hx1 => ⟨?_, by simpa using h2, ?_⟩⟩
    · have := h1.cells (g := g) rfl k _ (nums_at .u8 xs k hk)
      rwa [Addr.add_lit, Nat.zero_add] at this
    · rw [flat_bytes]
      have := (h1.stored k (.int .u8 x)).1
      simpa [nums, List.map_set, tByte] using this
    · intro y hy
      rcases List.mem_or_eq_of_mem_set hy with hy | rfl
      · exact h3 y hy
      · exact ⟨hx0, hx1⟩
/-- what was there before and what is new lie apart -/
theorem Own.apart {α β : Type} {T : Ty α} {T' : Ty β} {e e' : TypeId} {w w' : World} {base base' : Nat} {v v' : Value} {xs : List α} {ys : List β} (h : Own T e w base v xs) (h' : Own T' e' w' base' v' ys) (hb : w.heap.size ≤ base') : v.ownBlock = none ∨ v.ownBlock ≠ v'.ownBlock := by
  cases hv : v.ownBlock with
  | none => exact .inl rfl
  | some k =>
    refine .inr fun e => ?_
    have h1 := (h.base_le k hv).2
    have h2 := (h'.base_le k e.symm).1
    omega
theorem Own.apart' {α β : Type} {T : Ty α} {T' : Ty β} {e e' : TypeId} {w w' : World} {base base' : Nat} {v v' : Value} {xs : List α} {ys : List β} (h : Own T e w base v xs) (h' : Own T' e' w' base' v' ys) (hb : w.heap.size ≤ base') : v'.ownBlock = none ∨ v'.ownBlock ≠ v.ownBlock := by
  cases hv : v'.ownBlock with
  | none => exact .inl rfl
  | some k =>
    refine .inr fun e => ?_
    have h1 := (h.base_le k e.symm).2
    have h2 := (h'.base_le k hv).1
    omega
/-- one element in a block of its own, ready to be appended -/
theorem rd_one {α : Type} {T : Ty α} (w : World) (x : α) (hx : T.ok x) (t : TypeId) : Rd (w.alloc (.cells (T.enc x).toArray t)) (fun _ => True) T.sz (some ⟨w.heap.size, 0, none⟩) [x].length ([x].flatMap T.enc) := by
  refine ⟨by simp [T.len x hx], fun _ => ⟨_, 0, rfl, trivial, fun j u hu => ?_⟩⟩
  rw [Nat.zero_add, (Blk.new w t _).cell]
  simpa using hu

/-! ### 7. Ways a call ends -/
theorem ret_int {k : IntKind} {a b : Int} (h : a = b) : Ending.returned (.int k a) = .returned (.int k b) := by rw [h]
theorem ret_bool {a b : Bool} (h : a = b) : Ending.returned (.bool a) = .returned (.bool b) := by rw [h]

end Go.Proofs.Ytikpakhccmdmcaa
