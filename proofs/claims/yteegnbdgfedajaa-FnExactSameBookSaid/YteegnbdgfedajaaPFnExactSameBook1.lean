/- What the walk of the law FnExactSameBook needs, part 1 of 4. No condition. -/
import Derived.Test.YteegnbdgfedajaaRows
import Derived.WalkKit
import Derived.WalkSpells
import Derived.WalkLawsBesides
import Derived.BigQuiet
import Derived.Lib.Hide
import Derived.Deep.QuietTactic
import Derived.Deep.Draws
import Derived.Deep.AppendLies
import Derived.Maps.AppendAt
import Derived.ProofKit
import Derived.OpenShut
import Derived.ShutString
import Derived.ChangeOld
import Derived.Below
import Derived.SizedLaws
import Derived.Deep.Slices
import Derived.Deep.OwnRows
import Derived.Deep.RegionHeld3
import Derived.Lib.ConvBytes
import Derived.Laws.BytesArg
import Derived.Laws.BitsLemmas
/- Words on memory for this seat's walks: a world that has only grown, blocks that are known whole, slices that are read, rows of a call's own. No condition. -/
namespace Go.Proofs.Yteegnbdgfedajaa
open Go.RowKit
set_option linter.unusedVariables false
set_option linter.unusedSimpArgs false

/-! ### 1. A world that has only grown -/
abbrev Ext (w w' : World) : Prop := Below w.heap.size w w'
theorem Ext.refl (w : World) : Ext w w := Below.refl _ _
theorem Ext.trans {a b c : World} (h : Ext a b) (k : Ext b c) : Ext a c := Below.trans h (Below.mono k h.size)
theorem Ext.below {B : Nat} {a b c : World} (h : Below B a b) (k : Ext b c) (hB : B ≤ b.heap.size) : Below B a c := Below.trans h (Below.mono k hB)
theorem below_drewN {B : Nat} {a w : World} (h : Below B a w) (n : Nat) : Below B a (w.drewN n) := ⟨h.os, h.tape, h.output, h.size, h.block⟩
theorem ext_alloc (w : World) (o : Obj) : Ext w (w.alloc o) := (Below.refl _ _).alloc (Nat.le_refl _) _
theorem Ext.alloc {a b : World} (h : Ext a b) (o : Obj) : Ext a (b.alloc o) := Below.alloc h h.size o
theorem Ext.drewN {a b : World} (h : Ext a b) (n : Nat) : Ext a (b.drewN n) := below_drewN h n
theorem Ext.drew {a b : World} (h : Ext a b) : Ext a b.drew := Below.drew h
theorem Ext.cell {a b : World} (h : Ext a b) {p : Addr} {v : Value} (hc : a.cell? p = some v) : b.cell? p = some v := (Below.cell h (World.block_lt_of_cell? a p hc)).trans hc
theorem Ext.free {a b : World} (h : Ext a b) {p : Addr} (hp : p.block < a.heap.size) (hc : a.frozen? p = false) : b.frozen? p = false := (Below.frozen h hp).trans hc
theorem Ext.heap {a b : World} (h : Ext a b) {g : Nat} {o : Obj} (hc : a.heap[g]? = some o) : b.heap[g]? = some o := (h.block g (Array.getElem?_eq_some_iff.1 hc).1).trans hc
/-- only orders have been drawn -/
def Drawn (w w' : World) : Prop := ∃ n, w' = w.drewN n
theorem Drawn.refl (w : World) : Drawn w w := ⟨0, rfl⟩
theorem Drawn.drewN {a b : World} (h : Drawn a b) (n : Nat) : Drawn a (b.drewN n) := by
  obtain ⟨m, rfl⟩ := h
  exact ⟨_, World.drewN_drewN ..⟩
theorem Drawn.trans {a b c : World} (h : Drawn a b) (k : Drawn b c) : Drawn a c := by
  obtain ⟨m, rfl⟩ := k
  exact h.drewN m
theorem Drawn.ext {a b : World} (h : Drawn a b) : Ext a b := by
  obtain ⟨m, rfl⟩ := h
  exact (Ext.refl a).drewN m
theorem size_alloc (w : World) (o : Obj) : (w.alloc o).heap.size = w.heap.size + 1 := by simp

/-! ### 2. A block that is known whole -/
def Blk (w : World) (g : Nat) (t : TypeId) (cs : Array Value) : Prop := w.heap[g]? = some (.cells cs t (0, 0))
section
variable {w w' : World} {g : Nat} {t : TypeId} {cs : Array Value}
theorem Blk.lt (h : Blk w g t cs) : g < w.heap.size := (Array.getElem?_eq_some_iff.1 h).1
theorem Blk.cell (h : Blk w g t cs) (i : Nat) : w.cell? ⟨g, i, none⟩ = cs[i]? := cell_of_row w g i cs t (0, 0) h
theorem Blk.at_ (h : Blk w g t cs) (i : Nat) {v : Value} (hv : cs[i]? = some v) : w.cell? ⟨g, i, none⟩ = some v := (h.cell i).trans hv
theorem Blk.free (h : Blk w g t cs) (i : Nat) : w.frozen? ⟨g, i, none⟩ = false := by unfold Blk at h; simp [World.frozen?, h]
theorem Blk.new (w : World) (t : TypeId) (cs : Array Value) : Blk (w.alloc (.cells cs t)) w.heap.size t cs := heap_alloc_new w _
theorem Blk.alloc (h : Blk w g t cs) (o : Obj) : Blk (w.alloc o) g t cs := (Below.heap_alloc w o g h.lt).trans h
theorem Blk.drewN (h : Blk w g t cs) (n : Nat) : Blk (w.drewN n) g t cs := h
theorem Blk.ext (h : Blk w g t cs) (e : Ext w w') : Blk w' g t cs := e.heap h
theorem Blk.set (h : Blk w g t cs) (i : Nat) (u : Value) : Blk (w.setCell ⟨g, i, none⟩ u) g t (cs.setIfInBounds i u) := by
  unfold Blk at h ⊢
  simp [World.setCell, Array.getElem?_modify, h]
theorem Blk.far (h : Blk w g t cs) {p : Addr} (hp : g ≠ p.block) (u : Value) : Blk (w.setCell p u) g t cs := (Below.heap_setCell w p u g hp).trans h
theorem Blk.grown {row : Option Nat} (h : Blk w g t cs) (hb : w.grownBy w' row) (hg : some g ≠ row) : Blk w' g t cs := (hb.block g h.lt hg).trans h
end

/-! ### 3. Numbers in cells -/
/-- element i of a list of numbers -/
def gI (xs : List Int) (i : Nat) : Int := xs.getD i 0
theorem gI_lt {xs : List Int} {i : Nat} (h : i < xs.length) : gI xs i = xs[i] := by simp [gI, List.getD_eq_getElem?_getD, h]
def nums (k : IntKind) (xs : List Int) : List Value := xs.map (Value.int k)
def numsA (k : IntKind) (xs : List Int) : Array Value := (nums k xs).toArray
theorem nums_length (k : IntKind) (xs : List Int) : (nums k xs).length = xs.length := by simp [nums]
theorem numsA_size (k : IntKind) (xs : List Int) : (numsA k xs).size = xs.length := by simp [numsA, nums]
theorem nums_at (k : IntKind) (xs : List Int) (i : Nat) (h : i < xs.length) : (nums k xs)[i]? = some (.int k (gI xs i)) := by
  simp [nums, List.getElem?_eq_getElem h, gI]
theorem numsA_at (k : IntKind) (xs : List Int) (i : Nat) (h : i < xs.length) : (numsA k xs)[i]? = some (.int k (gI xs i)) := by
  simp [numsA, nums, List.getElem?_eq_getElem h, gI]
theorem nums_append (k : IntKind) (xs ys : List Int) : nums k (xs ++ ys) = nums k xs ++ nums k ys := by simp [nums]
theorem numsA_set (k : IntKind) (xs : List Int) (i : Nat) (x : Int) : (numsA k xs).setIfInBounds i (.int k x) = numsA k (xs.set i x) := by
  simp [numsA, nums, List.map_set]
theorem one_nums (k : IntKind) (xs : List Int) : ∀ u ∈ nums k xs, u.oneCell' = true := by
  intro u hu
  obtain ⟨_, _, rfl⟩ := List.mem_map.1 hu
  rfl
theorem Blk.num {w : World} {g t : Nat} {k : IntKind} {xs : List Int} (h : Blk w g t (numsA k xs)) (i : Nat) (hi : i < xs.length) : w.cell? ⟨g, i, none⟩ = some (.int k (gI xs i)) :=
  h.at_ i (numsA_at k xs i hi)
/-- a byte -/
def B8 (xs : List Int) : Prop := ∀ x ∈ xs, 0 ≤ x ∧ x ≤ 255
theorem B8.get {xs : List Int} (h : B8 xs) (i : Nat) : 0 ≤ gI xs i ∧ gI xs i ≤ 255 := by
  unfold gI
  by_cases hi : i < xs.length
  · have := h (xs[i]) (List.getElem_mem hi); simpa [List.getD_eq_getElem?_getD, List.getElem?_eq_getElem hi] using this
  · simp [List.getD_eq_getElem?_getD, List.getElem?_eq_none (by omega : xs.length ≤ i)]
theorem take_eq_step {a b : List Int} {k : Nat} (ha : k < a.length) (hb : k < b.length) (h : a.take k = b.take k) (e : gI a k = gI b k) : a.take (k + 1) = b.take (k + 1) := by
  rw [List.take_succ_eq_append_getElem ha, List.take_succ_eq_append_getElem hb, h]
  rw [gI_lt ha, gI_lt hb] at e
  rw [e]
theorem set_take_step {xs ys : List Int} {k : Nat} (hx : k < xs.length) (hl : ys.length = xs.length) (h : ys.take k = xs.take k) : (ys.set k (gI xs k)).take (k + 1) = xs.take (k + 1) := by
  rw [List.take_succ_eq_append_getElem hx, List.take_succ_eq_append_getElem (by simpa [hl] using hx)]
  rw [List.take_set, List.set_eq_of_length_le (by simp; omega), h]
  simp [gI_lt hx]

/-! ### 4. Types without pointers -/
structure Ty (α : Type) where
  sz : Nat
  enc : α → List Value
  ok : α → Prop
  len : ∀ x, ok x → (enc x).length = sz
  one : ∀ x, ∀ u ∈ enc x, u.oneCell' = true
def tByte : Ty Int := ⟨1, fun x => [.int .u8 x], fun x => 0 ≤ x ∧ x ≤ 255, fun _ _ => rfl, fun _ u hu => by simp at hu; subst hu; rfl⟩
/-- a key -/
def K32 (k : List Int) : Prop := k.length = 32 ∧ B8 k
def tKey : Ty (List Int) := ⟨32, nums .u8, K32, fun x h => by rw [nums_length]; exact h.1, fun x => one_nums _ x⟩
def tEntry : Ty (ByteArray × ByteArray) := ⟨2, fun e => [.string e.1, .string e.2], fun _ => True, fun _ _ => rfl, fun _ u hu => by simp at hu; rcases hu with rfl | rfl <;> rfl⟩
theorem flat_length {α : Type} (T : Ty α) (xs : List α) (h : ∀ x ∈ xs, T.ok x) : (xs.flatMap T.enc).length = xs.length * T.sz := by
  induction xs with
  | nil => simp
  | cons x r ih =>
    simp only [List.flatMap_cons, List.length_append, List.length_cons, T.len x (h x (by simp)), ih (fun y hy => h y (by simp [hy])), Nat.add_mul]
    omega
theorem flat_at {α : Type} (T : Ty α) (xs : List α) (h : ∀ x ∈ xs, T.ok x) (i : Nat) (hi : i < xs.length) (j : Nat) (hj : j < T.sz) :
    (xs.flatMap T.enc)[i * T.sz + j]? = (T.enc xs[i])[j]? := by
  induction xs generalizing i with
  | nil => simp at hi
  | cons x r ih =>
    have hl := T.len x (h x (by simp))
    cases i with
    | zero => simp only [Nat.zero_mul, Nat.zero_add, List.flatMap_cons, List.getElem_cons_zero]; rw [List.getElem?_append_left (by omega)]
    | succ i =>
      simp only [List.flatMap_cons, List.getElem_cons_succ]
      rw [List.getElem?_append_right (by rw [hl, Nat.add_mul]; omega), hl, ← ih (fun y hy => h y (by simp [hy])) i (by simpa using hi)]
      congr 1
      rw [Nat.add_mul]
      omega
theorem flat_bytes (xs : List Int) : xs.flatMap tByte.enc = nums .u8 xs := by
  induction xs with
  | nil => rfl
  | cons x r ih => simp only [List.flatMap_cons, ih]; rfl

/-! ### 5. A slice that is read -/
/-- the slice '.slice A n _' holds the cells cs, and lies in a block with S -/
def Rd (w : World) (S : Nat → Prop) (sz : Nat) (A : Option Addr) (n : Nat) (cs : List Value) : Prop :=
  cs.length = n * sz ∧ (0 < n → ∃ g o, A = some ⟨g, o, none⟩ ∧ S g ∧ ∀ j u, cs[j]? = some u → w.cell? ⟨g, o + j, none⟩ = some u)
section
variable {w w' : World} {S S' : Nat → Prop} {sz n : Nat} {A : Option Addr} {cs : List Value}
theorem Rd.keep (h : Rd w S sz A n cs) (hk : ∀ g, S g → w'.heap[g]? = w.heap[g]?) : Rd w' S sz A n cs :=
  ⟨h.1, fun hn => by
    obtain ⟨g, o, e, hs, hc⟩ := h.2 hn
    exact ⟨g, o, e, hs, fun j u hu => (World.cell?_of_block (w := w) (hk g hs)).trans (hc j u hu)⟩⟩
theorem Rd.mono (h : Rd w S sz A n cs) (hk : ∀ g, S g → S' g) : Rd w S' sz A n cs :=
  ⟨h.1, fun hn => by
    obtain ⟨g, o, e, hs, hc⟩ := h.2 hn
    exact ⟨g, o, e, hk g hs, hc⟩⟩
/-- whatever is read lies in a block that is there -/
theorem Rd.old (h : Rd w S sz A n cs) (hz : 0 < sz) : Rd w (fun g => S g ∧ g < w.heap.size) sz A n cs :=
  ⟨h.1, fun hn => by
    obtain ⟨g, o, e, hs, hc⟩ := h.2 hn
    have hl : 0 < cs.length := by rw [h.1]; exact Nat.mul_pos hn hz
    exact ⟨g, o, e, ⟨hs, World.block_lt_of_cell? w _ (hc 0 _ (List.getElem?_eq_getElem hl))⟩, hc⟩⟩
theorem Rd.ext (h : Rd w S sz A n cs) (hz : 0 < sz) (e : Ext w w') : Rd w' S sz A n cs :=
  ((h.old hz).keep fun g hg => e.block g hg.2).mono fun _ hg => hg.1
theorem Rd.nil (w : World) (S : Nat → Prop) (sz : Nat) (A : Option Addr) : Rd w S sz A 0 [] := ⟨by simp, fun h => absurd h (by omega)⟩
/-- the cut from k on, its address as the machine spells it -/
theorem Rd.cut (h : Rd w S sz A n cs) {k cap : Nat} (hk : k ≤ n) (hc : n ≤ cap) : Rd w S sz (if cap = k then A else A.map (·.add (k * sz))) (n - k) (cs.drop (k * sz)) := by
  refine ⟨by rw [List.length_drop, h.1, Nat.sub_mul], fun hn => ?_⟩
  obtain ⟨g, o, rfl, hs, hcell⟩ := h.2 (by omega)
  rw [if_neg (by omega)]
  refine ⟨g, o + k * sz, by simp [Addr.add_lit], hs, fun j u hu => ?_⟩
  rw [Nat.add_assoc]
  exact hcell _ u (by rw [← hu, List.getElem?_drop])
/-- the first k -/
theorem Rd.head (h : Rd w S sz A n cs) {k : Nat} (hk : k ≤ n) : Rd w S sz A k (cs.take (k * sz)) := by
  refine ⟨by rw [List.length_take, h.1]; exact Nat.min_eq_left (Nat.mul_le_mul_right _ hk), fun hn => ?_⟩
  obtain ⟨g, o, e, hs, hc⟩ := h.2 (by omega)
  refine ⟨g, o, e, hs, fun j u hu => hc j u ?_⟩
  rw [List.getElem?_take] at hu
  split at hu
  · exact hu
  · cases hu
end
/-- the value v is a slice that reads as the list xs -/
def RdL {α : Type} (T : Ty α) (w : World) (S : Nat → Prop) (v : Value) (xs : List α) : Prop :=
  ∃ A cap, v = .slice A xs.length cap ∧ xs.length ≤ cap ∧ xs.length ≤ 140737488355328 ∧ Rd w S T.sz A xs.length (xs.flatMap T.enc) ∧ ∀ x ∈ xs, T.ok x
section
variable {α : Type} {T : Ty α} {w w' : World} {S S' : Nat → Prop} {v : Value} {xs : List α}
theorem RdL.keep (h : RdL T w S v xs) (hk : ∀ g, S g → w'.heap[g]? = w.heap[g]?) : RdL T w' S v xs := by
  obtain ⟨A, cap, e, h1, h2, h3, h4⟩ := h
  exact ⟨A, cap, e, h1, h2, h3.keep hk, h4⟩
theorem RdL.mono (h : RdL T w S v xs) (hk : ∀ g, S g → S' g) : RdL T w S' v xs := by
  obtain ⟨A, cap, e, h1, h2, h3, h4⟩ := h
  exact ⟨A, cap, e, h1, h2, h3.mono hk, h4⟩
theorem RdL.ext (h : RdL T w S v xs) (hz : 0 < T.sz) (e : Ext w w') : RdL T w' S v xs := by
  obtain ⟨A, cap, he, h1, h2, h3, h4⟩ := h
  exact ⟨A, cap, he, h1, h2, h3.ext hz e, h4⟩
end
/-- cell j of element i, where xs is not empty -/
theorem Rd.elem {α : Type} {T : Ty α} {w : World} {S : Nat → Prop} {A : Option Addr} {xs : List α} (h : Rd w S T.sz A xs.length (xs.flatMap T.enc)) (hok : ∀ x ∈ xs, T.ok x) (i : Nat) (hi : i < xs.length) :
    ∃ g o, A = some ⟨g, o, none⟩ ∧ S g ∧ ∀ j u, (T.enc xs[i])[j]? = some u → w.cell? ⟨g, o + i * T.sz + j, none⟩ = some u := by
  obtain ⟨g, o, e, hs, hc⟩ := h.2 (by omega)
  refine ⟨g, o, e, hs, fun j u hu => ?_⟩
  rw [Nat.add_assoc]
  refine hc _ u ?_
  have hj : j < T.sz := by
    have := (List.getElem?_eq_some_iff.1 hu).1
    rwa [T.len _ (hok _ (List.getElem_mem hi))] at this
  rw [flat_at T xs hok i hi j hj, hu]
theorem Rd.byte {w : World} {S : Nat → Prop} {A : Option Addr} {xs : List Int} (h : Rd w S 1 A xs.length (nums .u8 xs)) (i : Nat) (hi : i < xs.length) :
    ∃ g o, A = some ⟨g, o, none⟩ ∧ S g ∧ w.cell? ⟨g, o + i, none⟩ = some (.int .u8 (gI xs i)) := by
  obtain ⟨g, o, e, hs, hc⟩ := h.2 (by omega)
  exact ⟨g, o, e, hs, hc i _ (nums_at _ _ _ hi)⟩
/-- a cut out of the middle -/
theorem Rd.sub8 {w : World} {S : Nat → Prop} {g o n : Nat} {xs : List Int} (h : Rd w S 1 (some ⟨g, o, none⟩) n (nums .u8 xs)) (i m : Nat) (hm : i + m ≤ xs.length) :
    Rd w S tByte.sz (some ⟨g, o + i, none⟩) ((xs.drop i).take m).length (((xs.drop i).take m).flatMap tByte.enc) := by
  have hn : xs.length = n := by have := h.1; rw [nums_length] at this; omega
  rw [flat_bytes]
  refine ⟨by rw [nums_length]; exact (Nat.mul_one _).symm, fun hp => ?_⟩
  have hl : ((xs.drop i).take m).length = m := by simp; omega
  rw [hl] at hp
  obtain ⟨g', o', e, hs, hc⟩ := h.2 (by omega)
  injection e with e
  injection e with e1 e2
  subst e1
  subst e2
  refine ⟨g, o + i, rfl, hs, fun j u hu => ?_⟩
  rw [Nat.add_assoc]
  refine hc _ u ?_
  rw [← hu]
  have hj : j < m := by
    have := (List.getElem?_eq_some_iff.1 hu).1
    rwa [nums_length, hl] at this
  simp [nums, List.getElem?_take, hj]
/-- what is left behind the first k -/
theorem Rd.cut8 {w : World} {S : Nat → Prop} {g o n : Nat} {xs : List Int} (h : Rd w S 1 (some ⟨g, o, none⟩) n (nums .u8 xs)) (k cap : Nat) (hk : k ≤ n) (hc : n ≤ cap) :
    Rd w S 1 (if cap = k then some ⟨g, o, none⟩ else some ⟨g, o + k, none⟩) (xs.drop k).length (nums .u8 (xs.drop k)) := by
  have hn : xs.length = n := by have := h.1; rw [nums_length] at this; omega
  have h1 := h.cut hk hc
  have e : (if cap = k then some (⟨g, o, none⟩ : Addr) else (some (⟨g, o, none⟩ : Addr)).map (·.add (k * 1))) = if cap = k then some ⟨g, o, none⟩ else some ⟨g, o + k, none⟩ := by
    split
    · rfl
    · simp [Addr.add_lit]
  rw [e, Nat.mul_one] at h1
  have e2 : (nums .u8 xs).drop k = nums .u8 (xs.drop k) := by simp [nums]
  rwa [e2, ← hn, ← List.length_drop] at h1

/-! ### 6. A row of one's own -/
/-- v is nil or the head of a row from block base on that is one's own: its elements are xs -/
def Own {α : Type} (T : Ty α) (e : TypeId) (w : World) (base : Nat) (v : Value) (xs : List α) : Prop :=
  w.ownsRow base e T.sz v xs.length (xs.flatMap T.enc) ∧ xs.length ≤ 140737488355328 ∧ ∀ x ∈ xs, T.ok x
section
variable {α : Type} {T : Ty α} {e : TypeId} {w w' : World} {base base' : Nat} {v : Value} {xs : List α}
theorem Own.shape (h : Own T e w base v xs) : ∃ A cap, v = .slice A xs.length cap := by
  rcases h.1.2 with ⟨rfl, h0⟩ | ⟨g, cap, cur, rfl, _⟩
  · exact ⟨none, 0, by rw [h0]⟩
  · exact ⟨_, cap, rfl⟩
theorem Own.shape3 (h : Own T e w base v xs) : ∃ A n cap, v = .slice A n cap := by
  obtain ⟨A, c, rfl⟩ := h.shape
  exact ⟨_, _, _, rfl⟩
theorem Own.ext (h : Own T e w base v xs) (k : Ext w w') : Own T e w' base v xs :=
  ⟨h.1.kept (row := none) ⟨k.os, k.tape, k.output, k.size, fun i hi _ => k.block i hi⟩ (by cases v.ownBlock <;> simp), h.2⟩
theorem Own.drew (h : Own T e w base v xs) : Own T e w.drew base v xs := h
theorem Own.drewN (h : Own T e w base v xs) (n : Nat) : Own T e (w.drewN n) base v xs := h
theorem Own.alloc (h : Own T e w base v xs) (o : Obj) : Own T e (w.alloc o) base v xs := h.ext (ext_alloc w o)
theorem Own.kept {row : Option Nat} (h : Own T e w base v xs) (hg : w.grownBy w' row) (hne : v.ownBlock = none ∨ v.ownBlock ≠ row) : Own T e w' base v xs := ⟨h.1.kept hg hne, h.2⟩
theorem Own.base_le (h : Own T e w base v xs) (k : Nat) (hk : v.ownBlock = some k) : base ≤ k ∧ k < w.heap.size := h.1.lt k hk
theorem Own.le (h : Own T e w base v xs) (hb : base' ≤ base) : Own T e w base' v xs := by
  refine ⟨⟨h.1.1, ?_⟩, h.2⟩
  rcases h.1.2 with hn | ⟨g, cap, cur, h1, h2, r⟩
  · exact .inl hn
  · exact .inr ⟨g, cap, cur, h1, Nat.le_trans hb h2, r⟩
theorem Own.rd (h : Own T e w base v xs) : RdL T w (fun g => base ≤ g ∧ g < w.heap.size) v xs := by
  obtain ⟨⟨hl, hx⟩, h2, h3⟩ := h
  rcases hx with ⟨rfl, h0⟩ | ⟨g, cap, cur, rfl, hb, hg, hc, hm, hs, ht⟩
  · obtain rfl : xs = [] := List.eq_nil_of_length_eq_zero h0
    exact ⟨none, 0, rfl, Nat.le_refl _, by simp, Rd.nil _ _ _ _, h3⟩
  · refine ⟨_, cap, rfl, hc, h2, ⟨hl, fun hn => ⟨g, 0, rfl, ⟨hb, (Array.getElem?_eq_some_iff.1 hg).1⟩, fun j u hu => ?_⟩⟩, h3⟩
    rw [Nat.zero_add, cell_of_row w g j cur e (0, 0) hg]
    rw [← ht, List.getElem?_take] at hu
    split at hu
    · simpa using hu
    · cases hu
theorem Own.set_below (h : Own T e w base v xs) {p : Addr} (hp : p.block < base) (u : Value) : Own T e (w.setCell p u) base v xs := ⟨ownsRow_setCell_below h.1 hp u, h.2⟩
theorem Own.nil (T : Ty α) (e : TypeId) (w : World) (base : Nat) : Own T e w base (.slice none 0 0) ([] : List α) := ⟨World.ownsRow_nil _ _ _ _, by simp, by simp⟩
end

/-! ### 8. Whole structs and arrays: read, written, made -/
theorem Own.of_blk {α : Type} (T : Ty α) {w : World} {g e base : Nat} {xs : List α} (h : Blk w g e (xs.flatMap T.enc).toArray) (hb : base ≤ g) (hn : xs.length ≤ 140737488355328) (hok : ∀ x ∈ xs, T.ok x) :
    Own T e w base (.slice (some ⟨g, 0, none⟩) xs.length xs.length) xs :=
  ⟨⟨flat_length T xs hok, .inr ⟨g, xs.length, _, rfl, hb, h, Nat.le_refl _, by simp only [maxLen]; omega, by simp only [List.size_toArray]; exact flat_length T xs hok, by
    simp only []
    rw [← flat_length T xs hok, List.take_length]⟩⟩, hn, hok⟩
theorem Own.of_blk8 {w : World} {g e base : Nat} {xs : List Int} (h : Blk w g e (numsA .u8 xs)) (hb : base ≤ g) (hn : xs.length ≤ 140737488355328) (hok : B8 xs) :
    Own tByte e w base (.slice (some ⟨g, 0, none⟩) xs.length xs.length) xs :=
  Own.of_blk tByte (by rw [flat_bytes]; exact h) hb hn hok
/-- a literal of no elements -/
theorem Own.empty {α : Type} (T : Ty α) (w : World) (e base : Nat) (hb : base ≤ w.heap.size) : Own T e (w.alloc (.cells #[] e)) base (.slice (some ⟨w.heap.size, 0, none⟩) 0 0) ([] : List α) :=
  Own.of_blk T (xs := []) (by simpa using Blk.new w e #[]) hb (by simp) (by simp)
/-- t is a struct or an array of n cells -/
def Agg (P : Program) (t n : Nat) : Prop := (∃ d, P.underlying t = some d ∧ (match d with | .struct _ | .array _ _ => true | _ => false) = true) ∧ (P.info? t).map (·.size) = some n
section
variable {P : Program} {ops : Array Oper} {rest : List Oper} {o : Oper} {a : Act} {w : World} {Q : Exit → Act → World → Prop}
theorem run_loadVar_at {t : TypeId} (ad : Addr) (cs : List Value) (ht : Agg P t cs.length) (hc : ∀ j u, cs[j]? = some u → w.cell? (ad.add j) = some u) : (loadVar t ad).run P w = .ok (.agg cs.toArray) w := by
  obtain ⟨⟨d, hu, hd⟩, hs⟩ := ht
  have hl := run_loadCells_list (P := P) w ad cs hc
  cases hq : P.info? t with
  | none => simp [hq] at hs
  | some i =>
    have hs' : i.size = cs.length := by simpa [hq] using hs
    have hagg : (isAgg t).run P w = .ok true w := by
      unfold isAgg
      rw [Sem.run_bind, run_underlying hu w]
      cases d <;> simp_all
    simp [loadVar, Sem.run_bind, hagg, sizeOf, typeInfo, hq, hs', hl]
/-- a whole struct or array is loaded -/
theorem wpl_load {t : TypeId} (ad : Addr) (cs : List Value) (ht : Agg P t cs.length) (hgd : o.guard = none) (x : Operand) (ho : o.op = .load t x) (hx : a.eval x = .pointer (some ad))
    (hc : ∀ j u, cs[j]? = some u → w.cell? (ad.add j) = some u) (h : wpList P ops Q rest (a.put o.dst (.agg cs.toArray)) w) : wpList P ops Q (o :: rest) a w := by
  refine wpList_plain hgd fun K hK => ?_
  unfold Oper.wp execOp
  simp only [ho, hx, Instr.loadAt, Instr.sureAddr, Sem.run_bind, Sem.run_pure, Result.andThen_ok, run_loadVar_at ad cs ht hc]
  exact hK _ _ h
/-- cs with vs written from place o on -/
def splice (cs : Array Value) (o : Nat) (vs : List Value) : Array Value := (cs.toList.take o ++ vs ++ cs.toList.drop (o + vs.length)).toArray
theorem Blk.setRow {w : World} {g t : Nat} {cs : Array Value} (h : Blk w g t cs) (cs' : Array Value) : Blk (w.setRow g cs') g t cs' := setRow_heap w g cs cs' t _ h
theorem Blk.row_far {w : World} {g g' t : Nat} {cs : Array Value} (h : Blk w g t cs) (hg : g ≠ g') (cs' : Array Value) : Blk (w.setRow g' cs') g t cs := (setRow_other w g' g cs' hg).trans h
theorem Ext.setRow {a b : World} (h : Ext a b) {g : Nat} (hg : a.heap.size ≤ g) (cs : Array Value) : Ext a (b.setRow g cs) :=
  Below.trans h ⟨rfl, rfl, rfl, by simp, fun k hk => setRow_other b g k cs (by omega)⟩
theorem Ext.set {a b : World} (h : Ext a b) {p : Addr} (hg : a.heap.size ≤ p.block) (v : Value) : Ext a (b.setCell p v) := Below.setCell h hg v
theorem Ext.grown {a b c : World} {row : Option Nat} (h : Ext a b) (hg : b.grownBy c row) (hr : ∀ k, row = some k → a.heap.size ≤ k) : Ext a c := Below.grown h hg h.size hr
/-- a whole struct or array is stored into a block of one's own -/
theorem wpl_store {t : TypeId} (g off e : Nat) (cur : Array Value) (vs : List Value) (hs : (P.info? t).map (·.size) = some vs.length) (hgd : o.guard = none) (x y : Operand) (ho : o.op = .store t x y)
    (hx : a.eval x = .pointer (some ⟨g, off, none⟩)) (hy : (a.eval y).cells = vs.toArray) (hb : Blk w g e cur) (hl : off + vs.length ≤ cur.size) (h1 : ∀ u ∈ vs, u.oneCell' = true)
    (hd : o.dst = none) (h : wpList P ops Q rest a (w.setRow g (splice cur off vs))) : wpList P ops Q (o :: rest) a w := by
  refine wpList_plain hgd fun K hK => ?_
  have hrun := run_storeCells_at P g off e vs 0 cur w hb (by simpa using hl) h1
  simp only [Nat.add_zero] at hrun
  cases hq : P.info? t with
  | none => simp [hq] at hs
  | some i =>
    have hs' : i.size = vs.length := by simpa [hq] using hs
    unfold Oper.wp execOp
    simp only [ho, hx, Instr.storeAt, Instr.sureAddr, Sem.run_bind, Sem.run_pure, Result.andThen_ok]
    have hst : (storeVar t ⟨g, off, none⟩ (a.eval y)).run P w = .ok () (w.setRow g (splice cur off vs)) := by
      simp only [storeVar, Sem.run_bind, sizeOf, typeInfo]
      simp [hq, hs', hy, hrun, splice]
    rw [hst]
    simp only [Result.andThen_ok, Sem.run_pure]
    have := hK _ _ h
    simpa [hd, Act.put, Oper.upon] using this
/-- a new variable of a struct's or an array's type -/
theorem wpl_alloc {t : TypeId} (z : Array Value) (hz : (P.info? t).map (·.zero) = some (some (.agg z))) (hgd : o.guard = none) (ho : o.op = .alloc t)
    (h : wpList P ops Q rest (a.put o.dst (.pointer (some ⟨w.heap.size, 0, none⟩))) (w.alloc (.cells z t))) : wpList P ops Q (o :: rest) a w := by
  refine wpList_plain hgd fun K hK => ?_
  cases hq : P.info? t with
  | none => simp [hq] at hz
  | some i =>
    have hz' : i.zero = some (.agg z) := by simpa [hq] using hz
    have hrun : (Instr.alloc t true (.tuple #[])).run P w = .ok (.pointer (some ⟨w.heap.size, 0, none⟩)) (w.alloc (.cells z t)) := by
      simp [Instr.alloc, zeroValue, typeInfo, hq, hz', newVar, newRow, Value.cells]
    unfold Oper.wp execOp
    simp only [ho, Sem.run_bind, hrun, Result.andThen_ok, Sem.run_pure]
    exact hK _ _ h
end

/-! ### 9. What may be written -/
/-- v is a slice of n elements of sz cells each, in a block from lo on that is not frozen -/
def Wr (w : World) (lo sz : Nat) (v : Value) (n : Nat) : Prop :=
  ∃ A cap, v = .slice A n cap ∧ n ≤ cap ∧ n ≤ 140737488355328 ∧ (0 < n → ∃ g o cur t, A = some ⟨g, o, none⟩ ∧ lo ≤ g ∧ Blk w g t cur ∧ o + n * sz ≤ cur.size)
theorem Own.wr {α : Type} {T : Ty α} {e : TypeId} {w : World} {base : Nat} {v : Value} {xs : List α} (h : Own T e w base v xs) : Wr w base T.sz v xs.length := by
  obtain ⟨⟨hl, hx⟩, h2, h3⟩ := h
  rcases hx with ⟨rfl, h0⟩ | ⟨g, cap, cur, rfl, hb, hg, hc, hm, hs, ht⟩
  · exact ⟨none, 0, by rw [h0], by omega, h2, fun h => by omega⟩
  · exact ⟨_, cap, rfl, hc, h2, fun _ => ⟨g, 0, cur, e, rfl, hb, hg, by rw [hs, Nat.zero_add]; exact Nat.mul_le_mul_right _ hc⟩⟩
theorem Wr.kept {w w' : World} {lo sz n : Nat} {v : Value} (h : Wr w lo sz v n) (hk : ∀ g, lo ≤ g → g < w.heap.size → w'.heap[g]? = w.heap[g]?) : Wr w' lo sz v n := by
  obtain ⟨A, cap, e, h0, h1, h2⟩ := h
  refine ⟨A, cap, e, h0, h1, fun hn => ?_⟩
  obtain ⟨g, o, cur, t, e1, e2, e3, e4⟩ := h2 hn
  exact ⟨g, o, cur, t, e1, e2, (hk g e2 e3.lt).trans e3, e4⟩
theorem Wr.ext {w w' : World} {lo sz n : Nat} {v : Value} (h : Wr w lo sz v n) (e : Ext w w') : Wr w' lo sz v n := h.kept fun g _ hg => e.block g hg
theorem grown_set {w w' : World} {g i : Nat} (h : w.grownBy w' (some g)) (v : Value) : w.grownBy (w'.setCell ⟨g, i, none⟩ v) (some g) :=
  ⟨h.os, h.tape, h.output, by have := h.size; simpa using this, fun k hk hne => (Below.heap_setCell _ _ _ _ (fun e => hne (by rw [e]))).trans (h.block k hk hne)⟩
theorem grown_refl (w : World) (row : Option Nat) : w.grownBy w row := ⟨rfl, rfl, rfl, Nat.le_refl _, fun _ _ _ => rfl⟩
theorem grown_trans {a b c : World} {row : Option Nat} (h : a.grownBy b row) (k : b.grownBy c row) : a.grownBy c row :=
  ⟨k.os.trans h.os, k.tape.trans h.tape, k.output.trans h.output, Nat.le_trans h.size k.size, fun i hi hn => (k.block i (Nat.lt_of_lt_of_le hi h.size) hn).trans (h.block i hi hn)⟩
theorem grown_ext {a b c : World} {row : Option Nat} (h : a.grownBy b row) (k : Ext b c) : a.grownBy c row :=
  grown_trans h ⟨k.os, k.tape, k.output, k.size, fun i hi _ => k.block i hi⟩
theorem ext_grown {a b : World} (row : Option Nat) (k : Ext a b) : a.grownBy b row := ⟨k.os, k.tape, k.output, k.size, fun i hi _ => k.block i hi⟩
/-- the marks k, k + 1, .. -/
def marks (k : Int) (n : Nat) : List Int := (List.range n).map fun (i : Nat) => (k + (i : Int)) % 256
theorem marks_length (k : Int) (n : Nat) : (marks k n).length = n := by simp [marks]
theorem marks_ok (k : Int) (n : Nat) : B8 (marks k n) := by
  intro x hx
  obtain ⟨i, _, rfl⟩ := List.mem_map.1 hx
  omega
theorem marks_at (k : Int) (n i : Nat) (h : i < n) : gI (marks k n) i = (k + i) % 256 := by
  rw [gI_lt (by rw [marks_length]; exact h)]; simp [marks]

/-! ### 10. append onto a row of one's own -/
/-- t is the type of slices of e, whose elements take T.sz cells and so many bytes -/
structure Row {α : Type} (P : Program) (T : Ty α) (t e : TypeId) (bytes : Nat) : Prop where
  ht : P.underlying t = some (.slice e)
  info : ∃ i z, P.info? e = some i ∧ i.zero = some z ∧ i.size = T.sz ∧ i.bytes = bytes ∧ z.cells.size = T.sz
  sz : 0 < T.sz
  by_ : 0 < bytes
theorem Row.mk' {α : Type} {P : Program} {T : Ty α} {t e : TypeId} {bytes : Nat} (ht : P.underlying t = some (.slice e)) (z : Value) (hi : (P.info? e).map (fun i => (i.zero, i.size, i.bytes)) = some (some z, T.sz, bytes)) (hz : z.cells.size = T.sz) (h1 : 0 < T.sz) (h2 : 0 < bytes) : Row P T t e bytes := by
  obtain ⟨i, a, b, c, d⟩ := info_parts hi
  exact ⟨ht, ⟨i, z, a, b, c, d, hz⟩, h1, h2⟩
section
variable {α : Type} {P : Program} {T : Ty α} {t e : TypeId} {bytes : Nat}
theorem run_append (R : Row P T t e bytes) (ty : TypeId) {w : World} {base : Nat} {v : Value} {xs : List α} (ho : Own T e w base v xs) {S : Nat → Prop} {A : Option Addr} (c : Nat) {ys : List α}
    (hr : Rd w S T.sz A ys.length (ys.flatMap T.enc)) (hok : ∀ y ∈ ys, T.ok y) (hl : (xs.length + ys.length) * bytes ≤ 140737488355328) (hb : base ≤ w.heap.size) :
    ∃ v' w', (Builtin.append_ #[t, t] ty #[v, .slice A ys.length c]).run P w = .ok v' w' ∧ Own T e w' base v' (xs ++ ys) ∧ w.grownBy w' v.ownBlock ∧ (v'.ownBlock = v.ownBlock ∨ v'.ownBlock = some w.heap.size) := by
  obtain ⟨i, z, hi, hz, hs, hby, hzs⟩ := R.info
  have hlen : xs.length + ys.length ≤ 140737488355328 := Nat.le_trans (Nat.le_mul_of_pos_right _ R.by_) hl
  rcases A with _ | ad
  · have h0 : ys.length = 0 := by
      rcases Nat.eq_zero_or_pos ys.length with h0 | h0
      · exact h0
      · obtain ⟨g, o, h, _⟩ := hr.2 h0
        cases h
    obtain rfl : ys = [] := List.eq_nil_of_length_eq_zero h0
    refine ⟨v, w, ?_, by simpa using ho, grown_refl _ _, .inl rfl⟩
    rcases ho.1.2 with ⟨rfl, hn⟩ | ⟨g, cap, cur, rfl, _, _, hnc, _⟩
    · simp [Builtin.append_, run_underlying R.ht, sizeOf, typeInfo, hi, Builtin.lenOf, Builtin.firstCells]
    · simp [Builtin.append_, run_underlying R.ht, sizeOf, typeInfo, hi, Builtin.lenOf, Builtin.firstCells, hnc, storeCells]
  · have hcells : ∀ j u, (ys.flatMap T.enc)[j]? = some u → w.cell? (ad.add j) = some u := by
      intro j u hu
      have hj : 0 < ys.length := by
        rcases Nat.eq_zero_or_pos ys.length with h0 | h0
        · obtain rfl : ys = [] := List.eq_nil_of_length_eq_zero h0
          simp at hu
        · exact h0
      obtain ⟨g, o, h, _, hc⟩ := hr.2 hj
      injection h with h
      subst h
      rw [Addr.add_lit]
      exact hc j u hu
    have h1 : ∀ u ∈ ys.flatMap T.enc, u.oneCell' = true := by
      intro u hu
      obtain ⟨y, _, hy⟩ := List.mem_flatMap.1 hu
      exact T.one y u hy
    obtain ⟨v', w', hrun, h2, h3, _, h5⟩ := run_append_own_at (P := P) w base t ty e i z T.sz bytes R.ht hi hz hs hby hzs R.sz v xs.length (xs.flatMap T.enc) ho.1 ad ys.length c (ys.flatMap T.enc) hr.1 hcells h1 (by simp only [maxLen]; omega) hl hb
    refine ⟨v', w', hrun, ⟨by simpa using h2, by simp; omega, fun x hx => ?_⟩, h3, h5⟩
    rcases List.mem_append.1 hx with hx | hx
    · exact ho.2.2 x hx
    · exact hok x hx
theorem wpl_append (R : Row P T t e bytes) {ops : Array Oper} {rest : List Oper} {o : Oper} {a : Act} {w : World} {Q : Exit → Act → World → Prop} (hgd : o.guard = none) (s x : Operand)
    (hop : o.op = .call { callee := .builtin .append, args := #[s, x], argTypes := #[t, t] })
    {base : Nat} {v : Value} {xs : List α} (hs : a.eval s = v) (ho : Own T e w base v xs) {S : Nat → Prop} {A : Option Addr} (m c : Nat) {ys : List α} (hx : a.eval x = .slice A m c) (hm : m = ys.length)
    (hr : Rd w S T.sz A ys.length (ys.flatMap T.enc)) (hok : ∀ y ∈ ys, T.ok y) (hl : (xs.length + ys.length) * bytes ≤ 140737488355328) (hb : base ≤ w.heap.size)
    (h : ∀ v' w', Own T e w' base v' (xs ++ ys) → w.grownBy w' v.ownBlock → (v'.ownBlock = v.ownBlock ∨ v'.ownBlock = some w.heap.size) → wpList P ops Q rest (a.put o.dst v') w') : wpList P ops Q (o :: rest) a w := by
  subst hm
  obtain ⟨v', w', hrun, h1, h2, h3⟩ := run_append R o.type ho c hr hok hl hb
  refine wpList_plain hgd fun K hK => ?_
  unfold Oper.wp execOp
  simp only [hop, resolve, invoke, builtin, Sem.run_bind, Sem.run_pure, Result.andThen_ok, List.map_toArray, List.map_cons, List.map_nil, hs, hx, hrun]
  exact hK _ _ (h v' w' h1 h2 h3)
end
/-- the same as one step of a region that draws its order -/
theorem stp_append {α : Type} {P : Program} {T : Ty α} {t e : TypeId} {bytes : Nat} (R : Row P T t e bytes) {ops : Array Oper} {o : Oper} {a : Act} {w : World} {K : Act → World → Prop} {Q : Exit → Act → World → Prop} {E : Prop} (hgd : o.guard = none) (s x : Operand)
    (hop : o.op = .call { callee := .builtin .append, args := #[s, x], argTypes := #[t, t] })
    {base : Nat} {v : Value} {xs : List α} (hs : a.eval s = v) (ho : Own T e w base v xs) {S : Nat → Prop} {A : Option Addr} (m c : Nat) {ys : List α} (hx : a.eval x = .slice A m c) (hm : m = ys.length)
    (hr : Rd w S T.sz A ys.length (ys.flatMap T.enc)) (hok : ∀ y ∈ ys, T.ok y) (hl : (xs.length + ys.length) * bytes ≤ 140737488355328) (hb : base ≤ w.heap.size)
    (h : ∀ v' w', Own T e w' base v' (xs ++ ys) → w.grownBy w' v.ownBlock → (v'.ownBlock = v.ownBlock ∨ v'.ownBlock = some w.heap.size) → K (a.put o.dst v') w') :
    if Region.wanted o (yielded ops a.tmps) = true then Oper.wp P o a w K Q else E := by
  subst hm
  obtain ⟨v', w', hrun, h1, h2, h3⟩ := run_append R o.type ho c hr hok hl hb
  have hw : Region.wanted o (yielded ops a.tmps) = true := by simp [Region.wanted, hgd]
  rw [if_pos hw]
  unfold Oper.wp execOp
  simp only [hop, resolve, invoke, builtin, Sem.run_bind, Sem.run_pure, Result.andThen_ok, List.map_toArray, List.map_cons, List.map_nil, hs, hx, hrun]
  exact h v' w' h1 h2 h3
/-- the same onto the empty literal -/
theorem Ext.app {w0 w w' : World} {v : Value} (h : Ext w0 w) (hv : ∀ k, v.ownBlock = some k → w0.heap.size ≤ k) (hg : w.grownBy w' v.ownBlock) : Ext w0 w' := h.grown hg hv
/-- how long a slice is -/
def lenV : Value → Nat
  | .slice _ n _ => n
  | _ => 0
/-- behind an append: the world has grown, if the row is one's own -/
theorem Own.ext_app {α : Type} {T : Ty α} {e : TypeId} {w0 w w' : World} {v : Value} {xs : List α} (h : Ext w0 w) (ho : Own T e w w0.heap.size v xs) (hg : w.grownBy w' v.ownBlock) : Ext w0 w' :=
  h.grown hg fun k hk => (ho.base_le k hk).1
/-- an element of a row of one's own bytes: where it lies, that it may be written, and what is written there -/
theorem Own.byte {e : TypeId} {w : World} {base : Nat} {v : Value} {xs : List Int} (h : Own tByte e w base v xs) (k : Nat) (hk : k < xs.length) :
    ∃ g cap, v = .slice (some ⟨g, 0, none⟩) xs.length cap ∧ base ≤ g ∧ g < w.heap.size ∧ w.cell? ⟨g, k, none⟩ = some (.int .u8 (gI xs k)) ∧ w.frozen? ⟨g, k, none⟩ = false ∧
      ∀ x : Int, 0 ≤ x → x ≤ 255 → Own tByte e (w.setCell ⟨g, k, none⟩ (.int .u8 x)) base v (xs.set k x) := by
  obtain ⟨h1, h2, h3⟩ := h
  rw [flat_bytes] at h1
  rcases h1.2 with ⟨rfl, h0⟩ | ⟨g, cap, cur, rfl, hb, hg, hc, hm, hs, ht⟩
  · omega
  · refine ⟨g, cap, rfl, hb, (Array.getElem?_eq_some_iff.1 hg).1, ?_, by simp [World.frozen?, hg], fun x hx0 hx1 => ⟨?_, by simpa using h2, ?_⟩⟩
    · have := h1.cells (g := g) rfl k _ (nums_at .u8 xs k hk)
      rwa [Addr.add_lit, Nat.zero_add] at this
    · rw [flat_bytes]
      have := (h1.stored k (.int .u8 x)).1
      simpa [nums, List.map_set, tByte] using this
    · intro y hy
      rcases List.mem_or_eq_of_mem_set hy with hy | rfl
      · exact h3 y hy
      · exact ⟨hx0, hx1⟩
/-- what was there before and what is new lie apart -/
theorem Own.apart {α β : Type} {T : Ty α} {T' : Ty β} {e e' : TypeId} {w w' : World} {base base' : Nat} {v v' : Value} {xs : List α} {ys : List β} (h : Own T e w base v xs) (h' : Own T' e' w' base' v' ys) (hb : w.heap.size ≤ base') : v.ownBlock = none ∨ v.ownBlock ≠ v'.ownBlock := by
  cases hv : v.ownBlock with
  | none => exact .inl rfl
  | some k =>
    refine .inr fun e => ?_
    have h1 := (h.base_le k hv).2
    have h2 := (h'.base_le k e.symm).1
    omega
theorem Own.apart' {α β : Type} {T : Ty α} {T' : Ty β} {e e' : TypeId} {w w' : World} {base base' : Nat} {v v' : Value} {xs : List α} {ys : List β} (h : Own T e w base v xs) (h' : Own T' e' w' base' v' ys) (hb : w.heap.size ≤ base') : v'.ownBlock = none ∨ v'.ownBlock ≠ v.ownBlock := by
  cases hv : v'.ownBlock with
  | none => exact .inl rfl
  | some k =>
    refine .inr fun e => ?_
    have h1 := (h.base_le k e.symm).2
    have h2 := (h'.base_le k hv).1
    omega
/-- one element in a block of its own, ready to be appended -/
theorem rd_one {α : Type} {T : Ty α} (w : World) (x : α) (hx : T.ok x) (t : TypeId) : Rd (w.alloc (.cells (T.enc x).toArray t)) (fun _ => True) T.sz (some ⟨w.heap.size, 0, none⟩) [x].length ([x].flatMap T.enc) := by
  refine ⟨by simp [T.len x hx], fun _ => ⟨_, 0, rfl, trivial, fun j u hu => ?_⟩⟩
  rw [Nat.zero_add, (Blk.new w t _).cell]
  simpa using hu

/-! ### 7. Ways a call ends -/
theorem ret_int {k : IntKind} {a b : Int} (h : a = b) : Ending.returned (.int k a) = .returned (.int k b) := by rw [h]
theorem ret_bool {a b : Bool} (h : a = b) : Ending.returned (.bool a) = .returned (.bool b) := by rw [h]

end Go.Proofs.Yteegnbdgfedajaa
/- How the arguments of a law read: from the row's own reading to lists, numbers and strings. No condition. -/
namespace Go.Proofs.Yteegnbdgfedajaa
open Go.RowKit Go.ChangeShapes Go.WideShapes Go.Deep
set_option linter.unusedVariables false
set_option linter.unusedSimpArgs false

/-- what cells say -/
abbrev Cd (α : Type) := World → (Nat → Prop) → List Value → α → Prop
def cInt (k : IntKind) : Cd Int := fun _ _ cs x => cs = [.int k x] ∧ (Lit.int k x).wf = true
def cBool : Cd Bool := fun _ _ cs x => cs = [.bool x]
def cStr : Cd ByteArray := fun _ _ cs s => cs = [.string s] ∧ s.size ≤ 140737488351232
def cArr8 (n : Nat) : Cd (List Int) := fun _ _ cs xs => cs = nums .u8 xs ∧ xs.length = n ∧ B8 xs
def cPair {α β : Type} (c : Cd α) (d : Cd β) : Cd (α × β) := fun w S cs x => ∃ c1 c2, cs = c1 ++ c2 ∧ c w S c1 x.1 ∧ d w S c2 x.2
def cSl {α : Type} (sz : Nat) (c : Cd α) : Cd (List α) := fun w S cs xs => ∃ A cap, cs = [.slice A xs.length cap] ∧ xs.length ≤ cap ∧ xs.length ≤ 140737488351232 ∧
  (0 < xs.length → ∃ g o, A = some ⟨g, o, none⟩ ∧ S g ∧ ∀ i (h : i < xs.length), ∃ es, es.length = sz ∧ (∀ j u, es[j]? = some u → w.cell? ⟨g, o + i * sz + j, none⟩ = some u) ∧ c w S es xs[i])

/-- what a row's reading of type t gives -/
def Opens {α : Type} (P : Program) (t : TypeId) (c : Cd α) : Prop :=
  ∀ (H : Type) (enc : TypeId × Value → H) (w : World) (base : Nat) (spare : Nat → Bool) (held : Bool) (fuel : Nat) (cs : List Value) (x : DataW H × List MemPlace),
    DataW.trod enc P w base spare held fuel t cs = some x → (∀ n ∈ x.1.weights P t, n ≤ reachBytes) → ∃ y, c w (fun g => g < w.heap.size) cs y

theorem opens_int {P : Program} {t : TypeId} {k : IntKind} (ht : P.underlying t = some (.int k)) : Opens P t (cInt k) := by
  intro H enc w base spare held fuel cs x h _
  obtain ⟨n, rfl, rfl, hw⟩ := DataW.trod_int ht h
  exact ⟨n, rfl, hw⟩
theorem opens_bool {P : Program} {t : TypeId} (ht : P.underlying t = some .bool) : Opens P t cBool := by
  intro H enc w base spare held fuel cs x h _
  obtain ⟨n, rfl, rfl⟩ := DataW.trod_bool ht h
  exact ⟨n, rfl⟩
theorem opens_str {P : Program} {t : TypeId} (ht : P.underlying t = some .string) : Opens P t cStr := by
  intro H enc w base spare held fuel cs x h hw
  obtain ⟨s, rfl, rfl, _⟩ := DataW.trod_string ht h
  refine ⟨s, rfl, ?_⟩
  have h2 : s.data.toList.length ≤ reachBytes := hw _ (by simp [DataW.weights])
  have h3 : s.data.toList.length = s.size := by rw [Array.length_toList]; rfl
  have h4 : reachBytes = 140737488351232 := by decide
  omega
theorem wf_u8 {n : Int} (h : (Lit.int .u8 n).wf = true) : 0 ≤ n ∧ n ≤ 255 := by
  simpa [Lit.wf, IntKind.min, IntKind.max, IntKind.signed, IntKind.bits] using h
theorem opens_arr8 {P : Program} {t e : TypeId} {n : Nat} (ht : P.underlying t = some (.array n e)) (he : P.underlying e = some (.int .u8)) (hc : P.cellsOf e = 1) (hn : P.cellsOf t = n) : Opens P t (cArr8 n) := by
  intro H enc w base spare held fuel cs x h _
  obtain ⟨xs, m, rfl, rfl, hl, hx, hi⟩ := DataW.trod_array ht h
  rw [hn] at hl
  rw [hc] at hi
  have key : ∀ i (h : i < cs.length), ∃ q, cs[i] = .int .u8 q ∧ 0 ≤ q ∧ q ≤ 255 := by
    intro i hin
    have h1 := hi i (by omega)
    rw [List.getElem?_eq_getElem (by omega : i < xs.length)] at h1
    obtain ⟨q, hq, _, hw⟩ := DataW.trod_int he h1
    rw [Nat.mul_one, List.drop_eq_getElem_cons hin] at hq
    have h3 : (cs[i] :: cs.drop (i + 1)).take 1 = [cs[i]] := rfl
    rw [h3] at hq
    exact ⟨q, by simpa using hq, wf_u8 hw⟩
  clear hi h hx
  have : ∃ ys, cs = nums .u8 ys ∧ B8 ys := by
    clear hl
    induction cs with
    | nil => exact ⟨[], rfl, by intro x hx; cases hx⟩
    | cons v r ih =>
      obtain ⟨ys, e, hb⟩ := ih (fun i hin => key (i + 1) (by simpa using hin))
      obtain ⟨q, hq, h0⟩ := key 0 (by simp)
      simp at hq
      refine ⟨q :: ys, by simp [nums, hq, e], fun z hz => ?_⟩
      rcases List.mem_cons.1 hz with rfl | hz
      · exact h0
      · exact hb z hz
  obtain ⟨ys, rfl, hb⟩ := this
  rw [nums_length] at hl
  exact ⟨ys, rfl, hl, hb⟩
theorem opens_struct2 {α β : Type} {P : Program} {t : TypeId} {f g : Field} {c : Cd α} {d : Cd β} (ht : P.underlying t = some (.struct #[f, g])) (h0 : f.offset = 0) (h1 : g.offset = P.cellsOf f.type) (hc : P.cellsOf t = P.cellsOf f.type + P.cellsOf g.type)
    (hf : Opens P f.type c) (hg : Opens P g.type d) : Opens P t (cPair c d) := by
  intro H enc w base spare held fuel cs x h hw
  obtain ⟨xs, m, rfl, rfl, hl, hx, hi⟩ := DataW.trod_struct ht h
  match xs, hx with
  | [y0, y1], _ =>
    have e0 := hi 0 f rfl
    have e1 := hi 1 g rfl
    simp only [List.getElem?_cons_zero, List.getElem?_cons_succ] at e0 e1
    rw [h0, List.drop_zero] at e0
    rw [h1, List.take_of_length_le (by rw [List.length_drop]; omega)] at e1
    obtain ⟨a, ha⟩ := hf _ _ _ _ _ _ _ _ _ e0 (fun n hn => hw n (by simp [DataW.weights, ht, DataW.weightsEach, hn]))
    obtain ⟨b, hb⟩ := hg _ _ _ _ _ _ _ _ _ e1 (fun n hn => hw n (by simp [DataW.weights, ht, DataW.weightsEach, hn]))
    exact ⟨(a, b), _, _, (List.take_append_drop _ _).symm, ha, hb⟩
theorem opens_struct3 {α β γ : Type} {P : Program} {t : TypeId} {f g k : Field} {c : Cd α} {d : Cd β} {b : Cd γ} (ht : P.underlying t = some (.struct #[f, g, k])) (h0 : f.offset = 0) (h1 : g.offset = P.cellsOf f.type) (h2 : k.offset = P.cellsOf f.type + P.cellsOf g.type) (hc : P.cellsOf t = P.cellsOf f.type + P.cellsOf g.type + P.cellsOf k.type)
    (hf : Opens P f.type c) (hg : Opens P g.type d) (hk : Opens P k.type b) : Opens P t (cPair c (cPair d b)) := by
  intro H enc w base spare held fuel cs x h hw
  obtain ⟨xs, m, rfl, rfl, hl, hx, hi⟩ := DataW.trod_struct ht h
  match xs, hx with
  | [y0, y1, y2], _ =>
    have e0 := hi 0 f rfl
    have e1 := hi 1 g rfl
    have e2 := hi 2 k rfl
    simp only [List.getElem?_cons_zero, List.getElem?_cons_succ] at e0 e1 e2
    rw [h0, List.drop_zero] at e0
    rw [h1] at e1
    rw [h2, List.take_of_length_le (by rw [List.length_drop]; omega)] at e2
    obtain ⟨a, ha⟩ := hf _ _ _ _ _ _ _ _ _ e0 (fun n hn => hw n (by simp [DataW.weights, ht, DataW.weightsEach, hn]))
    obtain ⟨b', hb⟩ := hg _ _ _ _ _ _ _ _ _ e1 (fun n hn => hw n (by simp [DataW.weights, ht, DataW.weightsEach, hn]))
    obtain ⟨q, hq⟩ := hk _ _ _ _ _ _ _ _ _ e2 (fun n hn => hw n (by simp [DataW.weights, ht, DataW.weightsEach, hn]))
    refine ⟨(a, b', q), _, _, (List.take_append_drop (P.cellsOf f.type) _).symm, ha, _, _, ?_, hb, hq⟩
    rw [← List.drop_drop]
    exact (List.take_append_drop _ _).symm
theorem opens_struct4 {α β γ δ : Type} {P : Program} {t : TypeId} {f g k l : Field} {c : Cd α} {d : Cd β} {b : Cd γ} {r : Cd δ} (ht : P.underlying t = some (.struct #[f, g, k, l])) (h0 : f.offset = 0) (h1 : g.offset = P.cellsOf f.type) (h2 : k.offset = P.cellsOf f.type + P.cellsOf g.type) (h3 : l.offset = P.cellsOf f.type + P.cellsOf g.type + P.cellsOf k.type) (hc : P.cellsOf t = P.cellsOf f.type + P.cellsOf g.type + P.cellsOf k.type + P.cellsOf l.type)
    (hf : Opens P f.type c) (hg : Opens P g.type d) (hk : Opens P k.type b) (hr : Opens P l.type r) : Opens P t (cPair c (cPair d (cPair b r))) := by
  intro H enc w base spare held fuel cs x h hw
  obtain ⟨xs, m, rfl, rfl, hl, hx, hi⟩ := DataW.trod_struct ht h
  match xs, hx with
  | [y0, y1, y2, y3], _ =>
    have e0 := hi 0 f rfl
    have e1 := hi 1 g rfl
    have e2 := hi 2 k rfl
    have e3 := hi 3 l rfl
    simp only [List.getElem?_cons_zero, List.getElem?_cons_succ] at e0 e1 e2 e3
    rw [h0, List.drop_zero] at e0
    rw [h1] at e1
    rw [h2] at e2
    rw [h3, List.take_of_length_le (by rw [List.length_drop]; omega)] at e3
    obtain ⟨a, ha⟩ := hf _ _ _ _ _ _ _ _ _ e0 (fun n hn => hw n (by simp [DataW.weights, ht, DataW.weightsEach, hn]))
    obtain ⟨b', hb⟩ := hg _ _ _ _ _ _ _ _ _ e1 (fun n hn => hw n (by simp [DataW.weights, ht, DataW.weightsEach, hn]))
    obtain ⟨q, hq⟩ := hk _ _ _ _ _ _ _ _ _ e2 (fun n hn => hw n (by simp [DataW.weights, ht, DataW.weightsEach, hn]))
    obtain ⟨z, hz⟩ := hr _ _ _ _ _ _ _ _ _ e3 (fun n hn => hw n (by simp [DataW.weights, ht, DataW.weightsEach, hn]))
    refine ⟨(a, b', q, z), _, _, (List.take_append_drop (P.cellsOf f.type) _).symm, ha, _, cs.drop (P.cellsOf f.type + P.cellsOf g.type), ?_, hb, _, _, ?_, hq, hz⟩
    · have h4 := List.take_append_drop (P.cellsOf g.type) (cs.drop (P.cellsOf f.type))
      rw [List.drop_drop] at h4
      exact h4.symm
    · have h4 := List.take_append_drop (P.cellsOf k.type) (cs.drop (P.cellsOf f.type + P.cellsOf g.type))
      rw [List.drop_drop] at h4
      exact h4.symm
theorem weightsAll_mem {H : Type} {P : Program} {e : TypeId} {l : List (DataW H)} {d : DataW H} (hd : d ∈ l) {n : Nat} (hn : n ∈ d.weights P e) : n ∈ DataW.weightsAll P e l := by
  induction l with
  | nil => cases hd
  | cons x r ih =>
    simp only [DataW.weightsAll, List.mem_append]
    rcases List.mem_cons.1 hd with rfl | hd
    · exact .inl hn
    · exact .inr (ih hd)
theorem opens_slice {α : Type} {P : Program} {t e : TypeId} {c : Cd α} {sz : Nat} (ht : P.underlying t = some (.slice e)) (hs : P.cellsOf e = sz) (hb : 0 < P.bytesOf e) (hz : 0 < sz) (hc : Opens P e c) : Opens P t (cSl sz c) := by
  intro H enc w base spare held fuel cs x h hw
  rcases open_slice ht h with ⟨rfl, rfl⟩ | ⟨a, len, cap, m, n, D, Pl, rfl, _, hlc, hcm, hm, rfl, hi⟩
  · exact ⟨[], none, 0, rfl, Nat.le_refl _, by simp, fun h => absurd h (by simp)⟩
  · have hlm : len ≤ m := by rw [hm]; split <;> omega
    have hwl : len ≤ 140737488351232 := by
      have h1 := hw ((((List.range len).map D).length + ((List.range (m - len)).map fun j => D (len + j)).length) * P.bytesOf e) (by simp [DataW.weights, ht])
      have h4 : reachBytes = 140737488351232 := by decide
      simp at h1
      have : len * 1 ≤ (len + (m - len)) * P.bytesOf e := Nat.mul_le_mul (by omega) hb
      omega
    have key : ∀ i, i < len → ∃ y es, es.length = sz ∧ (∀ j u, es[j]? = some u → w.cell? ((a.add (i * sz)).add j) = some u) ∧ c w (fun g => g < w.heap.size) es y := by
      intro i hil
      obtain ⟨cs', h1, h2⟩ := hi i (by omega)
      rw [hs] at h1
      obtain ⟨_, hcl, hat⟩ := World.cells?_some h1
      obtain ⟨y, hy⟩ := hc _ _ _ _ _ _ _ _ _ h2 (fun q hq => hw q (by
        simp only [DataW.weights, ht, List.mem_cons, List.mem_append]
        exact .inr (.inl (weightsAll_mem (List.mem_map.2 ⟨i, List.mem_range.2 hil, rfl⟩) hq))))
      refine ⟨y, cs', hcl, fun j u hu => ?_, hy⟩
      have hj : j < sz := by have := (List.getElem?_eq_some_iff.1 hu).1; omega
      rw [hat j hj, hu]
    rcases Nat.eq_zero_or_pos len with h0 | h0
    · subst h0
      exact ⟨[], some a, cap, rfl, Nat.zero_le _, by simp, fun h => absurd h (by simp)⟩
    · classical
      have hsp : a.spot = none := by
        obtain ⟨y, es, hel, hat, _⟩ := key 0 h0
        have h1 := hat 0 _ (List.getElem?_eq_getElem (by omega))
        simp only [Nat.zero_mul, Addr.add, if_true] at h1
        unfold World.cell? at h1
        split at h1
        · split at h1
          · cases h1
          · rename_i hne; simpa using hne
        · cases h1
      obtain ⟨g, o, sp⟩ := a
      simp at hsp
      subst hsp
      let Y : Nat → α := fun i => if h : i < len then (key i h).choose else (key 0 h0).choose
      have hY : ∀ i (h : i < len), ∃ es, es.length = sz ∧ (∀ j u, es[j]? = some u → w.cell? ⟨g, o + i * sz + j, none⟩ = some u) ∧ c w (fun g => g < w.heap.size) es (Y i) := by
        intro i h
        obtain ⟨es, h1, h2, h3⟩ := (key i h).choose_spec
        refine ⟨es, h1, fun j u hu => ?_, by simpa [Y, h] using h3⟩
        have := h2 j u hu
        simpa [Addr.add_lit] using this
      refine ⟨(List.range len).map Y, some ⟨g, o, none⟩, cap, by simp, by simpa using hlc, by simpa using hwl, fun _ => ⟨g, o, rfl, ?_, fun i hil => ?_⟩⟩
      · obtain ⟨es, h1, h2, _⟩ := hY 0 h0
        exact World.block_lt_of_cell? w _ (h2 0 _ (List.getElem?_eq_getElem (by omega)))
      · simp at hil
        simpa using hY i hil
/-- a slice of a type without pointers -/
theorem rdl_of {α : Type} {T : Ty α} {c : Cd α} {w : World} {S : Nat → Prop} {v : Value} {xs : List α} (hc : ∀ es x, c w S es x → es = T.enc x ∧ T.ok x) (h : cSl T.sz c w S [v] xs) : RdL T w S v xs := by
  obtain ⟨A, cap, hv, h1, h2, h3⟩ := h
  obtain rfl : v = .slice A xs.length cap := by simpa using hv
  have hok : ∀ x ∈ xs, T.ok x := by
    intro x hx
    obtain ⟨i, hi, rfl⟩ := List.getElem_of_mem hx
    obtain ⟨g, o, _, _, h4⟩ := h3 (by omega)
    obtain ⟨es, _, _, h5⟩ := h4 i hi
    exact (hc _ _ h5).2
  refine ⟨A, cap, rfl, h1, by omega, ⟨flat_length T xs hok, fun hn => ?_⟩, hok⟩
  obtain ⟨g, o, e, hS, h4⟩ := h3 hn
  refine ⟨g, o, e, hS, fun q u hu => ?_⟩
  have hq : q < xs.length * T.sz := by
    have := (List.getElem?_eq_some_iff.1 hu).1
    rwa [flat_length T xs hok] at this
  have hz : 0 < T.sz := by
    rcases Nat.eq_zero_or_pos T.sz with h0 | h0
    · rw [h0] at hq; omega
    · exact h0
  have hi : q / T.sz < xs.length := (Nat.div_lt_iff_lt_mul hz).2 hq
  have hd : q / T.sz * T.sz + q % T.sz = q := by rw [Nat.mul_comm]; exact Nat.div_add_mod q T.sz
  obtain ⟨es, _, h6, h7⟩ := h4 (q / T.sz) hi
  rw [← hd, flat_at T xs hok _ hi _ (Nat.mod_lt _ hz), ← (hc _ _ h7).1] at hu
  have := h6 _ u hu
  rwa [Nat.add_assoc, hd] at this
theorem c_byte : ∀ {w : World} {S : Nat → Prop} (es : List Value) (x : Int), cInt .u8 w S es x → es = tByte.enc x ∧ tByte.ok x := fun es x h => ⟨h.1, wf_u8 h.2⟩
theorem c_key : ∀ {w : World} {S : Nat → Prop} (es : List Value) (x : List Int), cArr8 32 w S es x → es = tKey.enc x ∧ tKey.ok x := fun es x h => ⟨h.1, h.2⟩
theorem c_entry : ∀ {w : World} {S : Nat → Prop} (es : List Value) (x : ByteArray × ByteArray), cPair cStr cStr w S es x → es = tEntry.enc x ∧ tEntry.ok x := by
  rintro w S es x ⟨c1, c2, rfl, ⟨rfl, _⟩, rfl, _⟩
  exact ⟨rfl, trivial⟩

/-- an argument, opened -/
theorem open_arg {α : Type} {P : Program} {t : TypeId} {c : Cd α} (ho : Opens P t c) {H : Type} {enc : TypeId × Value → H} {w : World} {base : Nat} {spare : Nat → Bool} {held : Bool} {v : Value} {d : DataW H} {ps : List MemPlace} {ts : List TypeId} {ds : List (DataW H)} {j : Nat}
    (hsz : (DataW.weightsEach P ts ds).all (· ≤ reachBytes) = true) (ht : ts[j]? = some t) (hd : ds[j]? = some d) (h : DataW.Trod enc P w base spare held t v d ps) : ∃ y, c w (fun g => g < w.heap.size) v.cells.toList y := by
  obtain ⟨fuel, hf⟩ := h
  exact ho _ _ _ _ _ _ _ _ _ hf fun n hn => by simpa using List.all_eq_true.1 hsz n (DataW.weights_mem_each ht hd n hn)
theorem okWide_arr {P : Program} {w : World} {r : Reach} {base : Nat} {t e : TypeId} {n : Nat} {v : Value} (ht : P.underlying t = some (.array n e)) (h : Value.okWide P w r base t v) : ∃ cs, v = .agg cs := by
  simp only [Value.okWide, ht] at h
  obtain ⟨cs, h1, _⟩ := h
  exact ⟨cs, h1⟩
theorem agg_of {cs : Array Value} {l : List Value} (h : (Value.agg cs).cells.toList = l) : Value.agg cs = .agg l.toArray := by
  subst h
  simp [Value.cells]

end Go.Proofs.Yteegnbdgfedajaa
/- Whole arrays of numbers: read, written, returned. No condition. -/
namespace Go.Proofs.Yteegnbdgfedajaa
open Go.RowKit
set_option linter.unusedVariables false
set_option linter.unusedSimpArgs false

theorem Blk.new' {g : Nat} {w : World} (hg : g = w.heap.size) (t : TypeId) (cs : Array Value) : Blk (w.alloc (.cells cs t)) g t cs := by subst hg; exact Blk.new w t cs
theorem Agg.mk' {P : Program} {t n : Nat} {e : TypeId} {m : Nat} (h : P.underlying t = some (.array m e)) (hs : (P.info? t).map (·.size) = some n) : Agg P t n := ⟨⟨_, h, rfl⟩, hs⟩
theorem aggU32 : Agg Try.prog 155 8 := Agg.mk' (e := 154) (m := 8) (by kernel_rfl) (by kernel_rfl)
theorem aggB32 : Agg Try.prog 39 32 := Agg.mk' (e := 5) (m := 32) (by kernel_rfl) (by kernel_rfl)
theorem aggKey : Agg Try.prog 40 32 := Agg.mk' (e := 5) (m := 32) (by kernel_rfl) (by kernel_rfl)
section
variable {P : Program} {ops : Array Oper} {rest : List Oper} {o : Oper} {a : Act} {w : World} {Q : Exit → Act → World → Prop}
theorem wpl_loadN {t g e : Nat} {k : IntKind} {xs : List Int} (hb : Blk w g e (numsA k xs)) {n : Nat} (ht : Agg P t n) (hn : xs.length = n) (hgd : o.guard = none) (x : Operand) (ho : o.op = .load t x) (hx : a.eval x = .pointer (some ⟨g, 0, none⟩))
    (h : wpList P ops Q rest (a.put o.dst (.agg (numsA k xs))) w) : wpList P ops Q (o :: rest) a w := by
  subst hn
  refine wpl_load ⟨g, 0, none⟩ (nums k xs) (by rw [nums_length]; exact ht) hgd x ho hx (fun j u hu => ?_) h
  rw [Addr.add_lit, Nat.zero_add, hb.cell]
  simpa [numsA] using hu
theorem splice_all (cur : Array Value) (vs : List Value) (h : cur.size = vs.length) : splice cur 0 vs = vs.toArray := by
  unfold splice
  rw [List.take_zero, List.nil_append, Nat.zero_add, List.drop_eq_nil_of_le (by simp; omega), List.append_nil]
theorem wpl_storeN {t g e : Nat} {k : IntKind} {xs : List Int} {cur : Array Value} (hb : Blk w g e cur) {n : Nat} (ht : Agg P t n) (hn : xs.length = n) (hl : cur.size = n) (hgd : o.guard = none) (x y : Operand) (ho : o.op = .store t x y) (hx : a.eval x = .pointer (some ⟨g, 0, none⟩))
    (hy : a.eval y = .agg (numsA k xs)) (hd : o.dst = none) (h : wpList P ops Q rest a (w.setRow g (numsA k xs))) : wpList P ops Q (o :: rest) a w := by
  refine wpl_store g 0 e cur (nums k xs) (by rw [nums_length, hn]; exact ht.2) hgd x y ho hx (by rw [hy]; rfl) hb (by rw [nums_length]; omega) (one_nums k xs) hd ?_
  rwa [splice_all _ _ (by rw [nums_length]; omega)]
/-- a whole array in a variable is the result -/
theorem results_blk {fn : Func} {c : Tmp} {t g e : Nat} {k : IntKind} {xs : List Int} (hr : fn.results = #[.cell c t]) (tmps : Array Value) (hp : tmps.getD c undef = .pointer (some ⟨g, 0, none⟩)) {n : Nat} (ht : Agg P t n) (hn : xs.length = n) (hb : Blk w g e (numsA k xs)) :
    (results fn tmps).run P w = .ok (.agg (numsA k xs)) w := by
  obtain ⟨⟨d, hu, hd⟩, hi⟩ := ht
  exact results_cell_row hr tmps w g e _ (0, 0) d hp hb hu (by cases d <;> simp_all) (by rw [hi, numsA_size, hn])
end
theorem zero32 : (#[Value.int .u8 0, Value.int .u8 0, Value.int .u8 0, Value.int .u8 0, Value.int .u8 0, Value.int .u8 0, Value.int .u8 0, Value.int .u8 0, Value.int .u8 0, Value.int .u8 0, Value.int .u8 0, Value.int .u8 0, Value.int .u8 0, Value.int .u8 0, Value.int .u8 0, Value.int .u8 0, Value.int .u8 0, Value.int .u8 0, Value.int .u8 0, Value.int .u8 0, Value.int .u8 0, Value.int .u8 0, Value.int .u8 0, Value.int .u8 0, Value.int .u8 0, Value.int .u8 0, Value.int .u8 0, Value.int .u8 0, Value.int .u8 0, Value.int .u8 0, Value.int .u8 0, Value.int .u8 0] : Array Value) = numsA .u8 (List.replicate 32 0) := by simp only [numsA, nums, List.replicate_succ, List.replicate_zero, List.map_cons, List.map_nil]
theorem numsA_inj {k : IntKind} {xs ys : List Int} (h : xs = ys) : Value.agg (numsA k xs) = .agg (numsA k ys) := by rw [h]

end Go.Proofs.Yteegnbdgfedajaa
/- The laws' own words on lists of bytes: counted, copied, held against each other, marked. No condition. -/
namespace Go.Proofs.Yteegnbdgfedajaa
open Go.RowKit
set_option linter.unusedVariables false
set_option linter.unusedSimpArgs false

theorem made_nums (k : IntKind) (n : Nat) : madeCells #[.int k 0] n = numsA k (List.replicate n 0) := by
  apply Array.ext
  · simp [madeCells, numsA, nums]
  · intro i h1 h2
    simp [madeCells, numsA, nums, Nat.mod_one]
theorem make_bytes (m : Nat) (hm : m ≤ 140737488355328) : ∀ W : World, (Instr.makeSlice 22 (.int .i64 (m : Int)) (.int .i64 (m : Int))).run Try.prog W =
    .ok (.slice (some ⟨W.heap.size, 0, none⟩) m m) (W.alloc (.cells (numsA .u8 (List.replicate m 0)) 5)) := by
  intro W
  rw [← made_nums]
  exact run_make_row' 22 5 (.int .u8 0) 1 Try.underlying22 (by kernel_rfl) rfl .i64 .i64 m (by omega) (by omega) W

set_option maxHeartbeats 400000 in
theorem szByteS_any (A : Option Addr) (n c : Nat) (l : Int) (hn : (n : Int) ≤ 140737488355328) (h0 : -1 ≤ l) (h1 : l ≤ 1048576) (w : World) :
    Calls Try.prog 72 #[.slice A n c, .int .i64 l] w fun e w' => e = .returned (.int .i64 (if l - n < 0 then -1 else l - n)) ∧ w = w' := by
  go_enter Try.func72, Try.ntmps72
  go_wp2
  all_goals go_ret
  all_goals exact ⟨rfl, rfl⟩

set_option maxHeartbeats 400000 in
theorem toByteS_any (v : Value) (xs : List Int) (w : World) (S : Nat → Prop) (h : RdL tByte w S v xs) :
    Calls Try.prog 10 #[v] w fun e w' => ∃ v', e = .returned v' ∧ Own tByte 5 w' w.heap.size v' xs ∧ Ext w w' := by
  obtain ⟨A, cap, rfl, hcap, hlen, hrd, hok⟩ := h
  have hm := make_bytes xs.length hlen
  have hrd1 : Rd w S 1 A xs.length (nums .u8 xs) := by rw [← flat_bytes]; exact hrd
  have Hrd := Lib.hid hrd1
  clear hrd hrd1
  go_enter Try.func10, Try.ntmps10
  go_wp2
  go_loopw [4] (fun i wr => ∃ k : Nat, k ≤ xs.length ∧ i = .int .i64 k ∧ (∃ ys, Blk wr w.heap.size 5 (numsA .u8 ys) ∧ ys.length = xs.length ∧ ys.take k = xs.take k) ∧ Ext w wr)
    (fun i _ => xs.length - (intOf i).toNat)
  case atStart => exact ⟨0, by omega, rfl, ⟨_, Blk.new _ _ _, by simp, by simp⟩, ext_alloc _ _⟩
  case round =>
    obtain ⟨k, hk, rfl, ⟨ys, hB, hyl, hyt⟩, hx⟩ := hrel
    have Hyl := Lib.hid hyl
    have Hyt := Lib.hid hyt
    have Hx := Lib.hid hx
    clear hm hyl hyt hx
    by_cases hlt : k < xs.length
    · obtain ⟨g, o, rfl, hs, hc⟩ := (Hrd.out).byte k hlt
      have hc' := Hx.out.cell hc
      have hd := hB.num k (by rw [Hyl.out]; exact hlt)
      have hf := hB.free k
      have HB := Lib.hid hB
      clear hB hc
      go_wp2
      go_roundw
      case rel => exact ⟨k + 1, by omega, by go_num, ⟨ys.set k (gI xs k), by rw [← numsA_set]; exact HB.out.set k _, by simp [Hyl.out], set_take_step hlt Hyl.out Hyt.out⟩, Hx.out.set (by simp) _⟩
      case measure => simp [intOf]; omega
    · have HB := Lib.hid hB
      clear hB
      go_wp2
      go_ret
      obtain rfl : k = xs.length := by omega
      have e := Hyt.out
      rw [List.take_of_length_le (by rw [Hyl.out]; omega), List.take_of_length_le (by omega)] at e
      subst e
      exact ⟨_, rfl, Own.of_blk8 HB.out (Nat.le_refl _) hlen hok, Hx.out⟩

set_option maxHeartbeats 400000 in
theorem eqByteS_any (v u : Value) (xs ys : List Int) (w : World) (S S' : Nat → Prop) (h : RdL tByte w S v xs) (h' : RdL tByte w S' u ys) :
    Calls Try.prog 12 #[v, u] w fun e w' => e = .returned (.bool (xs == ys)) ∧ Drawn w w' := by
  obtain ⟨A, cap, rfl, hcap, hlen, hrd, hok⟩ := h
  obtain ⟨A', cap', rfl, hcap', hlen', hrd', hok'⟩ := h'
  have Hrd := Lib.hid (show Rd w S 1 A xs.length (nums .u8 xs) by rw [← flat_bytes]; exact hrd)
  have Hrd' := Lib.hid (show Rd w S' 1 A' ys.length (nums .u8 ys) by rw [← flat_bytes]; exact hrd')
  clear hrd hrd'
  by_cases hl : xs.length = ys.length
  · have Hl := Lib.hid hl
    have hl1 : ((xs.length : Int) != (ys.length : Int)) = false := by simp [hl]
    clear hl
    go_enter Try.func12, Try.ntmps12
    go_wp2
    go_loopw [5] (fun i wr => ∃ k : Nat, k ≤ xs.length ∧ i = .int .i64 k ∧ xs.take k = ys.take k ∧ Drawn w wr)
      (fun i _ => xs.length - (intOf i).toNat)
    case atStart => exact ⟨0, by omega, rfl, by simp, Drawn.refl _⟩
    case round =>
      obtain ⟨k, hk, rfl, ht, hD⟩ := hrel
      have Ht := Lib.hid ht
      have HD := Lib.hid hD
      clear ht hl1 hD
      by_cases hlt : k < xs.length
      · have hlt' : k < ys.length := by rw [← Hl.out]; exact hlt
        obtain ⟨g, o, rfl, hs, hc⟩ := (Hrd.out).byte k hlt
        obtain ⟨g', o', rfl, hs', hc'⟩ := (Hrd'.out).byte k hlt'
        have hd := HD.out.ext.cell hc
        have hd' := HD.out.ext.cell hc'
        clear hc hc'
        by_cases he : gI xs k = gI ys k
        · have He := Lib.hid he
          have hne : (gI xs k != gI ys k) = false := by simpa using he
          clear he
          go_wp2
          go_quiet (fail)
          go_wp2
          go_roundw
          case rel => exact ⟨k + 1, by omega, by go_num, take_eq_step hlt hlt' Ht.out He.out, HD.out.drewN _⟩
          case measure => simp [intOf]; omega
        · have He := Lib.hid he
          have hne : (gI xs k != gI ys k) = true := by simpa using he
          clear he
          go_wp2
          go_quiet (fail)
          go_wp2
          go_ret
          exact ⟨by rw [beq_eq_false_iff_ne.2 (fun h => He.out (by rw [h]))]; rfl, HD.out.drewN _⟩
      · go_wp2
        go_ret
        obtain rfl : k = xs.length := by omega
        refine ⟨?_, HD.out⟩
        have e := Ht.out
        rw [List.take_of_length_le (by omega), List.take_of_length_le (by rw [Hl.out]; omega)] at e
        subst e; simp
  · have Hl := Lib.hid hl
    have hl1 : ((xs.length : Int) != (ys.length : Int)) = true := by simp; omega
    clear hl
    go_enter Try.func12, Try.ntmps12
    go_wp2
    go_ret
    exact ⟨by rw [beq_eq_false_iff_ne.2 (fun h => Hl.out (by rw [h]))]; rfl, Drawn.refl _⟩


set_option maxHeartbeats 400000 in
theorem markByteS_any (v : Value) (n : Nat) (m : Int) (w : World) (lo : Nat) (h : Wr w lo 1 v n) (hm : 0 ≤ m) (hmn : m + n ≤ 1000000000000000) :
    Calls Try.prog 13 #[v, .int .i64 m] w fun e w' => e = .returned (.int .i64 (m + n)) ∧ RdL tByte w' (fun g => lo ≤ g ∧ some g = v.ownBlock) v (marks m n) ∧ w.grownBy w' v.ownBlock := by
  obtain ⟨A, cap, rfl, hcap, hlen, hw⟩ := h
  have HW := Lib.hid hw
  clear hw
  by_cases h0 : n = 0
  · subst h0
    go_enter Try.func13, Try.ntmps13
    go_wp2
    go_loopw [1, 5] (fun q i wr => q = .int .i64 m ∧ i = .int .i64 0 ∧ wr = w) (fun _ _ _ => 0)
    case atStart => exact ⟨rfl, rfl, rfl⟩
    case round =>
      obtain ⟨rfl, rfl, rfl⟩ := hrel
      go_wp2
      go_ret
      exact ⟨ret_int (by simp), ⟨A, cap, rfl, hcap, Nat.zero_le _, Rd.nil _ _ _ _, fun x hx => by cases hx⟩, grown_refl _ _⟩
  · obtain ⟨g, o, cur, t, rfl, hlo, hB, hsz⟩ := HW.out (by omega)
    have HB := Lib.hid hB
    clear hB
    go_enter Try.func13, Try.ntmps13
    go_wp2
    go_loopw [1, 5] (fun q i wr => ∃ k : Nat, k ≤ n ∧ q = .int .i64 (m + k) ∧ i = .int .i64 k ∧ (∃ cur', Blk wr g t cur' ∧ cur'.size = cur.size ∧ ∀ j, j < k → cur'[o + j]? = some (.int .u8 ((m + j) % 256))) ∧ w.grownBy wr (some g))
      (fun _ i _ => n - (intOf i).toNat)
    case atStart => exact ⟨0, by omega, by simp, rfl, ⟨cur, HB.out, rfl, fun j hj => by omega⟩, grown_refl _ _⟩
    case round =>
      obtain ⟨k, hk, rfl, rfl, ⟨cur', hB', hs', hc'⟩, hg⟩ := hrel
      have HG := Lib.hid hg
      have HC := Lib.hid hc'
      have HS := Lib.hid hs'
      clear hg hc' hs'
      by_cases hlt : k < n
      · have hin : o + k < cur'.size := by rw [HS.out]; omega
        have hcell : wr.cell? ⟨g, o + k, none⟩ = some cur'[o + k] := hB'.at_ _ (Array.getElem?_eq_getElem hin)
        have hfr := hB'.free (o + k)
        have HB' := Lib.hid hB'
        clear hB'
        go_wp2
        go_roundw
        case rel => exact ⟨k + 1, by omega, by go_num, by go_num, ⟨_, HB'.out.set (o + k) _, by simp [HS.out], fun j hj => by
          by_cases hjk : j = k
          · subst hjk; simp [hin]
          · rw [Array.getElem?_setIfInBounds_ne (by omega)]; exact HC.out j (by omega)⟩, grown_set HG.out _⟩
        case measure => simp [intOf]; omega
      · have HB' := Lib.hid hB'
        clear hB'
        go_wp2
        go_ret
        obtain rfl : k = n := by omega
        refine ⟨rfl, ⟨_, cap, by rw [marks_length], by rw [marks_length]; exact hcap, by rw [marks_length]; exact hlen, ?_, marks_ok m k⟩, HG.out⟩
        rw [flat_bytes, marks_length]
        refine ⟨by rw [nums_length, marks_length]; exact (Nat.mul_one _).symm, fun _ => ⟨g, o, rfl, ⟨hlo, rfl⟩, fun j u hu => ?_⟩⟩
        have hj : j < k := by have := (List.getElem?_eq_some_iff.1 hu).1; rwa [nums_length, marks_length] at this
        rw [nums_at _ _ _ (by rw [marks_length]; exact hj), marks_at _ _ _ hj] at hu
        rw [HB'.out.cell, HC.out j hj, hu]

set_option maxHeartbeats 400000 in
theorem heldByteS_any (v : Value) (n : Nat) (m : Int) (w : World) (S : Nat → Prop) (h : RdL tByte w S v (marks m n)) (hm : 0 ≤ m) (hmn : m + n ≤ 1000000000000000) :
    Calls Try.prog 14 #[v, .int .i64 m] w fun e w' => e = .returned (.int .i64 (m + n)) ∧ Drawn w w' := by
  obtain ⟨A, cap, rfl, hcap, hlen, hrd, hok⟩ := h
  rw [flat_bytes] at hrd
  rw [marks_length] at hlen hcap
  have Hrd := Lib.hid hrd
  clear hrd
  rw [marks_length]
  go_enter Try.func14, Try.ntmps14
  go_wp2
  go_loopw [1, 5] (fun q i wr => ∃ k : Nat, k ≤ n ∧ q = .int .i64 (m + k) ∧ i = .int .i64 k ∧ Drawn w wr) (fun _ i _ => n - (intOf i).toNat)
  case atStart => exact ⟨0, by omega, by simp, rfl, Drawn.refl _⟩
  case round =>
    obtain ⟨k, hk, rfl, rfl, hD⟩ := hrel
    have HD := Lib.hid hD
    clear hD
    by_cases hlt : k < n
    · obtain ⟨g, o, rfl, hs, hc⟩ := (Hrd.out).byte k (by rw [marks_length]; exact hlt)
      rw [marks_at _ _ _ hlt] at hc
      have hd := HD.out.ext.cell hc
      clear hc
      have hne : (((m + k) % 256 : Int) != (m + k) % 256) = false := by simp
      go_wp2
      go_roundw
      case rel => exact ⟨k + 1, by omega, by go_num, by go_num, HD.out⟩
      case measure => simp [intOf]; omega
    · go_wp2
      go_ret
      obtain rfl : k = n := by omega
      exact ⟨rfl, HD.out⟩

end Go.Proofs.Yteegnbdgfedajaa
/- Keys: held against each other, copied. No condition. -/
namespace Go.Proofs.Yteegnbdgfedajaa
open Go.RowKit
set_option linter.unusedVariables false
set_option linter.unusedSimpArgs false

theorem setRow_alloc (w : World) (cs cs' : Array Value) (t : TypeId) : (w.alloc (.cells cs t)).setRow w.heap.size cs' = w.alloc (.cells cs' t) := by
  unfold World.setRow World.alloc
  congr 1
  apply Array.ext
  · simp
  · intro i h1 h2
    simp only [Array.getElem_modify, Array.getElem_push]
    simp only [Array.size_push] at h2
    by_cases h : i < w.heap.size
    · rw [if_neg (by omega)]; simp [h]
    · have : i = w.heap.size := by omega
      subst this
      simp
/-- a whole array is stored into the variable that has just been made -/
theorem wpl_storeNew {P : Program} {ops : Array Oper} {rest : List Oper} {o : Oper} {a : Act} {w : World} {Q : Exit → Act → World → Prop} {t e : Nat} {k : IntKind} {xs : List Int} {cur : Array Value} {n : Nat} (ht : Agg P t n) (hn : xs.length = n) (hl : cur.size = n) (hgd : o.guard = none) (x y : Operand) (ho : o.op = .store t x y) (hx : a.eval x = .pointer (some ⟨w.heap.size, 0, none⟩))
    (hy : a.eval y = .agg (numsA k xs)) (hd : o.dst = none) (h : wpList P ops Q rest a (w.alloc (.cells (numsA k xs) e))) : wpList P ops Q (o :: rest) a (w.alloc (.cells cur e)) := by
  refine wpl_storeN (Blk.new w e cur) ht hn hl hgd x y ho hx hy hd ?_
  rw [setRow_alloc]
  exact h
/-- a whole array in a variable and a number are the results -/
theorem results_blk2 {P : Program} {w : World} {fn : Func} {c d : Tmp} {t g e : Nat} {k : IntKind} {xs : List Int} (hr : fn.results = #[.cell c t, .tmp d]) (tmps : Array Value) (hp : tmps.getD c undef = .pointer (some ⟨g, 0, none⟩)) {n : Nat} (ht : Agg P t n) (hn : xs.length = n) (hb : Blk w g e (numsA k xs)) {v : Value} (hv : tmps.getD d undef = v) :
    (results fn tmps).run P w = .ok (.tuple #[.agg (numsA k xs), v]) w := by
  have hl := run_loadVar_at (P := P) (w := w) (t := t) ⟨g, 0, none⟩ (nums k xs) (by rw [nums_length, hn]; exact ht) (fun j u hu => by
    rw [Addr.add_lit, Nat.zero_add, hb.cell]
    simpa [numsA] using hu)
  have hp' : tmps[c]?.getD undef = .pointer (some ⟨g, 0, none⟩) := by simpa using hp
  have hv' : tmps[d]?.getD undef = v := by simpa using hv
  simp [results, hr, hp', hv', asAddr, hl, numsA]
/-- the store of a whole array, as an equation for the walk -/
theorem run_storeN (P : Program) {w : World} {g e n : Nat} {k : IntKind} {xs : List Int} {cur : Array Value} (hb : Blk w g e cur) (hn : xs.length = n) (hl : cur.size = n) :
    (storeCells ⟨g, 0, none⟩ (numsA k xs).toList).run P w = .ok () (w.setRow g (numsA k xs)) := by
  have hrun := run_storeCells_at P g 0 e (nums k xs) 0 cur w hb (by rw [nums_length]; omega) (one_nums k xs)
  have hsp := splice_all cur (nums k xs) (by rw [nums_length]; omega)
  unfold splice at hsp
  simp only [Nat.add_zero, hsp] at hrun
  simpa [numsA] using hrun
theorem sizeN {k : IntKind} {xs : List Int} {n : Nat} (h : xs.length = n) : (numsA k xs).size = n := by rw [numsA_size, h]
set_option maxHeartbeats 1000000 in
set_option maxRecDepth 100000 in
theorem eqKey_any (a b : List Int) (ha : K32 a) (hb : K32 b) (w : World) :
    Calls Try.prog 59 #[.agg (numsA .u8 a), .agg (numsA .u8 b)] w fun e w' => e = .returned (.bool (a == b)) ∧ Ext w w' := by
  have HA := Lib.hid ha.1
  have HB := Lib.hid hb.1
  go_enter Try.func59, Try.ntmps59
  go_wp2
  go_loopw [5] (fun i wr => ∃ k : Nat, k ≤ 32 ∧ i = .int .i64 k ∧ a.take k = b.take k ∧ Blk wr w.heap.size 40 (numsA .u8 a) ∧ Blk wr (w.heap.size + 1) 40 (numsA .u8 b) ∧ Ext w wr)
    (fun i _ => 32 - (intOf i).toNat)
  case atStart => exact ⟨0, by omega, rfl, by simp, (Blk.new w _ _).alloc _, Blk.new' (by simp) _ _, (ext_alloc _ _).alloc _⟩
  case round =>
    obtain ⟨k, hk, rfl, ht, h1, h2, hx⟩ := hrel
    have Ht := Lib.hid ht
    have HX := Lib.hid hx
    have H1 := Lib.hid h1
    have H2 := Lib.hid h2
    clear ht h1 h2 hx
    by_cases hlt : k < 32
    · have hd := H1.out.num k (by rw [HA.out]; exact hlt)
      have hd' := H2.out.num k (by rw [HB.out]; exact hlt)
      by_cases he : gI a k = gI b k
      · have He := Lib.hid he
        have hne : (gI a k != gI b k) = false := by simpa using he
        clear he
        go_wp2
        go_quiet (fail)
        go_wp2
        go_roundw
        case rel => exact ⟨k + 1, by omega, by go_num, take_eq_step (by rw [HA.out]; exact hlt) (by rw [HB.out]; exact hlt) Ht.out He.out, H1.out, H2.out, HX.out.drewN _⟩
        case measure => simp [intOf]; omega
      · have He := Lib.hid he
        have hne : (gI a k != gI b k) = true := by simpa using he
        clear he
        go_wp2
        go_quiet (fail)
        go_wp2
        go_ret
        exact ⟨by rw [beq_eq_false_iff_ne.2 (fun h => He.out (by rw [h]))]; rfl, HX.out.drewN _⟩
    · go_wp2
      go_ret
      obtain rfl : k = 32 := by omega
      refine ⟨?_, HX.out⟩
      have e := Ht.out
      rw [List.take_of_length_le (by rw [HA.out]; omega), List.take_of_length_le (by rw [HB.out]; omega)] at e
      subst e; simp

end Go.Proofs.Yteegnbdgfedajaa
/- Whole structs and arrays in variables: made, stored, loaded, in regions too. No condition. -/
namespace Go.Proofs.Yteegnbdgfedajaa
open Go.RowKit
set_option linter.unusedVariables false
set_option linter.unusedSimpArgs false

/-- cells of a struct or an array: so many, none of them a struct or an array itself -/
structure St (n : Nat) (cs : Array Value) : Prop where
  size : cs.size = n
  one : ∀ u ∈ cs.toList, u.oneCell' = true
theorem St.nums {k : IntKind} {xs : List Int} {n : Nat} (h : xs.length = n) : St n (numsA k xs) := ⟨by rw [numsA_size, h], fun u hu => one_nums k xs u (by simpa [numsA] using hu)⟩
theorem Agg.mkS {P : Program} {t n : Nat} {fs : Array Field} (h : P.underlying t = some (.struct fs)) (hs : (P.info? t).map (·.size) = some n) : Agg P t n := ⟨⟨_, h, rfl⟩, hs⟩
section
variable {P : Program} {ops : Array Oper} {rest : List Oper} {o : Oper} {a : Act} {w : World} {Q : Exit → Act → World → Prop}
theorem run_loadB {t g e n : Nat} {cs : Array Value} (hb : Blk w g e cs) (ht : Agg P t n) (hn : cs.size = n) : (loadVar t ⟨g, 0, none⟩).run P w = .ok (.agg cs) w := by
  have := run_loadVar_at (P := P) (w := w) (t := t) ⟨g, 0, none⟩ cs.toList (by simpa [hn] using ht) (fun j u hu => by
    rw [Addr.add_lit, Nat.zero_add, hb.cell]
    simpa using hu)
  simpa using this
theorem wpl_loadB {t g e n : Nat} {cs : Array Value} (hb : Blk w g e cs) (ht : Agg P t n) (hn : cs.size = n) (hgd : o.guard = none) (x : Operand) (ho : o.op = .load t x) (hx : a.eval x = .pointer (some ⟨g, 0, none⟩))
    (h : wpList P ops Q rest (a.put o.dst (.agg cs)) w) : wpList P ops Q (o :: rest) a w := by
  refine wpList_plain hgd fun K hK => ?_
  unfold Oper.wp execOp
  simp only [ho, hx, Instr.loadAt, Instr.sureAddr, Sem.run_bind, Sem.run_pure, Result.andThen_ok, run_loadB hb ht hn]
  exact hK _ _ h
/-- a whole struct or array is stored into the variable that has just been made -/
theorem wpl_storeNewB {t e n : Nat} {cs cur : Array Value} (ht : Agg P t n) (hs : St n cs) (hl : cur.size = n) (hgd : o.guard = none) (x y : Operand) (ho : o.op = .store t x y) (hx : a.eval x = .pointer (some ⟨w.heap.size, 0, none⟩))
    (hy : a.eval y = .agg cs) (hd : o.dst = none) (h : wpList P ops Q rest a (w.alloc (.cells cs e))) : wpList P ops Q (o :: rest) a (w.alloc (.cells cur e)) := by
  refine wpl_store w.heap.size 0 e cur cs.toList (by rw [Array.length_toList, hs.size]; exact ht.2) hgd x y ho hx (by rw [hy]; simp [Value.cells]) (Blk.new w e cur) (by rw [Array.length_toList, hs.size]; omega) hs.one hd ?_
  rw [splice_all _ _ (by rw [Array.length_toList, hs.size]; omega), setRow_alloc]
  simpa using h
theorem wpl_storeB {t g e n : Nat} {cs cur : Array Value} (hb : Blk w g e cur) (ht : Agg P t n) (hs : St n cs) (hl : cur.size = n) (hgd : o.guard = none) (x y : Operand) (ho : o.op = .store t x y) (hx : a.eval x = .pointer (some ⟨g, 0, none⟩))
    (hy : a.eval y = .agg cs) (hd : o.dst = none) (h : wpList P ops Q rest a (w.setRow g cs)) : wpList P ops Q (o :: rest) a w := by
  refine wpl_store g 0 e cur cs.toList (by rw [Array.length_toList, hs.size]; exact ht.2) hgd x y ho hx (by rw [hy]; simp [Value.cells]) hb (by rw [Array.length_toList, hs.size]; omega) hs.one hd ?_
  rw [splice_all _ _ (by rw [Array.length_toList, hs.size]; omega)]
  simpa using h
/-- a load that any world behind w0 answers alike -/
theorem yields_loadB {w0 : World} {t g e n : Nat} {cs : Array Value} (hb : Blk w0 g e cs) (ht : Agg P t n) (hn : cs.size = n) (hw : Region.wanted o (yielded ops a.tmps) = true) (x : Operand) (ho : o.op = .load t x) (hx : a.eval x = .pointer (some ⟨g, 0, none⟩)) :
    YieldsIf P ops (fun W => Ext w0 W) o (.agg cs) a := Or.inl ⟨hw, fun W hW => by
  unfold execOp
  simp only [ho, hx, Instr.loadAt, Instr.sureAddr, Sem.run_bind, Sem.run_pure, Result.andThen_ok, run_loadB (hb.ext hW) ht hn]⟩
end

end Go.Proofs.Yteegnbdgfedajaa
/- Texts and their bytes. No condition. -/
namespace Go.Proofs.Yteegnbdgfedajaa
open Go.RowKit
set_option linter.unusedVariables false
set_option linter.unusedSimpArgs false

/-- the bytes of a text -/
@[irreducible] def strL (s : ByteArray) : List Int := s.data.toList.map fun b => (b.toNat : Int)
theorem strL_length (s : ByteArray) : (strL s).length = s.size := by unfold strL; simp
theorem strL_ok (s : ByteArray) : B8 (strL s) := by
  intro x hx
  unfold strL at hx
  obtain ⟨b, _, rfl⟩ := List.mem_map.1 hx
  have := b.toNat_lt
  omega
theorem strL_inj {s t : ByteArray} (h : strL s = strL t) : s = t := by
  unfold strL at h
  apply ByteArray.ext
  apply Array.toList_inj.1
  exact (List.map_inj_right (fun a b h => UInt8.toNat_inj.1 (Int.ofNat.inj h))).1 h
theorem strL_at (s : ByteArray) (i : Nat) (h : i < s.size) : gI (strL s) i = (s.data.toList.getD i 0).toNat := by
  rw [gI_lt (by rw [strL_length]; exact h)]
  unfold strL
  simp [List.getD, h]
theorem bytesWorld_ext (w : World) (e : TypeId) (s : ByteArray) : Ext w (Lib.bytesWorld w e s) :=
  ⟨rfl, rfl, rfl, by rw [Lib.bytesWorld_size]; omega, fun i hi => Lib.bytesWorld_at_old w e s i hi⟩
theorem bytesWorld_rd (w : World) (e : TypeId) (s : ByteArray) (hl : s.size ≤ 140737488351232) : RdL tByte (Lib.bytesWorld w e s) (fun g => w.heap.size ≤ g ∧ g < (Lib.bytesWorld w e s).heap.size) (.slice (some ⟨w.heap.size, 0, none⟩) s.size (grownCap w s.size 0 e)) (strL s) := by
  have hn := strL_length s
  refine ⟨_, _, by rw [hn], ?_, by omega, ⟨?_, fun _ => ⟨_, 0, rfl, ⟨Nat.le_refl _, by rw [Lib.bytesWorld_size]; omega⟩, fun j u hu => ?_⟩⟩, fun x hx => strL_ok s x hx⟩
  · rw [hn]; exact grownCap_ge w s.size 0 e
  · rw [flat_bytes, nums_length]; exact (Nat.mul_one _).symm
  · rw [flat_bytes] at hu
    have hj : j < s.size := by
      have := (List.getElem?_eq_some_iff.1 hu).1
      rwa [nums_length, hn] at this
    rw [nums_at _ _ _ (by rw [hn]; exact hj)] at hu
    rw [Nat.zero_add, Lib.bytesWorld_cell w e s j hj, ← hu, strL_at s j hj]
/-- the bytes of a text, in new memory -/
theorem wpl_conv {P : Program} {ops : Array Oper} {rest : List Oper} {o : Oper} {a : Act} {w : World} {Q : Exit → Act → World → Prop} {src dst e : TypeId} {s : ByteArray}
    (hs : P.underlying src = some .string) (hd : P.underlying dst = some (.slice e)) (he : P.underlying e = some (.int .u8)) (hgd : o.guard = none) (x : Operand) (ho : o.op = .convert src dst x) (hx : a.eval x = .string s) (hl : s.size ≤ 140737488351232)
    (h : ∀ A c w', RdL tByte w' (fun g => w.heap.size ≤ g ∧ g < w'.heap.size) (.slice A s.size c) (strL s) → Ext w w' → wpList P ops Q rest (a.put o.dst (.slice A s.size c)) w') : wpList P ops Q (o :: rest) a w := by
  refine wpList_plain hgd fun K hK => ?_
  unfold Oper.wp execOp
  simp only [ho, hx, Sem.run_bind, Sem.run_pure, Result.andThen_ok, Lib.run_convert_string_bytes w src dst e s hs hd he]
  exact hK _ _ (h _ _ _ (bytesWorld_rd w e s hl) (bytesWorld_ext w e s))

end Go.Proofs.Yteegnbdgfedajaa
/- Keys and entries: copied, counted. No condition. -/
namespace Go.Proofs.Yteegnbdgfedajaa
open Go.RowKit
set_option linter.unusedVariables false
set_option linter.unusedSimpArgs false

section
variable {P : Program} {ops : Array Oper} {rest : List Oper} {o : Oper} {a : Act} {w : World} {Q : Exit → Act → World → Prop}
/-- a part of a variable is loaded -/
theorem wpl_loadP {t g e n off : Nat} {cs sub : Array Value} (hb : Blk w g e cs) (ht : Agg P t n) (hn : sub.size = n) (hp : ∀ j u, sub[j]? = some u → cs[off + j]? = some u) (hgd : o.guard = none) (x : Operand) (ho : o.op = .load t x) (hx : a.eval x = .pointer (some ⟨g, off, none⟩))
    (h : wpList P ops Q rest (a.put o.dst (.agg sub)) w) : wpList P ops Q (o :: rest) a w := by
  have h2 := wpl_load (P := P) (ops := ops) (rest := rest) (o := o) (a := a) (w := w) (Q := Q) (t := t) ⟨g, off, none⟩ sub.toList (by simpa [hn] using ht) hgd x ho hx (fun j u hu => by
    rw [Addr.add_lit, hb.cell]
    exact hp j u (by simpa using hu)) (by simpa using h)
  exact h2
/-- a part of a variable is written -/
theorem wpl_storeP {t g e n off : Nat} {cs cur : Array Value} (hb : Blk w g e cur) (ht : Agg P t n) (hs : St n cs) (hl : off + n ≤ cur.size) (hgd : o.guard = none) (x y : Operand) (ho : o.op = .store t x y) (hx : a.eval x = .pointer (some ⟨g, off, none⟩))
    (hy : a.eval y = .agg cs) (hd : o.dst = none) (h : wpList P ops Q rest a (w.setRow g (splice cur off cs.toList))) : wpList P ops Q (o :: rest) a w := by
  refine wpl_store g off e cur cs.toList (by rw [Array.length_toList, hs.size]; exact ht.2) hgd x y ho hx (by rw [hy]; simp [Value.cells]) hb (by rw [Array.length_toList, hs.size]; omega) hs.one hd ?_
  simpa using h
end
theorem aggB32K : Agg Try.prog 39 32 := aggB32
set_option maxHeartbeats 1000000 in
set_option maxRecDepth 100000 in
theorem toKey_any (a : List Int) (ha : K32 a) (w : World) :
    Calls Try.prog 107 #[.agg (numsA .u8 a)] w fun e w' => e = .returned (.agg (numsA .u8 a)) ∧ Ext w w' := by
  have HA := Lib.hid ha.1
  go_enter Try.func107, Try.ntmps107
  go_wp2
  go_loopw [4] (fun i wr => ∃ k : Nat, k ≤ 32 ∧ i = .int .i64 k ∧ Blk wr w.heap.size 39 (numsA .u8 a) ∧ (∃ z, Blk wr (w.heap.size + 1) 40 z ∧ z.size = 32) ∧ (∃ ys, Blk wr (w.heap.size + 2) 40 (numsA .u8 ys) ∧ ys.length = 32 ∧ ys.take k = a.take k) ∧ Ext w wr)
    (fun i _ => 32 - (intOf i).toNat)
  case atStart => exact ⟨0, by omega, rfl, ((Blk.new w _ _).alloc _).alloc _, ⟨_, (Blk.new' (by simp) _ _).alloc _, rfl⟩, ⟨List.replicate 32 0, by rw [← zero32]; exact Blk.new' (by simp) _ _, by simp, by simp⟩, ((ext_alloc _ _).alloc _).alloc _⟩
  case round =>
    obtain ⟨k, hk, rfl, h1, ⟨z, h2, hz⟩, ⟨ys, h3, hyl, hyt⟩, hx⟩ := hrel
    have HX := Lib.hid hx
    have H1 := Lib.hid h1
    have H2 := Lib.hid h2
    have H3 := Lib.hid h3
    have HYL := Lib.hid hyl
    have HYT := Lib.hid hyt
    have HZ := Lib.hid hz
    clear h1 h2 h3 hx hyl hyt hz
    by_cases hlt : k < 32
    · have hd := H1.out.num k (by rw [HA.out]; exact hlt)
      have hd2 := H3.out.num k (by rw [HYL.out]; exact hlt)
      have hf := H3.out.free k
      go_wp2
      go_roundw
      case rel => exact ⟨k + 1, by omega, by go_num, H1.out.far (by simp <;> omega) _, ⟨z, H2.out.far (by simp <;> omega) _, HZ.out⟩, ⟨ys.set k (gI a k), by rw [← numsA_set]; exact H3.out.set k _, by simp [HYL.out], set_take_step (by rw [HA.out]; exact hlt) (by rw [HYL.out, HA.out]) HYT.out⟩, HX.out.set (by simp <;> omega) _⟩
      case measure => simp [intOf]; omega
    · obtain rfl : k = 32 := by omega
      have e := HYT.out
      rw [List.take_of_length_le (by rw [HYL.out]; omega), List.take_of_length_le (by rw [HA.out]; omega)] at e
      subst e
      have hn := sizeN (k := .u8) HA.out
      have hs : St 32 (numsA .u8 ys) := St.nums HA.out
      have HS := Lib.hid hs
      have hzz := HZ.out
      clear hs
      go_wp2_with (first | (refine wpl_loadB H3.out aggKey hn rfl _ rfl rfl ?_) | (refine wpl_storeB H2.out aggKey HS.out hzz rfl _ _ rfl rfl rfl rfl ?_))
      refine bodyPost_ret (results_blk rfl _ rfl aggKey HA.out (H2.out.setRow _)) rfl ?_
      exact ⟨rfl, HX.out.setRow (by simp) _⟩
set_option maxHeartbeats 1000000 in
set_option maxRecDepth 100000 in
theorem toEntry_any (n v : ByteArray) (w : World) :
    Calls Try.prog 109 #[.agg #[.string n, .string v]] w fun e w' => e = .returned (.agg #[.string n, .string v]) ∧ Ext w w' := by
  go_enter Try.func109, Try.ntmps109
  go_wp2
  refine bodyPost_ret (v := .agg #[.string n, .string v]) (by simp [results, Try.results109, go_sem]) rfl ?_
  exact ⟨rfl, ((ext_alloc w _).alloc _).alloc _⟩
set_option maxHeartbeats 1000000 in
set_option maxRecDepth 100000 in
theorem szEntry_any (n v : ByteArray) (hn : n.size ≤ 140737488351232) (hv : v.size ≤ 140737488351232) (l : Int) (h0 : -1 ≤ l) (h1 : l ≤ 1048576) (w : World) :
    Calls Try.prog 106 #[.agg #[.string n, .string v], .int .i64 l] w fun e w' => e = .returned (.int .i64 (if l - n.size - v.size < 0 then -1 else l - n.size - v.size)) ∧ Ext w w' := by
  by_cases h2 : l - (n.size : Int) < 0
  · rw [if_pos (by omega)]
    go_enter Try.func106, Try.ntmps106
    go_wp2
    go_ret
    exact ⟨rfl, ext_alloc _ _⟩
  · by_cases h3 : l - (n.size : Int) - (v.size : Int) < 0
    · rw [if_pos (by omega)]
      go_enter Try.func106, Try.ntmps106
      go_wp2
      go_ret
      exact ⟨rfl, ext_alloc _ _⟩
    · rw [if_neg (by omega)]
      go_enter Try.func106, Try.ntmps106
      go_wp2
      go_ret
      exact ⟨rfl, ext_alloc _ _⟩

end Go.Proofs.Yteegnbdgfedajaa
/- A struct that is filled field by field. No condition. -/
namespace Go.Proofs.Yteegnbdgfedajaa
open Go.RowKit
set_option linter.unusedVariables false
set_option linter.unusedSimpArgs false

/-- block g holds the cells A, and m more -/
def Fill (w : World) (g e : Nat) (A : List Value) (m : Nat) : Prop := ∃ R, R.length = m ∧ Blk w g e (A ++ R).toArray
section
variable {w w' : World} {g e m : Nat} {A : List Value}
theorem Fill.ext (h : Fill w g e A m) (x : Ext w w') : Fill w' g e A m := by
  obtain ⟨R, h1, h2⟩ := h
  exact ⟨R, h1, h2.ext x⟩
theorem Fill.start {Z : Array Value} (h : Blk w g e Z) : Fill w g e [] Z.size := ⟨Z.toList, by simp, by simpa using h⟩
theorem Fill.start' {Z : Array Value} {n : Nat} (h : Blk w g e Z) (hn : Z.size = n) : Fill w g e [] n := hn ▸ Fill.start h
theorem Fill.done (h : Fill w g e A 0) : Blk w g e A.toArray := by
  obtain ⟨R, h1, h2⟩ := h
  obtain rfl : R = [] := List.eq_nil_of_length_eq_zero h1
  simpa using h2
theorem Fill.cell (h : Fill w g e A (m + 1)) {off : Nat} (ho : A.length = off) : (∃ u, w.cell? ⟨g, off, none⟩ = some u) ∧ w.frozen? ⟨g, off, none⟩ = false := by
  obtain ⟨R, h1, h2⟩ := h
  refine ⟨?_, h2.free off⟩
  rw [h2.cell]
  have : off < (A ++ R).toArray.size := by simp; omega
  exact ⟨_, Array.getElem?_eq_getElem this⟩
theorem Fill.one (h : Fill w g e A (m + 1)) {off : Nat} (ho : A.length = off) (v : Value) : Fill (w.setCell ⟨g, off, none⟩ v) g e (A ++ [v]) m := by
  obtain ⟨R, h1, h2⟩ := h
  match R, h1 with
  | r :: R', h1 =>
    refine ⟨R', by simpa using h1, ?_⟩
    have := h2.set off v
    subst ho
    simpa using this
theorem Fill.far (h : Fill w g e A m) {p : Addr} (hp : g ≠ p.block) (u : Value) : Fill (w.setCell p u) g e A m := by
  obtain ⟨R, h1, h2⟩ := h
  exact ⟨R, h1, h2.far hp u⟩
end
theorem splice_next (A R vs : List Value) {o : Nat} (h : A.length = o) : splice (A ++ R).toArray o vs = (A ++ vs ++ R.drop vs.length).toArray := by
  subst h
  unfold splice
  congr 1
  rw [List.take_left', List.drop_append, List.drop_eq_nil_of_le (by omega), List.nil_append, show A.length + vs.length - A.length = vs.length by omega]
  rfl
/-- the next cells are written, all at once -/
theorem wpl_fill {P : Program} {ops : Array Oper} {rest : List Oper} {o : Oper} {a : Act} {w : World} {Q : Exit → Act → World → Prop} {t g e n m off : Nat} {cs : Array Value} {A : List Value} (hb : Fill w g e A (n + m)) (hA : A.length = off) (ht : Agg P t n) (hs : St n cs) (hgd : o.guard = none) (x y : Operand) (ho : o.op = .store t x y) (hx : a.eval x = .pointer (some ⟨g, off, none⟩))
    (hy : a.eval y = .agg cs) (hd : o.dst = none) (h : ∀ row, Fill (w.setRow g row) g e (A ++ cs.toList) m → wpList P ops Q rest a (w.setRow g row)) : wpList P ops Q (o :: rest) a w := by
  obtain ⟨R, h1, h2⟩ := hb
  have hl : cs.toList.length = n := by rw [Array.length_toList, hs.size]
  refine wpl_storeP h2 ht hs (by simp; omega) hgd x y ho hx hy hd (h _ ⟨R.drop n, by rw [List.length_drop]; omega, ?_⟩)
  have := h2.setRow (splice (A ++ R).toArray off cs.toList)
  rw [splice_next A R _ hA, hl] at this
  rw [splice_next A R _ hA, hl]
  exact this

/-- a whole variable is the result -/
theorem results_blkB {P : Program} {w : World} {fn : Func} {c : Tmp} {t g e n : Nat} {cs : Array Value} (hr : fn.results = #[.cell c t]) (tmps : Array Value) (hp : tmps.getD c undef = .pointer (some ⟨g, 0, none⟩)) (ht : Agg P t n) (hn : cs.size = n) (hb : Blk w g e cs) :
    (results fn tmps).run P w = .ok (.agg cs) w := by
  have hl := run_loadB (P := P) hb ht hn
  have hp' : tmps[c]?.getD undef = .pointer (some ⟨g, 0, none⟩) := by simpa using hp
  simp [results, hr, hp', asAddr, hl]
/-- a whole variable and a number are the results -/
theorem results_blkB2 {P : Program} {w : World} {fn : Func} {c d : Tmp} {t g e n : Nat} {cs : Array Value} (hr : fn.results = #[.cell c t, .tmp d]) (tmps : Array Value) (hp : tmps.getD c undef = .pointer (some ⟨g, 0, none⟩)) (ht : Agg P t n) (hn : cs.size = n) (hb : Blk w g e cs) {v : Value} (hv : tmps.getD d undef = v) :
    (results fn tmps).run P w = .ok (.tuple #[.agg cs, v]) w := by
  have hl := run_loadB (P := P) hb ht hn
  have hp' : tmps[c]?.getD undef = .pointer (some ⟨g, 0, none⟩) := by simpa using hp
  have hv' : tmps[d]?.getD undef = v := by simpa using hv
  simp [results, hr, hp', hv', asAddr, hl]

/-! ### nodes -/
structure Nd where
  l : List Int
  r : List Int
  n : ByteArray
  v : ByteArray
def Nd.enc (x : Nd) : List Value := nums .u8 x.l ++ nums .u8 x.r ++ [.string x.n, .string x.v]
def Nd.ok (x : Nd) : Prop := K32 x.l ∧ K32 x.r ∧ x.n.size ≤ 140737488351232 ∧ x.v.size ≤ 140737488351232
theorem Nd.enc_length {x : Nd} (h : x.ok) : x.enc.length = 66 := by simp [Nd.enc, nums_length, h.1.1, h.2.1.1]
theorem Nd.enc_one (x : Nd) : ∀ u ∈ x.enc, u.oneCell' = true := by
  intro u hu
  unfold Nd.enc at hu
  rcases List.mem_append.1 hu with hu | hu
  · rcases List.mem_append.1 hu with hu | hu
    · exact one_nums _ _ u hu
    · exact one_nums _ _ u hu
  · simp at hu; rcases hu with rfl | rfl <;> rfl
def tNode : Ty Nd := ⟨66, Nd.enc, Nd.ok, fun x h => Nd.enc_length h, Nd.enc_one⟩
theorem Nd.left {x : Nd} (h : x.ok) (j : Nat) (u : Value) (hu : (numsA .u8 x.l)[j]? = some u) : x.enc.toArray[0 + j]? = some u := by
  have hj : j < x.l.length := by have := (Array.getElem?_eq_some_iff.1 hu).1; simpa [numsA, nums] using this
  rw [Nat.zero_add, List.getElem?_toArray, Nd.enc, List.append_assoc, List.getElem?_append_left (by rw [nums_length]; exact hj)]
  simpa [numsA] using hu
theorem Nd.right {x : Nd} (h : x.ok) (j : Nat) (u : Value) (hu : (numsA .u8 x.r)[j]? = some u) : x.enc.toArray[32 + j]? = some u := by
  have hj : j < x.r.length := by have := (Array.getElem?_eq_some_iff.1 hu).1; simpa [numsA, nums] using this
  have hl := h.1.1
  rw [List.getElem?_toArray, Nd.enc, List.append_assoc, List.getElem?_append_right (by rw [nums_length]; omega), nums_length, hl, show 32 + j - 32 = j by omega, List.getElem?_append_left (by rw [nums_length]; exact hj)]
  simpa [numsA] using hu
theorem Nd.ent {x : Nd} (h : x.ok) (j : Nat) (u : Value) (hu : (#[Value.string x.n, Value.string x.v] : Array Value)[j]? = some u) : x.enc.toArray[64 + j]? = some u := by
  have hl := h.1.1
  have hr := h.2.1.1
  rw [List.getElem?_toArray, Nd.enc, List.getElem?_append_right (by simp [nums_length]; omega)]
  simp only [List.length_append, nums_length, hl, hr]
  rw [show 64 + j - (32 + 32) = j by omega]
  simpa using hu
theorem Nd.at64 {x : Nd} (h : x.ok) : x.enc.toArray[64]? = some (.string x.n) := Nd.ent h 0 _ rfl
theorem Nd.at65 {x : Nd} (h : x.ok) : x.enc.toArray[65]? = some (.string x.v) := Nd.ent h 1 _ rfl
theorem Nd.st {x : Nd} (h : x.ok) : St 66 x.enc.toArray := ⟨by simpa using Nd.enc_length h, by simpa using Nd.enc_one x⟩
theorem stEnt (n v : ByteArray) : St 2 #[Value.string n, Value.string v] := ⟨rfl, fun u hu => by simp at hu; rcases hu with rfl | rfl <;> rfl⟩
theorem aggEntryL : Agg Try.prog 140 2 := Agg.mkS (fs := _) Try.underlying140 (by kernel_rfl)
theorem aggEntryI : Agg Try.prog 124 2 := Agg.mkS (fs := _) Try.underlying124 (by kernel_rfl)
end Go.Proofs.Yteegnbdgfedajaa
/- Lists of keys: copied, counted, held against each other. No condition. -/
namespace Go.Proofs.Yteegnbdgfedajaa
open Go.RowKit
set_option linter.unusedVariables false
set_option linter.unusedSimpArgs false

theorem make_rowN {P : Program} (t e : TypeId) (sz bytes : Nat) (ht : P.underlying t = some (.slice e)) (hinfo : (P.info? e).map (fun i => (i.zero.isSome, i.size, i.bytes)) = some (true, sz, bytes)) (kl kc : IntKind) (n : Nat) (hbytes : bytes * n ≤ 281474976710656) (h63 : n ≤ 9223372036854775807) :
    ∃ Z : Array Value, Z.size = n * sz ∧ ∀ W : World, (Instr.makeSlice t (.int kl (n : Int)) (.int kc (n : Int))).run P W = .ok (.slice (some ⟨W.heap.size, 0, none⟩) n n) (W.alloc (.cells Z e)) := by
  obtain ⟨i, hi, hzz⟩ := Option.map_eq_some_iff.1 hinfo
  simp only [Prod.mk.injEq] at hzz
  obtain ⟨hz, hs, hb⟩ := hzz
  obtain ⟨z, hz⟩ := Option.isSome_iff_exists.1 hz
  refine ⟨madeCells z.cells (n * sz), size_madeCells _ _, fun W => ?_⟩
  have hb' : (i.bytes : Int) * (n : Int) ≤ 281474976710656 := by
    have h : ((i.bytes * n : Nat) : Int) ≤ 281474976710656 := by rw [hb]; omega
    rwa [Int.natCast_mul] at h
  have hr := run_make (P := P) W t e i z ht hi hz kl kc n n (by omega) (Int.le_refl _) hb' (by omega)
  simp only [Int.toNat_natCast, hs] at hr
  exact hr
theorem toKeyT_any (a : List Int) (ha : tKey.ok a) (w : World) :
    Calls Try.prog 107 #[.agg (tKey.enc a).toArray] w fun e w' => e = .returned (.agg (tKey.enc a).toArray) ∧ Ext w w' := toKey_any a ha w
set_option maxHeartbeats 1000000 in
set_option maxRecDepth 100000 in
theorem toKeyS_u (v : Value) (xs : List (List Int)) (w : World) (S : Nat → Prop) (h : RdL tKey w S v xs) (hln : xs.length ≤ 1048576) :
    Calls Try.prog 108 #[v] w fun e w' => ∃ v', e = .returned v' ∧ Own tKey 40 w' w.heap.size v' xs ∧ Ext w w' := by
  obtain ⟨A, cap, rfl, hcap, hlen, hrd, hok⟩ := h
  have Hrd := Lib.hid hrd
  have Hok := Lib.hid hok
  have HF := Lib.hid (flat_length tKey xs hok)
  clear hrd hok
  obtain ⟨Z, hms, hm⟩ := make_rowN 41 40 32 32 Try.underlying41 (by kernel_rfl) .i64 .i64 xs.length (by omega) (by omega)
  have HMS := Lib.hid hms
  clear hms
  go_enter Try.func108, Try.ntmps108
  go_wp2
  go_loopw [4] (fun i wr => ∃ k : Nat, k ≤ xs.length ∧ i = .int .i64 k ∧ Fill wr w.heap.size 40 ((xs.take k).flatMap (tKey).enc) ((xs.length - k) * 32) ∧ Ext w wr)
    (fun i _ => xs.length - (intOf i).toNat)
  case atStart => exact ⟨0, by omega, rfl, by rw [List.take_zero]; exact Fill.start' (Blk.new w _ _) (by rw [HMS.out, Nat.sub_zero]), ext_alloc _ _⟩
  case round =>
    obtain ⟨k, hk, rfl, hF, hx⟩ := hrel
    have HFl := Lib.hid hF
    have HX := Lib.hid hx
    clear hm hF hx
    by_cases hlt : k < xs.length
    · obtain ⟨g, o, rfl, hs, hc⟩ := Hrd.out.elem Hok.out k hlt
      have hx0 : (tKey).ok xs[k] := Hok.out _ (List.getElem_mem hlt)
      have HX0 := Lib.hid hx0
      have hd : ∀ j u, ((tKey).enc xs[k])[j]? = some u → wr.cell? ⟨g, o + k * 32 + j, none⟩ = some u := fun j u hu => HX.out.cell (hc j u hu)
      have HD := Lib.hid hd
      have HL := Lib.hid (flat_length tKey (xs.take k) (fun x hx => Hok.out x (List.mem_of_mem_take hx)))
      have HTK := Lib.hid (show (xs.take k).length = k by rw [List.length_take]; omega)
      have HSN := Lib.hid (show (xs.take (k + 1)).flatMap (tKey).enc = (xs.take k).flatMap (tKey).enc ++ (tKey).enc xs[k] by rw [List.take_succ_eq_append_getElem hlt, List.flatMap_append, List.flatMap_cons, List.flatMap_nil, List.append_nil])
      have HST := Lib.hid (show St 32 ((tKey).enc xs[k]).toArray from ⟨by rw [List.size_toArray]; exact (tKey).len _ hx0, by simpa using (tKey).one _⟩)
      have HMU := Lib.hid (show (xs.length - k) * 32 = 32 + (xs.length - (k + 1)) * 32 by omega)
      clear hc hd hx0
      have hi : (0 : Int) ≤ (k : Int) := by omega
      go_wp2_with (refine wpl_load ⟨g, o + k * 32, none⟩ ((tKey).enc xs[k]) (by rw [(tKey).len _ HX0.out]; exact aggB32) rfl _ rfl rfl (fun j u hu => by rw [Addr.add_lit]; exact HD.out j u hu) ?_)
      refine (toKeyT_any xs[k] HX0.out _).mono ?_
      rintro e w1 ⟨rfl, hx⟩
      have HF2 := Lib.hid (HFl.out.ext hx)
      have HX2 := Lib.hid (HX.out.trans hx)
      clear hx HX HFl HD
      go_wp2_with (refine wpl_fill (n := 32) (m := (xs.length - (k + 1)) * 32) (by rw [← HMU.out]; exact HF2.out) (by rw [HL.out, HTK.out]; rfl) aggKey HST.out rfl _ _ rfl rfl rfl rfl ?_; intro row hF; have HF3 := Lib.hid hF; clear hF)
      go_roundw
      case rel => exact ⟨k + 1, by omega, by go_num, by rw [HSN.out]; simpa using HF3.out, HX2.out.setRow (Nat.le_refl _) _⟩
      case measure => simp [intOf]; omega
    · obtain rfl : k = xs.length := by omega
      have hb := HFl.out
      rw [List.take_length, Nat.sub_self, Nat.zero_mul] at hb
      have HB := Lib.hid hb.done
      clear hb
      go_wp2
      go_ret
      exact ⟨_, rfl, Own.of_blk tKey HB.out (Nat.le_refl _) hlen Hok.out, HX.out⟩


/-- a load of an element that any world behind w0 answers alike -/
theorem yields_loadR {P : Program} {ops : Array Oper} {op : Oper} {a : Act} {w0 : World} {t : Nat} (g o : Nat) (cs : List Value) (ht : Agg P t cs.length) (hc : ∀ j u, cs[j]? = some u → w0.cell? ⟨g, o + j, none⟩ = some u) (hw : Region.wanted op (yielded ops a.tmps) = true) (x : Operand) (ho : op.op = .load t x) (hx : a.eval x = .pointer (some ⟨g, o, none⟩)) :
    YieldsIf P ops (fun W => Ext w0 W) op (.agg cs.toArray) a := Or.inl ⟨hw, fun W hW => by
  unfold execOp
  simp only [ho, hx, Instr.loadAt, Instr.sureAddr, Sem.run_bind, Sem.run_pure, Result.andThen_ok, run_loadVar_at (P := P) (w := W) ⟨g, o, none⟩ cs ht (fun j u hu => by rw [Addr.add_lit]; exact hW.cell (hc j u hu))]⟩
theorem eqKeyT_any (a : List Int) (ha : tKey.ok a) (w : World) :
    Calls Try.prog 59 #[.agg (tKey.enc a).toArray, .agg (tKey.enc a).toArray] w fun e w' => e = .returned (.bool true) ∧ Ext w w' := by
  refine (eqKey_any a a ha ha w).mono ?_
  rintro e w' ⟨rfl, hx⟩
  exact ⟨by rw [beq_self_eq_true], hx⟩
set_option maxHeartbeats 1000000 in
set_option maxRecDepth 100000 in
theorem eqKeyS_u (v u : Value) (xs : List (List Int)) (w : World) (S S' : Nat → Prop) (h : RdL tKey w S v xs) (h' : RdL tKey w S' u xs) :
    Calls Try.prog 38 #[v, u] w fun e w' => e = .returned (.bool true) ∧ Ext w w' := by
  obtain ⟨A, cap, rfl, hcap, hlen, hrd, hok⟩ := h
  obtain ⟨A', cap', rfl, hcap', hlen', hrd', hok'⟩ := h'
  have Hrd := Lib.hid hrd
  have Hrd' := Lib.hid hrd'
  have Hok := Lib.hid hok
  clear hrd hok hrd' hok'
  have hl1 : ((xs.length : Int) != (xs.length : Int)) = false := by simp
  go_enter Try.func38, Try.ntmps38
  go_wp2
  go_loopw [5] (fun i wr => ∃ k : Nat, k ≤ xs.length ∧ i = .int .i64 k ∧ Ext w wr) (fun i _ => xs.length - (intOf i).toNat)
  case atStart => exact ⟨0, by omega, rfl, Ext.refl _⟩
  case round =>
    obtain ⟨k, hk, rfl, hx⟩ := hrel
    have HX := Lib.hid hx
    clear hx hl1
    by_cases hlt : k < xs.length
    · obtain ⟨g, o, rfl, hs, hc⟩ := Hrd.out.elem Hok.out k hlt
      obtain ⟨g2, o2, rfl, hs2, hc2⟩ := Hrd'.out.elem Hok.out k hlt
      have HX0 := Lib.hid (show (tKey).ok xs[k] from Hok.out _ (List.getElem_mem hlt))
      have HD := Lib.hid (show ∀ j u, ((tKey).enc xs[k])[j]? = some u → wr.cell? ⟨g, o + k * 32 + j, none⟩ = some u from fun j u hu => HX.out.cell (hc j u hu))
      have HD2 := Lib.hid (show ∀ j u, ((tKey).enc xs[k])[j]? = some u → wr.cell? ⟨g2, o2 + k * 32 + j, none⟩ = some u from fun j u hu => HX.out.cell (hc2 j u hu))
      clear hc hc2
      have hi : (0 : Int) ≤ (k : Int) := by omega
      have hi2 : (k : Int) < (xs.length : Int) := by omega
      go_wp2_with fail
      refine wp_region_held_drew (S := fun W => Ext wr W) (by kernel_rfl) (Ext.refl _).drew (fun hHeld => ?_)
      refine wpAnyH_take (i := 0) (oi := ?oiq0) (v := ?vq0) ?hiq0 (by kernel_rfl) (by kernel_rfl) (by kernel_rfl) ?hQq0 ?hyq0 (by assumption) ?restq0
      case hiq0 => simp only [List.getElem?_toArray, List.getElem?_cons_zero, List.getElem?_cons_succ]; rfl
      case hQq0 => exact fun _ _ _ h => h
      case hyq0 => exact Or.inl ⟨by rfl, by intro w hSw; go_simp; with_reducible rfl⟩
      try simp only [Act.put, List.setIfInBounds_toArray, List.set_cons_zero, List.set_cons_succ]
      refine wpAnyH_take (i := 1) (oi := ?oiq1) (v := ?vq1) ?hiq1 (by kernel_rfl) (by kernel_rfl) (by kernel_rfl) ?hQq1 ?hyq1 (by assumption) ?restq1
      case hiq1 => simp only [List.getElem?_toArray, List.getElem?_cons_zero, List.getElem?_cons_succ]; rfl
      case hQq1 => exact fun _ _ _ h => h
      case hyq1 => exact Or.inl ⟨by rfl, by intro w hSw; go_simp; with_reducible rfl⟩
      try simp only [Act.put, List.setIfInBounds_toArray, List.set_cons_zero, List.set_cons_succ]
      refine wpAnyH_take (i := 2) (oi := ?oiq2) (v := ?vq2) ?hiq2 (by kernel_rfl) (by kernel_rfl) (by kernel_rfl) ?hQq2 ?hyq2 (by assumption) ?restq2
      case hiq2 => simp only [List.getElem?_toArray, List.getElem?_cons_zero, List.getElem?_cons_succ]; rfl
      case hQq2 => exact fun _ _ _ h => h
      case hyq2 => exact Or.inl ⟨by rfl, by intro w hSw; go_simp; with_reducible rfl⟩
      try simp only [Act.put, List.setIfInBounds_toArray, List.set_cons_zero, List.set_cons_succ]
      refine wpAnyH_take (i := 3) (oi := ?oiq3) (v := (.agg ((tKey).enc xs[k]).toArray)) ?hiq3 (by kernel_rfl) (by kernel_rfl) (by kernel_rfl) ?hQq3 ?hyq3 (by assumption) ?restq3
      case hiq3 => simp only [List.getElem?_toArray, List.getElem?_cons_zero, List.getElem?_cons_succ]; rfl
      case hQq3 => exact fun _ _ _ h => h
      case hyq3 => refine yields_loadR g (o + k * 32) ((tKey).enc xs[k]) (by rw [(tKey).len _ HX0.out]; exact aggKey) HD.out ?_ _ rfl rfl; rfl
      try simp only [Act.put, List.setIfInBounds_toArray, List.set_cons_zero, List.set_cons_succ]
      refine wpAnyH_take (i := 4) (oi := ?oiq4) (v := ?vq4) ?hiq4 (by kernel_rfl) (by kernel_rfl) (by kernel_rfl) ?hQq4 ?hyq4 (by assumption) ?restq4
      case hiq4 => simp only [List.getElem?_toArray, List.getElem?_cons_zero, List.getElem?_cons_succ]; rfl
      case hQq4 => exact fun _ _ _ h => h
      case hyq4 => exact Or.inl ⟨by rfl, by intro w hSw; go_simp; with_reducible rfl⟩
      try simp only [Act.put, List.setIfInBounds_toArray, List.set_cons_zero, List.set_cons_succ]
      refine wpAnyH_take (i := 5) (oi := ?oiq5) (v := ?vq5) ?hiq5 (by kernel_rfl) (by kernel_rfl) (by kernel_rfl) ?hQq5 ?hyq5 (by assumption) ?restq5
      case hiq5 => simp only [List.getElem?_toArray, List.getElem?_cons_zero, List.getElem?_cons_succ]; rfl
      case hQq5 => exact fun _ _ _ h => h
      case hyq5 => exact Or.inl ⟨by rfl, by intro w hSw; go_simp; with_reducible rfl⟩
      try simp only [Act.put, List.setIfInBounds_toArray, List.set_cons_zero, List.set_cons_succ]
      refine wpAnyH_take (i := 6) (oi := ?oiq6) (v := ?vq6) ?hiq6 (by kernel_rfl) (by kernel_rfl) (by kernel_rfl) ?hQq6 ?hyq6 (by assumption) ?restq6
      case hiq6 => simp only [List.getElem?_toArray, List.getElem?_cons_zero, List.getElem?_cons_succ]; rfl
      case hQq6 => exact fun _ _ _ h => h
      case hyq6 => exact Or.inl ⟨by rfl, by intro w hSw; go_simp; with_reducible rfl⟩
      try simp only [Act.put, List.setIfInBounds_toArray, List.set_cons_zero, List.set_cons_succ]
      refine wpAnyH_take (i := 7) (oi := ?oiq7) (v := (.agg ((tKey).enc xs[k]).toArray)) ?hiq7 (by kernel_rfl) (by kernel_rfl) (by kernel_rfl) ?hQq7 ?hyq7 (by assumption) ?restq7
      case hiq7 => simp only [List.getElem?_toArray, List.getElem?_cons_zero, List.getElem?_cons_succ]; rfl
      case hQq7 => exact fun _ _ _ h => h
      case hyq7 => refine yields_loadR g2 (o2 + k * 32) ((tKey).enc xs[k]) (by rw [(tKey).len _ HX0.out]; exact aggKey) HD2.out ?_ _ rfl rfl; rfl
      try simp only [Act.put, List.setIfInBounds_toArray, List.set_cons_zero, List.set_cons_succ]
      refine wpAnyH_ready (rs := [8]) (by kernel_rfl) (by simp) (AllReadyH.cons (o := ?o8) ?h8 (fun K hK => ?s8) AllReadyH.nil)
      case h8 => simp only [List.getElem?_toArray, List.getElem?_cons_zero, List.getElem?_cons_succ]; rfl
      go_simp
      refine (eqKeyT_any xs[k] HX0.out _).mono ?_
      rintro e w1 ⟨rfl, hx⟩
      have hH2 := hHeld.trans hx
      refine hK.out _ _ hH2 (fun _ => ?_)
      clear hHeld hK K
      have hHeld := hH2
      clear hH2 hx
      try simp only [Act.put, List.setIfInBounds_toArray, List.set_cons_zero, List.set_cons_succ]
      refine wpAnyH_take (i := 9) (oi := ?oiq9) (v := ?vq9) ?hiq9 (by kernel_rfl) (by kernel_rfl) (by kernel_rfl) ?hQq9 ?hyq9 (by assumption) ?restq9
      case hiq9 => simp only [List.getElem?_toArray, List.getElem?_cons_zero, List.getElem?_cons_succ]; rfl
      case hQq9 => exact fun _ _ _ h => h
      case hyq9 => exact Or.inl ⟨by rfl, by intro w hSw; go_simp; with_reducible rfl⟩
      try simp only [Act.put, List.setIfInBounds_toArray, List.set_cons_zero, List.set_cons_succ]
      refine wpAnyH_done (by kernel_rfl) ?_ _
      have HX2 := Lib.hid (HX.out.trans hHeld)
      clear hHeld
      go_wp2
      go_roundw
      case rel => exact ⟨k + 1, by omega, by go_num, HX2.out⟩
      case measure => simp [intOf]; omega
    · go_wp2
      go_ret
      exact ⟨rfl, HX.out⟩

set_option maxHeartbeats 1000000 in
set_option maxRecDepth 100000 in
theorem szKeyS_any (A : Option Addr) (n c : Nat) (l : Int) (hn : (n : Int) ≤ 140737488355328) (h0 : -1 ≤ l) (h1 : l ≤ 1048576) (w : World) :
    Calls Try.prog 105 #[.slice A n c, .int .i64 l] w fun e w' => e = .returned (.int .i64 (if l - n < 0 then -1 else l - n)) ∧ w = w' := by
  go_enter Try.func105, Try.ntmps105
  go_wp2
  all_goals go_ret
  all_goals exact ⟨rfl, rfl⟩

end Go.Proofs.Yteegnbdgfedajaa
/- Slices whose elements hold slices themselves: how they read. No condition. -/
namespace Go.Proofs.Yteegnbdgfedajaa
open Go.RowKit
set_option linter.unusedVariables false
set_option linter.unusedSimpArgs false

/-- how the cells of an element read -/
structure NR (α : Type) where
  sz : Nat
  R : World → (Nat → Prop) → Array Value → α → Prop
  pos : 0 < sz
  keep : ∀ {w w' : World} {S : Nat → Prop} {cs : Array Value} {x : α}, R w S cs x → (∀ g, S g → w'.heap[g]? = w.heap[g]?) → R w' S cs x
  ext : ∀ {w w' : World} {S : Nat → Prop} {cs : Array Value} {x : α}, R w S cs x → Ext w w' → R w' S cs x
  mono : ∀ {w : World} {S S' : Nat → Prop} {cs : Array Value} {x : α}, R w S cs x → (∀ g, S g → S' g) → R w S' cs x
  st : ∀ {w : World} {S : Nat → Prop} {cs : Array Value} {x : α}, R w S cs x → St sz cs
/-- the value v is a slice whose elements read as xs -/
def RdN {α : Type} (N : NR α) (w : World) (S : Nat → Prop) (v : Value) (xs : List α) : Prop :=
  ∃ A cap, v = .slice A xs.length cap ∧ xs.length ≤ cap ∧ xs.length ≤ 140737488355328 ∧
    (0 < xs.length → ∃ g o, A = some ⟨g, o, none⟩ ∧ S g ∧ ∀ i (h : i < xs.length), ∃ es : List Value, es.length = N.sz ∧ (∀ j u, es[j]? = some u → w.cell? ⟨g, o + i * N.sz + j, none⟩ = some u) ∧ N.R w S es.toArray xs[i])
section
variable {α : Type} {N : NR α} {w w' : World} {S S' : Nat → Prop} {v : Value} {xs : List α}
theorem RdN.ext (h : RdN N w S v xs) (e : Ext w w') : RdN N w' S v xs := by
  obtain ⟨A, cap, h1, h2, h3, h4⟩ := h
  refine ⟨A, cap, h1, h2, h3, fun hn => ?_⟩
  obtain ⟨g, o, h5, h6, h7⟩ := h4 hn
  refine ⟨g, o, h5, h6, fun i hi => ?_⟩
  obtain ⟨es, h8, h9, h10⟩ := h7 i hi
  exact ⟨es, h8, fun j u hu => e.cell (h9 j u hu), N.ext h10 e⟩
theorem RdN.keep (h : RdN N w S v xs) (e : ∀ g, S g → w'.heap[g]? = w.heap[g]?) : RdN N w' S v xs := by
  obtain ⟨A, cap, h1, h2, h3, h4⟩ := h
  refine ⟨A, cap, h1, h2, h3, fun hn => ?_⟩
  obtain ⟨g, o, h5, h6, h7⟩ := h4 hn
  refine ⟨g, o, h5, h6, fun i hi => ?_⟩
  obtain ⟨es, h8, h9, h10⟩ := h7 i hi
  exact ⟨es, h8, fun j u hu => (World.cell?_of_block (w := w) (e g h6)).trans (h9 j u hu), N.keep h10 e⟩
theorem RdN.far (h : RdN N w S v xs) {p : Addr} (hp : ∀ g, S g → g ≠ p.block) (u : Value) : RdN N (w.setCell p u) S v xs := h.keep fun g hg => Below.heap_setCell w p u g (hp g hg)
theorem RdN.mono (h : RdN N w S v xs) (e : ∀ g, S g → S' g) : RdN N w S' v xs := by
  obtain ⟨A, cap, h1, h2, h3, h4⟩ := h
  refine ⟨A, cap, h1, h2, h3, fun hn => ?_⟩
  obtain ⟨g, o, h5, h6, h7⟩ := h4 hn
  refine ⟨g, o, h5, e g h6, fun i hi => ?_⟩
  obtain ⟨es, h8, h9, h10⟩ := h7 i hi
  exact ⟨es, h8, h9, N.mono h10 e⟩
theorem RdN.shape (h : RdN N w S v xs) : ∃ A cap, v = .slice A xs.length cap ∧ xs.length ≤ cap ∧ xs.length ≤ 140737488355328 := by
  obtain ⟨A, cap, h1, h2, h3, _⟩ := h
  exact ⟨A, cap, h1, h2, h3⟩
/-- element i -/
theorem RdN.elem {A : Option Addr} {cap : Nat} (h : RdN N w S (.slice A xs.length cap) xs) (i : Nat) (hi : i < xs.length) :
    ∃ g o, A = some ⟨g, o, none⟩ ∧ S g ∧ ∃ es : List Value, es.length = N.sz ∧ (∀ j u, es[j]? = some u → w.cell? ⟨g, o + i * N.sz + j, none⟩ = some u) ∧ N.R w S es.toArray xs[i] := by
  obtain ⟨A', cap', h1, h2, h3, h4⟩ := h
  injection h1 with h1 _ _
  subst h1
  obtain ⟨g, o, h5, h6, h7⟩ := h4 (by omega)
  exact ⟨g, o, h5, h6, h7 i hi⟩
theorem RdN.nil (N : NR α) (w : World) (S : Nat → Prop) : RdN N w S (.slice none 0 0) [] := ⟨none, 0, rfl, Nat.le_refl _, by simp, fun h => absurd h (by simp)⟩
end
theorem flatN_at {sz : Nat} (CS : List (List Value)) (h : ∀ es ∈ CS, es.length = sz) (i : Nat) (es : List Value) (hi : CS[i]? = some es) (j : Nat) (hj : j < sz) : CS.flatten[i * sz + j]? = es[j]? := by
  induction CS generalizing i with
  | nil => simp at hi
  | cons x r ih =>
    have hl := h x (by simp)
    cases i with
    | zero =>
      simp at hi
      subst hi
      simp only [Nat.zero_mul, Nat.zero_add, List.flatten_cons]
      rw [List.getElem?_append_left (by omega)]
    | succ i =>
      simp only [List.flatten_cons]
      rw [List.getElem?_append_right (by rw [hl, Nat.add_mul]; omega), hl, ← ih (fun y hy => h y (by simp [hy])) i (by simpa using hi)]
      congr 1
      rw [Nat.add_mul]
      omega
theorem flatN_length {sz : Nat} (CS : List (List Value)) (h : ∀ es ∈ CS, es.length = sz) : CS.flatten.length = CS.length * sz := by
  induction CS with
  | nil => simp
  | cons x r ih =>
    simp only [List.flatten_cons, List.length_append, List.length_cons, h x (by simp), ih (fun y hy => h y (by simp [hy])), Nat.add_mul]
    omega
/-- the first of the elements of a row have been filled in -/
structure FillN {α : Type} (N : NR α) (w : World) (g e : Nat) (S : Nat → Prop) (xs : List α) (CS : List (List Value)) (m : Nat) : Prop where
  fill : Fill w g e CS.flatten m
  rel : ∀ (i : Nat) (es : List Value) (x : α), CS[i]? = some es → xs[i]? = some x → es.length = N.sz ∧ N.R w S es.toArray x
  lens : ∀ es ∈ CS, es.length = N.sz
section
variable {α : Type} {N : NR α} {w w' : World} {g e m : Nat} {S : Nat → Prop} {xs : List α} {CS : List (List Value)}
theorem FillN.ext (h : FillN N w g e S xs CS m) (x : Ext w w') : FillN N w' g e S xs CS m := ⟨h.fill.ext x, fun i es y h1 h2 => ⟨(h.rel i es y h1 h2).1, N.ext (h.rel i es y h1 h2).2 x⟩, h.lens⟩
theorem FillN.next (h : FillN N w g e S xs CS m) {cs : Array Value} {x : α} {m' : Nat} (hx : xs[CS.length]? = some x) (hR : N.R w S cs x) (hS : ∀ q, S q → q ≠ g) (row : Array Value) (hf : Fill (w.setRow g row) g e (CS.flatten ++ cs.toList) m') : FillN N (w.setRow g row) g e S xs (CS ++ [cs.toList]) m' := by
  have keep : ∀ q, S q → (w.setRow g row).heap[q]? = w.heap[q]? := fun q hq => setRow_other w g q row (hS q hq)
  have hsz := (N.st hR).size
  refine ⟨by simpa using hf, fun i es y h1 h2 => ?_, fun es hes => ?_⟩
  · rcases Nat.lt_trichotomy i CS.length with hlt | rfl | hgt
    · rw [List.getElem?_append_left hlt] at h1
      obtain ⟨h3, h4⟩ := h.rel i es y h1 h2
      exact ⟨h3, N.keep h4 keep⟩
    · rw [hx] at h2
      injection h2 with h2
      subst h2
      rw [List.getElem?_append_right (Nat.le_refl _), Nat.sub_self] at h1
      simp at h1
      subst h1
      exact ⟨by rw [Array.length_toList, hsz], by simpa using N.keep hR keep⟩
    · rw [List.getElem?_eq_none (by simp; omega)] at h1
      cases h1
  · rcases List.mem_append.1 hes with hes | hes
    · exact h.lens es hes
    · simp at hes; subst hes; rw [Array.length_toList, hsz]
theorem FillN.done (h : FillN N w g e S xs CS 0) (hl : CS.length = xs.length) (h47 : xs.length ≤ 140737488355328) (S' : Nat → Prop) (hS : ∀ q, S q → S' q) (hg : S' g) : RdN N w S' (.slice (some ⟨g, 0, none⟩) xs.length xs.length) xs := by
  refine ⟨_, _, rfl, Nat.le_refl _, h47, fun hn => ⟨g, 0, rfl, hg, fun i hi => ?_⟩⟩
  have hi' : i < CS.length := by omega
  obtain ⟨h1, h2⟩ := h.rel i CS[i] xs[i] (List.getElem?_eq_getElem hi') (List.getElem?_eq_getElem hi)
  refine ⟨CS[i], h1, fun j u hu => ?_, N.mono h2 hS⟩
  have hj : j < N.sz := by rw [← h1]; exact (List.getElem?_eq_some_iff.1 hu).1
  rw [Nat.zero_add, h.fill.done.cell, List.getElem?_toArray, flatN_at CS h.lens i _ (List.getElem?_eq_getElem hi') j hj, hu]
end
/-- a whole struct or array is stored into the variable that has just been made, its place as the walk shows it -/
theorem wpl_storeNewG {P : Program} {ops : Array Oper} {rest : List Oper} {o : Oper} {a : Act} {w : World} {Q : Exit → Act → World → Prop} {t e n g : Nat} {cs cur : Array Value} (hg : w.heap.size = g) (ht : Agg P t n) (hs : St n cs) (hl : cur.size = n) (hgd : o.guard = none) (x y : Operand) (ho : o.op = .store t x y) (hx : a.eval x = .pointer (some ⟨g, 0, none⟩))
    (hy : a.eval y = .agg cs) (hd : o.dst = none) (h : wpList P ops Q rest a (w.alloc (.cells cs e))) : wpList P ops Q (o :: rest) a (w.alloc (.cells cur e)) := by
  subst hg
  exact wpl_storeNewB ht hs hl hgd x y ho hx hy hd h
/-- all elements of two lists are the same -/
def allSame {α : Type} (f : α → α → Bool) : List α → List α → Bool
  | [], [] => true
  | x :: xs, y :: ys => f x y && allSame f xs ys
  | _, _ => false
theorem allSame_len {α : Type} {f : α → α → Bool} : ∀ {xs ys : List α}, xs.length ≠ ys.length → allSame f xs ys = false
  | [], [], h => absurd rfl h
  | [], y :: ys, _ => rfl
  | x :: xs, [], _ => rfl
  | x :: xs, y :: ys, h => by
    rw [allSame, allSame_len (fun e => h (by simp [e]))]
    simp
theorem allSame_yes {α : Type} {f : α → α → Bool} : ∀ {xs ys : List α}, xs.length = ys.length → (∀ i (h : i < xs.length) (h' : i < ys.length), f xs[i] ys[i] = true) → allSame f xs ys = true
  | [], [], _, _ => rfl
  | x :: xs, y :: ys, h, k => by
    rw [allSame, allSame_yes (by simpa using h) (fun i h1 h2 => by have := k (i + 1) (by simpa using h1) (by simpa using h2); simpa using this)]
    have := k 0 (by simp) (by simp)
    simpa using this
theorem allSame_no {α : Type} {f : α → α → Bool} : ∀ {xs ys : List α} (i : Nat) (h : i < xs.length) (h' : i < ys.length), f xs[i] ys[i] = false → allSame f xs ys = false
  | x :: xs, y :: ys, 0, _, _, k => by
    rw [allSame]
    have : f x y = false := by simpa using k
    rw [this]
    rfl
  | x :: xs, y :: ys, i + 1, h, h', k => by
    rw [allSame, allSame_no i (by simpa using h) (by simpa using h') (by simpa using k)]
    simp
/-- what the elements weigh, the first k of them -/
def sumW {α : Type} (f : α → Nat) (l : List α) (k : Nat) : Nat := ((l.take k).map f).sum
theorem sumW_zero {α : Type} (f : α → Nat) (l : List α) : sumW f l 0 = 0 := by simp [sumW]
theorem sumW_succ {α : Type} (f : α → Nat) (l : List α) (k : Nat) (h : k < l.length) : sumW f l (k + 1) = sumW f l k + f l[k] := by
  unfold sumW
  rw [List.take_succ_eq_append_getElem h, List.map_append, List.sum_append]; simp
theorem sumW_le {α : Type} (f : α → Nat) (l : List α) (k : Nat) : sumW f l k ≤ (l.map f).sum := by
  unfold sumW
  conv => rhs; rw [← List.take_append_drop k l, List.map_append, List.sum_append]
  omega
theorem sumW_mem {α : Type} (f : α → Nat) (l : List α) (x : α) (h : x ∈ l) : f x ≤ (l.map f).sum := by
  induction l with
  | nil => cases h
  | cons y r ih =>
    simp only [List.map_cons, List.sum_cons]
    rcases List.mem_cons.1 h with rfl | h
    · omega
    · have := ih h; omega
/-- how much a list takes -/
@[irreducible] def szW {α : Type} (f : α → Nat) (l : List α) : Nat := l.length + (l.map f).sum
theorem szW_eq {α : Type} (f : α → Nat) (l : List α) : szW f l = l.length + (l.map f).sum := by rw [szW]
theorem szW_mem {α : Type} (f : α → Nat) (l : List α) (x : α) (h : x ∈ l) : f x ≤ szW f l := by rw [szW_eq]; have := sumW_mem f l x h; omega
end Go.Proofs.Yteegnbdgfedajaa
/- Commits: copied, counted, held against each other. No condition. -/
namespace Go.Proofs.Yteegnbdgfedajaa
open Go.RowKit
set_option linter.unusedVariables false
set_option linter.unusedSimpArgs false

structure Cm where
  root : List Int
  par : List (List Int)
  num : Int
  note : ByteArray
def Cm.cells (x : Cm) (v : Value) : Array Value := (nums .u8 x.root ++ [v, .int .i64 x.num, .string x.note]).toArray
/-- the cells of a commit -/
def RCommit (w : World) (S : Nat → Prop) (cs : Array Value) (x : Cm) : Prop :=
  ∃ v, cs = x.cells v ∧ RdL tKey w S v x.par ∧ K32 x.root ∧ (Lit.int .i64 x.num).wf = true ∧ x.note.size ≤ 140737488351232
section
variable {w w' : World} {S : Nat → Prop} {cs : Array Value} {x : Cm}
theorem RCommit.ext (h : RCommit w S cs x) (e : Ext w w') : RCommit w' S cs x := by
  obtain ⟨v, h1, h2, h3⟩ := h
  exact ⟨v, h1, h2.ext (by decide) e, h3⟩
theorem Cm.st (hr : K32 x.root) (A : Option Addr) (n c : Nat) : St 35 (x.cells (.slice A n c)) := by
  refine ⟨by simp [Cm.cells, nums_length, hr.1], fun u hu => ?_⟩
  rw [Cm.cells, List.toList_toArray] at hu
  rcases List.mem_append.1 hu with hu | hu
  · exact one_nums _ _ u hu
  · simp at hu; rcases hu with rfl | rfl | rfl <;> rfl
theorem RCommit.st (h : RCommit w S cs x) : St 35 cs := by
  obtain ⟨v, rfl, ⟨A, cap, rfl, _⟩, h3, _⟩ := h
  exact Cm.st h3 _ _ _
theorem Cm.at_ (hr : K32 x.root) (v : Value) : (x.cells v)[32]? = some v ∧ (x.cells v)[33]? = some (.int .i64 x.num) ∧ (x.cells v)[34]? = some (.string x.note) := by
  have := hr.1
  refine ⟨?_, ?_, ?_⟩ <;> rw [Cm.cells, List.getElem?_toArray, List.getElem?_append_right (by rw [nums_length]; omega), nums_length, this] <;> rfl
theorem Cm.root_at (v : Value) (j : Nat) (u : Value) (hu : (numsA .u8 x.root)[j]? = some u) : (x.cells v)[0 + j]? = some u := by
  have hj : j < x.root.length := by have := (Array.getElem?_eq_some_iff.1 hu).1; simpa [numsA, nums] using this
  rw [Nat.zero_add, Cm.cells, List.getElem?_toArray, List.getElem?_append_left (by rw [nums_length]; exact hj)]
  simpa [numsA] using hu
end
theorem aggCommitL : Agg Try.prog 120 35 := Agg.mkS (fs := _) Try.underlying120 (by kernel_rfl)
theorem aggCommitI : Agg Try.prog 43 35 := Agg.mkS (fs := _) Try.underlying43 (by kernel_rfl)
theorem Own.setRow_below {α : Type} {T : Ty α} {e : TypeId} {w : World} {base g : Nat} {v : Value} {xs : List α} (h : Own T e w base v xs) (hg : g < base) (row : Array Value) : Own T e (w.setRow g row) base v xs :=
  h.kept (row := some g) ⟨rfl, rfl, rfl, by simp, fun k _ hk => setRow_other _ _ _ _ (fun e => hk (by rw [e]))⟩ (.inr fun e => by have := (h.base_le _ e).1; omega)
attribute [local irreducible] Blk in
set_option maxHeartbeats 1000000 in
set_option maxRecDepth 100000 in
theorem toCommit_o (cs : Array Value) (x : Cm) (w : World) (S : Nat → Prop) (h : RCommit w S cs x) (hln : x.par.length ≤ 1048576) :
    Calls Try.prog 91 #[.agg cs] w fun e w' => ∃ v', e = .returned (.agg (x.cells v')) ∧ Own tKey 40 w' w.heap.size v' x.par ∧ K32 x.root ∧ (Lit.int .i64 x.num).wf = true ∧ x.note.size ≤ 140737488351232 ∧ Ext w w' := by
  obtain ⟨v, rfl, hr, hroot, hnum, hnote⟩ := h
  obtain ⟨A, cap, rfl, hcap, hlen, _⟩ := id hr
  have H := Lib.hid hr
  have HL := Lib.hid (sizeN (k := .u8) hroot.1)
  have HSL := Lib.hid (show St 32 (numsA .u8 x.root) from St.nums hroot.1)
  have Hroot := Lib.hid hroot
  clear hr hroot
  have hat := Cm.at_ Hroot.out (.slice A x.par.length cap)
  have HAT := Lib.hid hat
  clear hat
  go_enter Try.func91, Try.ntmps91
  go_wp2_with (refine wpl_loadP (off := 0) (sub := numsA .u8 x.root) (((Blk.new w _ _).alloc _).alloc _) aggB32 HL.out (Cm.root_at _) rfl _ rfl rfl ?_)
  refine (toKey_any x.root Hroot.out _).mono ?_
  rintro e w1 ⟨rfl, hx⟩
  have B0 := Lib.hid ((((Blk.new w 120 (x.cells (.slice A x.par.length cap))).alloc _).alloc _).ext hx)
  have B1 := Lib.hid (((Blk.new' (g := w.heap.size + 1) (w := w.alloc _) (by simp) 43 _).alloc _).ext hx)
  have F0 := Lib.hid (Fill.start' ((Blk.new' (g := w.heap.size + 2) (w := (w.alloc _).alloc _) (by simp) 43 _).ext hx) (n := 35) rfl)
  have XW := Lib.hid ((((ext_alloc w _).alloc _).alloc _).trans hx)
  clear hx
  have c0 : ∀ row, (w1.setRow (w.heap.size + 2) row).cell? ⟨w.heap.size, 32, none⟩ = some (.slice A x.par.length cap) := fun row => (B0.out.row_far (by omega) _).at_ 32 HAT.out.1
  go_wp2_with (refine wpl_fill (n := 32) (m := 3) F0.out rfl aggKey HSL.out rfl _ _ rfl rfl rfl rfl ?_; intro row hF; have F1 := Lib.hid hF; clear hF)
  refine (toKeyS_u _ x.par _ _ (H.out.ext (by decide) (XW.out.setRow (by omega) _)) hln).mono ?_
  rintro e w2 ⟨v2, rfl, ho, hx⟩
  obtain ⟨A2, n2, c2, rfl⟩ := ho.shape3
  replace B0 := Lib.hid ((B0.out.row_far (by omega) row).ext hx)
  replace B1 := Lib.hid ((B1.out.row_far (by omega) row).ext hx)
  have F2 := Lib.hid (show Fill w2 (w.heap.size + 2) 43 (nums .u8 x.root) 3 by have := F1.out.ext hx; simpa [numsA] using this)
  have hbs : w.heap.size + 3 ≤ (w1.setRow (w.heap.size + 2) row).heap.size := by have := F1.out; obtain ⟨R, _, hb⟩ := this; have := hb.lt; omega
  replace XW := Lib.hid ((XW.out.setRow (by omega) row).trans hx)
  have HO := Lib.hid ho
  clear hx ho F0 F1 c0
  obtain ⟨R, hR, hb⟩ := F2.out
  match R, hR with
  | [r0, r1, r2], _ =>
    have hl : (nums .u8 x.root).length = 32 := by rw [nums_length, Hroot.out.1]
    have HB := Lib.hid hb
    have d0 := B0.out.at_ 33 HAT.out.2.1
    have d1 := B0.out.at_ 34 HAT.out.2.2
    have e0 : w2.cell? ⟨w.heap.size + 2, 32, none⟩ = some r0 := by rw [hb.cell, List.getElem?_toArray, List.getElem?_append_right (by rw [hl]; omega), hl]; rfl
    have e1 : w2.cell? ⟨w.heap.size + 2, 33, none⟩ = some r1 := by rw [hb.cell, List.getElem?_toArray, List.getElem?_append_right (by rw [hl]; omega), hl]; rfl
    have e2 : w2.cell? ⟨w.heap.size + 2, 34, none⟩ = some r2 := by rw [hb.cell, List.getElem?_toArray, List.getElem?_append_right (by rw [hl]; omega), hl]; rfl
    have f0 := hb.free 32
    have f1 := hb.free 33
    have f2 := hb.free 34
    clear hb
    have HST := Lib.hid (Cm.st Hroot.out A2 n2 c2)
    have hsz := HST.out.size
    have HE : Hid (Blk (((w2.setCell ⟨w.heap.size + 2, 32, none⟩ (.slice A2 n2 c2)).setCell ⟨w.heap.size + 2, 33, none⟩ (.int .i64 x.num)).setCell ⟨w.heap.size + 2, 34, none⟩ (.string x.note)) (w.heap.size + 2) 43 (x.cells (.slice A2 n2 c2))) := Lib.hid (by
      have h3 := ((HB.out.set 32 (.slice A2 n2 c2)).set 33 (.int .i64 x.num)).set 34 (.string x.note)
      have e : x.cells (.slice A2 n2 c2) = (((nums .u8 x.root ++ [r0, r1, r2]).toArray.setIfInBounds 32 (.slice A2 n2 c2)).setIfInBounds 33 (.int .i64 x.num)).setIfInBounds 34 (.string x.note) := by
        simp [Cm.cells, List.set_append, hl]
      rw [e]
      exact h3)
    have B1' := Lib.hid (((B1.out.far (p := ⟨w.heap.size + 2, 32, none⟩) (by simp) (.slice A2 n2 c2)).far (p := ⟨w.heap.size + 2, 33, none⟩) (by simp) (.int .i64 x.num)).far (p := ⟨w.heap.size + 2, 34, none⟩) (by simp) (.string x.note))
    go_wp2_with (first
      | (refine wpl_loadB HE.out aggCommitI hsz rfl _ rfl rfl ?_)
      | (refine wpl_storeB B1'.out aggCommitI HST.out rfl rfl _ _ rfl rfl rfl rfl ?_))
    refine bodyPost_ret (results_blkB rfl _ rfl aggCommitI hsz (B1'.out.setRow _)) rfl ?_
    have hsz2 := XW.out.size
    refine ⟨_, rfl, ?_, Hroot.out, hnum, hnote, (((XW.out.set (by simp <;> omega) _).set (by simp <;> omega) _).set (by simp <;> omega) _).setRow (by simp <;> omega) _⟩
    have hb3 : w.heap.size ≤ (w1.setRow (w.heap.size + 2) row).heap.size := by omega
    have q1 : w.heap.size + 2 < (w1.setRow (w.heap.size + 2) row).heap.size := by omega
    have q2 : w.heap.size + 1 < (w1.setRow (w.heap.size + 2) row).heap.size := by omega
    exact ((((HO.out.set_below (p := ⟨w.heap.size + 2, 32, none⟩) q1 (.slice A2 n2 c2)).set_below (p := ⟨w.heap.size + 2, 33, none⟩) q1 (.int .i64 x.num)).set_below (p := ⟨w.heap.size + 2, 34, none⟩) q1 (.string x.note)).setRow_below q2 _).le hb3
theorem toCommit_u (cs : Array Value) (x : Cm) (w : World) (S : Nat → Prop) (h : RCommit w S cs x) (hln : x.par.length ≤ 1048576) :
    Calls Try.prog 91 #[.agg cs] w fun e w' => ∃ cs', e = .returned (.agg cs') ∧ RCommit w' (fun g => w.heap.size ≤ g ∧ g < w'.heap.size) cs' x ∧ Ext w w' := by
  refine (toCommit_o cs x w S h hln).mono ?_
  rintro e w' ⟨v', rfl, ho, h1, h2, h3, hx⟩
  exact ⟨_, rfl, ⟨v', rfl, ho.rd, h1, h2, h3⟩, hx⟩
set_option maxHeartbeats 1000000 in
set_option maxRecDepth 100000 in
theorem szCommit_u (cs : Array Value) (x : Cm) (l : Int) (w : World) (S : Nat → Prop) (h : RCommit w S cs x) (h0 : -1 ≤ l) (h1 : l ≤ 1048576) :
    Calls Try.prog 88 #[.agg cs, .int .i64 l] w fun e w' => e = .returned (.int .i64 (if l - (x.par.length + x.note.size : Nat) < 0 then -1 else l - (x.par.length + x.note.size : Nat))) ∧ Ext w w' := by
  obtain ⟨v, rfl, hr, hroot, hnum, hnote⟩ := h
  obtain ⟨A, cap, rfl, hcap, hlen, _⟩ := id hr
  have hat := Cm.at_ hroot (.slice A x.par.length cap)
  have c0 : (w.alloc (.cells (x.cells (.slice A x.par.length cap)) 120)).cell? ⟨w.heap.size, 32, none⟩ = some (.slice A x.par.length cap) := (Blk.new w _ _).at_ 32 hat.1
  have c1 : (w.alloc (.cells (x.cells (.slice A x.par.length cap)) 120)).cell? ⟨w.heap.size, 34, none⟩ = some (.string x.note) := (Blk.new w _ _).at_ 34 hat.2.2
  clear hat hr
  have hc := fun W => szKeyS_any A x.par.length cap l (by omega) h0 h1 W
  by_cases h2 : l - (x.par.length : Int) < 0
  · rw [if_pos (by omega)]
    simp only [if_pos h2] at hc
    go_enter Try.func88, Try.ntmps88
    go_wp2_with fail
    refine (hc _).mono ?_
    rintro e w' ⟨rfl, rfl⟩
    go_wp2
    go_ret
    exact ⟨rfl, ext_alloc _ _⟩
  · simp only [if_neg h2] at hc
    by_cases h3 : l - (x.par.length : Int) - x.note.size < 0
    · rw [if_pos (by omega)]
      go_enter Try.func88, Try.ntmps88
      go_wp2_with fail
      refine (hc _).mono ?_
      rintro e w' ⟨rfl, rfl⟩
      go_wp2
      go_ret
      exact ⟨rfl, ext_alloc _ _⟩
    · rw [if_neg (by omega)]
      go_enter Try.func88, Try.ntmps88
      go_wp2_with fail
      refine (hc _).mono ?_
      rintro e w' ⟨rfl, rfl⟩
      go_wp2
      go_ret
      exact ⟨ret_int (by omega), ext_alloc _ _⟩

attribute [local irreducible] Blk in
set_option maxHeartbeats 1000000 in
set_option maxRecDepth 100000 in
theorem eqCommit_u (cs cs' : Array Value) (x : Cm) (w : World) (S S' : Nat → Prop) (h : RCommit w S cs x) (h' : RCommit w S' cs' x) :
    Calls Try.prog 26 #[.agg cs, .agg cs'] w fun e w' => e = .returned (.bool true) ∧ Ext w w' := by
  obtain ⟨v, rfl, hr, hroot, hnum, hnote⟩ := h
  obtain ⟨v', rfl, hr', _, _, _⟩ := h'
  obtain ⟨A, cap, rfl, _⟩ := id hr
  obtain ⟨A', cap', rfl, _⟩ := id hr'
  have H := Lib.hid hr
  have H' := Lib.hid hr'
  have HL := Lib.hid (sizeN (k := .u8) hroot.1)
  have Hroot := Lib.hid hroot
  have HAT := Lib.hid (Cm.at_ hroot (.slice A x.par.length cap))
  have HAT' := Lib.hid (Cm.at_ hroot (.slice A' x.par.length cap'))
  have q1 : (x.num != x.num) = false := by simp
  have q2 : (x.note.toList != x.note.toList) = false := by simp
  clear hr hr' hroot
  go_enter Try.func26, Try.ntmps26
  go_wp2_with (first
    | (refine wpl_loadP (off := 0) (sub := numsA .u8 x.root) ((Blk.new w _ _).alloc _) aggKey HL.out (Cm.root_at (.slice A x.par.length cap)) rfl _ rfl rfl ?_)
    | (refine wpl_loadP (off := 0) (sub := numsA .u8 x.root) (Blk.new' (g := w.heap.size + 1) (by simp) _ _) aggKey HL.out (Cm.root_at (.slice A' x.par.length cap')) rfl _ rfl rfl ?_))
  refine (eqKey_any _ _ Hroot.out Hroot.out _).mono ?_
  rintro e w1 ⟨rfl, hx⟩
  rw [beq_self_eq_true]
  have B0 := Lib.hid (((Blk.new w 43 (x.cells (.slice A x.par.length cap))).alloc (.cells (x.cells (.slice A' x.par.length cap')) 43)).ext hx)
  have B1 := Lib.hid ((Blk.new' (g := w.heap.size + 1) (w := w.alloc (.cells (x.cells (.slice A x.par.length cap)) 43)) (by simp) 43 (x.cells (.slice A' x.par.length cap'))).ext hx)
  have XW := Lib.hid (((ext_alloc w _).alloc _).trans hx)
  clear hx
  have c0 := B0.out.at_ 32 HAT.out.1
  have c1 := B1.out.at_ 32 HAT'.out.1
  go_wp2_with fail
  refine (eqKeyS_u _ _ x.par _ S S' (H.out.ext (by decide) XW.out) (H'.out.ext (by decide) XW.out)).mono ?_
  rintro e w2 ⟨rfl, hx⟩
  have d0 := (B0.out.ext hx).at_ 33 HAT.out.2.1
  have d1 := (B1.out.ext hx).at_ 33 HAT'.out.2.1
  have e0 := (B0.out.ext hx).at_ 34 HAT.out.2.2
  have e1 := (B1.out.ext hx).at_ 34 HAT'.out.2.2
  replace XW := Lib.hid (XW.out.trans hx)
  clear hx B0 B1 c0 c1
  go_wp2_with fail
  go_ret
  exact ⟨rfl, XW.out⟩

end Go.Proofs.Yteegnbdgfedajaa
/- Numbers of bytes, the lowest one first. No condition. -/
namespace Go.Proofs.Yteegnbdgfedajaa
open Go.RowKit
set_option linter.unusedVariables false
set_option linter.unusedSimpArgs false

/-- the number of bytes, the lowest one first -/
def littleN : List Int → Int
  | [] => 0
  | x :: r => x + 256 * littleN r
theorem littleN_snoc (l : List Int) (x : Int) : littleN (l ++ [x]) = littleN l + x * 256 ^ l.length := by
  induction l with
  | nil => simp [littleN]
  | cons y r ih =>
    simp only [List.cons_append, littleN, ih, List.length_cons, Int.pow_succ]
    rw [Int.mul_add, ← Int.add_assoc, Int.mul_left_comm, Int.mul_comm 256 (256 ^ r.length)]
theorem littleN_bound (l : List Int) (h : B8 l) : 0 ≤ littleN l ∧ littleN l < 256 ^ l.length := by
  induction l with
  | nil => simp [littleN]
  | cons y r ih =>
    have h1 := ih (fun x hx => h x (by simp [hx]))
    have h2 := h y (by simp)
    simp only [littleN, List.length_cons, Int.pow_succ]
    omega
theorem take_snoc (xs : List Int) (k : Nat) (h : k < xs.length) : xs.take (k + 1) = xs.take k ++ [gI xs k] := by
  rw [List.take_succ_eq_append_getElem h, gI_lt h]
theorem B8.take {xs : List Int} (h : B8 xs) (k : Nat) : B8 (xs.take k) := fun x hx => h x (List.mem_of_mem_take hx)
theorem B8.drop {xs : List Int} (h : B8 xs) (k : Nat) : B8 (xs.drop k) := fun x hx => h x (List.mem_of_mem_drop hx)
theorem B8.append {xs ys : List Int} (h : B8 xs) (k : B8 ys) : B8 (xs ++ ys) := fun x hx => (List.mem_append.1 hx).elim (h x) (k x)
theorem wraps_u64 (n : Int) (h₀ : 0 ≤ n) (h₁ : n < 2 ^ 64) : IntKind.u64.wrap n = n := by
  simp [IntKind.wrap, IntKind.bits, IntKind.signed]; omega
theorem wraps_u32 (n : Int) (h₀ : 0 ≤ n) (h₁ : n < 2 ^ 32) : IntKind.u32.wrap n = n := by
  simp [IntKind.wrap, IntKind.bits, IntKind.signed]; omega
theorem or_comm_nat (k : IntKind) (j : Nat) (hj : j ≤ k.bits) (hk : ∀ n : Int, 0 ≤ n → n < 2 ^ j → k.wrap n = n) (x y : Int) (h0 : 0 ≤ x) (h1 : x < 2 ^ j) (h2 : 0 ≤ y) (h3 : y < 2 ^ j) : bits .or k x y = bits .or k y x := by
  obtain ⟨a, rfl⟩ := Int.eq_ofNat_of_zero_le h0
  obtain ⟨b, rfl⟩ := Int.eq_ofNat_of_zero_le h2
  rw [(bits_nat k j hj hk a b (by exact_mod_cast h1) (by exact_mod_cast h3)).2, (bits_nat k j hj hk b a (by exact_mod_cast h3) (by exact_mod_cast h1)).2, Nat.or_comm]
theorem pow256 (k : Nat) : (256 : Int) ^ k = 2 ^ (8 * k) := by rw [Int.pow_mul]; rfl
/-- a byte laid above what is there -/
theorem or_above (a x : Int) (k : Nat) (hk : k ≤ 7) (h0 : 0 ≤ a) (h1 : a < 256 ^ k) (h2 : 0 ≤ x) (h3 : x ≤ 255) : bits .or .u64 a (IntKind.u64.wrap (x * 2 ^ (8 * k))) = a + x * 256 ^ k := by
  rw [← pow256]
  have hp : (256 : Int) ^ k * 256 ≤ 2 ^ 64 := by
    rw [← Int.pow_succ]
    rcases (show k = 0 ∨ k = 1 ∨ k = 2 ∨ k = 3 ∨ k = 4 ∨ k = 5 ∨ k = 6 ∨ k = 7 by omega) with rfl | rfl | rfl | rfl | rfl | rfl | rfl | rfl <;> decide
  have hpos : (0 : Int) < 256 ^ k := Int.pow_pos (by decide)
  have hx : x * 256 ^ k ≤ 255 * 256 ^ k := Int.mul_le_mul_of_nonneg_right h3 (by omega)
  have hx0 : 0 ≤ x * 256 ^ k := Int.mul_nonneg h2 (by omega)
  rw [wraps_u64 (x * 256 ^ k) hx0 (by omega), or_comm_nat .u64 64 (by decide) wraps_u64 a (x * 256 ^ k) h0 (by omega) hx0 (by omega)]
  rw [bits_join .u64 64 (by decide) wraps_u64 (8 * k) (x * 256 ^ k) a hx0 (by rw [← pow256]; exact Int.mul_emod_left _ _) (by omega) h0 (by rw [← pow256]; exact h1) (by omega), Int.add_comm]

theorem little_step (xs : List Int) (h : B8 xs) (k : Nat) (hk : k < xs.length) (h7 : k ≤ 7) :
    bits .or .u64 (littleN (xs.take k)) (IntKind.u64.wrap (gI xs k * 2 ^ (8 * k))) = littleN (xs.take (k + 1)) := by
  have hb := littleN_bound (xs.take k) (h.take k)
  have hl : (xs.take k).length = k := by rw [List.length_take]; omega
  rw [hl] at hb
  have hx := h.get k
  rw [or_above _ _ k h7 hb.1 hb.2 hx.1 hx.2, take_snoc xs k hk, littleN_snoc, hl]

end Go.Proofs.Yteegnbdgfedajaa
/- Small functions of the package slices at bytes, and of numbers. No condition. -/
namespace Go.Proofs.Yteegnbdgfedajaa
open Go.RowKit
set_option linter.unusedVariables false
set_option linter.unusedSimpArgs false

theorem rowByte : Row Try.prog tByte 22 5 1 := Row.mk' Try.underlying22 (.int .u8 0) (by kernel_rfl) rfl (by decide) (by decide)


/-! ### numbers -/
set_option maxHeartbeats 400000 in
theorem l00In_any (n a b : Int) (w : World) : Calls Try.prog 55 #[.int .i64 n, .int .i64 a, .int .i64 b] w fun e w' => e = .returned (.bool (decide (a ≤ n) && decide (n ≤ b))) ∧ w = w' := by
  by_cases h : a ≤ n
  · have h1 : decide (a ≤ n) = true := by simpa using h
    simp only [h1, Bool.true_and]
    go_enter Try.func55, Try.ntmps55
    go_wp2
    go_ret
    exact ⟨rfl, rfl⟩
  · have h1 : decide (a ≤ n) = false := by simpa using h
    simp only [h1, Bool.false_and]
    go_enter Try.func55, Try.ntmps55
    go_wp2
    go_ret
    exact ⟨rfl, rfl⟩
set_option maxHeartbeats 400000 in
theorem within_any (n a b : Int) (w : World) : Calls Try.prog 87 #[.int .i64 n, .int .i64 a, .int .i64 b] w fun e w' => e = .returned (.bool (decide (a ≤ n) && decide (n ≤ b))) ∧ w = w' := by
  by_cases h : a ≤ n
  · have h1 : decide (a ≤ n) = true := by simpa using h
    simp only [h1, Bool.true_and]
    go_enter Try.func87, Try.ntmps87
    go_wp2
    go_ret
    exact ⟨rfl, rfl⟩
  · have h1 : decide (a ≤ n) = false := by simpa using h
    simp only [h1, Bool.false_and]
    go_enter Try.func87, Try.ntmps87
    go_wp2
    go_ret
    exact ⟨rfl, rfl⟩
theorem sizeB_any (A : Option Addr) (n c : Nat) (w : World) : Calls Try.prog 124 #[.slice A n c] w fun e w' => e = .returned (.int .i64 n) ∧ w = w' := by
  go_enter Try.func124, Try.ntmps124
  go_wp2
  go_ret
  exact ⟨rfl, rfl⟩

end Go.Proofs.Yteegnbdgfedajaa
/- Lists of entries: copied, counted, held against each other. No condition. -/
namespace Go.Proofs.Yteegnbdgfedajaa
open Go.RowKit
set_option linter.unusedVariables false
set_option linter.unusedSimpArgs false

abbrev En := ByteArray × ByteArray
def tEnt : Ty En := ⟨2, fun e => [.string e.1, .string e.2], fun e => e.1.size ≤ 140737488351232 ∧ e.2.size ≤ 140737488351232, fun _ _ => rfl, fun _ u hu => by simp at hu; rcases hu with rfl | rfl <;> rfl⟩
theorem toEntT_any (a : En) (ha : tEnt.ok a) (w : World) :
    Calls Try.prog 109 #[.agg (tEnt.enc a).toArray] w fun e w' => e = .returned (.agg (tEnt.enc a).toArray) ∧ Ext w w' := toEntry_any a.1 a.2 w
set_option maxHeartbeats 1000000 in
set_option maxRecDepth 100000 in
theorem toEntryS_u (v : Value) (xs : List En) (w : World) (S : Nat → Prop) (h : RdL tEnt w S v xs) (hln : xs.length ≤ 1048576) :
    Calls Try.prog 92 #[v] w fun e w' => ∃ v', e = .returned v' ∧ Own tEnt 124 w' w.heap.size v' xs ∧ Ext w w' := by
  obtain ⟨A, cap, rfl, hcap, hlen, hrd, hok⟩ := h
  have Hrd := Lib.hid hrd
  have Hok := Lib.hid hok
  have HF := Lib.hid (flat_length tEnt xs hok)
  clear hrd hok
  obtain ⟨Z, hms, hm⟩ := make_rowN 94 124 2 32 Try.underlying94 (by kernel_rfl) .i64 .i64 xs.length (by omega) (by omega)
  have HMS := Lib.hid hms
  clear hms
  go_enter Try.func92, Try.ntmps92
  go_wp2
  go_loopw [4] (fun i wr => ∃ k : Nat, k ≤ xs.length ∧ i = .int .i64 k ∧ Fill wr w.heap.size 124 ((xs.take k).flatMap (tEnt).enc) ((xs.length - k) * 2) ∧ Ext w wr)
    (fun i _ => xs.length - (intOf i).toNat)
  case atStart => exact ⟨0, by omega, rfl, by rw [List.take_zero]; exact Fill.start' (Blk.new w _ _) (by rw [HMS.out, Nat.sub_zero]), ext_alloc _ _⟩
  case round =>
    obtain ⟨k, hk, rfl, hF, hx⟩ := hrel
    have HFl := Lib.hid hF
    have HX := Lib.hid hx
    clear hm hF hx
    by_cases hlt : k < xs.length
    · obtain ⟨g, o, rfl, hs, hc⟩ := Hrd.out.elem Hok.out k hlt
      have hx0 : (tEnt).ok xs[k] := Hok.out _ (List.getElem_mem hlt)
      have HX0 := Lib.hid hx0
      have hd : ∀ j u, ((tEnt).enc xs[k])[j]? = some u → wr.cell? ⟨g, o + k * 2 + j, none⟩ = some u := fun j u hu => HX.out.cell (hc j u hu)
      have HD := Lib.hid hd
      have HL := Lib.hid (flat_length tEnt (xs.take k) (fun x hx => Hok.out x (List.mem_of_mem_take hx)))
      have HTK := Lib.hid (show (xs.take k).length = k by rw [List.length_take]; omega)
      have HSN := Lib.hid (show (xs.take (k + 1)).flatMap (tEnt).enc = (xs.take k).flatMap (tEnt).enc ++ (tEnt).enc xs[k] by rw [List.take_succ_eq_append_getElem hlt, List.flatMap_append, List.flatMap_cons, List.flatMap_nil, List.append_nil])
      have HST := Lib.hid (show St 2 ((tEnt).enc xs[k]).toArray from ⟨by rw [List.size_toArray]; exact (tEnt).len _ hx0, by simpa using (tEnt).one _⟩)
      have HMU := Lib.hid (show (xs.length - k) * 2 = 2 + (xs.length - (k + 1)) * 2 by omega)
      clear hc hd hx0
      have hi : (0 : Int) ≤ (k : Int) := by omega
      go_wp2_with (refine wpl_load ⟨g, o + k * 2, none⟩ ((tEnt).enc xs[k]) (by rw [(tEnt).len _ HX0.out]; exact aggEntryL) rfl _ rfl rfl (fun j u hu => by rw [Addr.add_lit]; exact HD.out j u hu) ?_)
      refine (toEntT_any xs[k] HX0.out _).mono ?_
      rintro e w1 ⟨rfl, hx⟩
      have HF2 := Lib.hid (HFl.out.ext hx)
      have HX2 := Lib.hid (HX.out.trans hx)
      clear hx HX HFl HD
      go_wp2_with (refine wpl_fill (n := 2) (m := (xs.length - (k + 1)) * 2) (by rw [← HMU.out]; exact HF2.out) (by rw [HL.out, HTK.out]; rfl) aggEntryI HST.out rfl _ _ rfl rfl rfl rfl ?_; intro row hF; have HF3 := Lib.hid hF; clear hF)
      go_roundw
      case rel => exact ⟨k + 1, by omega, by go_num, by rw [HSN.out]; simpa using HF3.out, HX2.out.setRow (Nat.le_refl _) _⟩
      case measure => simp [intOf]; omega
    · obtain rfl : k = xs.length := by omega
      have hb := HFl.out
      rw [List.take_length, Nat.sub_self, Nat.zero_mul] at hb
      have HB := Lib.hid hb.done
      clear hb
      go_wp2
      go_ret
      exact ⟨_, rfl, Own.of_blk tEnt HB.out (Nat.le_refl _) hlen Hok.out, HX.out⟩

set_option maxHeartbeats 1000000 in
set_option maxRecDepth 100000 in
theorem eqEntT_any (a : En) (ha : tEnt.ok a) (w : World) :
    Calls Try.prog 110 #[.agg (tEnt.enc a).toArray, .agg (tEnt.enc a).toArray] w fun e w' => e = .returned (.bool true) ∧ Ext w w' := by
  have q1 : (a.1.toList != a.1.toList) = false := by simp
  have q2 : (a.2.toList != a.2.toList) = false := by simp
  show Calls Try.prog 110 #[.agg #[.string a.1, .string a.2], .agg #[.string a.1, .string a.2]] w _
  go_enter Try.func110, Try.ntmps110
  go_wp2
  go_ret
  exact ⟨rfl, (ext_alloc _ _).alloc _⟩
set_option maxHeartbeats 1000000 in
set_option maxRecDepth 100000 in
theorem eqEntryS_u (v u : Value) (xs : List En) (w : World) (S S' : Nat → Prop) (h : RdL tEnt w S v xs) (h' : RdL tEnt w S' u xs) :
    Calls Try.prog 95 #[v, u] w fun e w' => e = .returned (.bool true) ∧ Ext w w' := by
  obtain ⟨A, cap, rfl, hcap, hlen, hrd, hok⟩ := h
  obtain ⟨A', cap', rfl, hcap', hlen', hrd', hok'⟩ := h'
  have Hrd := Lib.hid hrd
  have Hrd' := Lib.hid hrd'
  have Hok := Lib.hid hok
  clear hrd hok hrd' hok'
  have hl1 : ((xs.length : Int) != (xs.length : Int)) = false := by simp
  go_enter Try.func95, Try.ntmps95
  go_wp2
  go_loopw [5] (fun i wr => ∃ k : Nat, k ≤ xs.length ∧ i = .int .i64 k ∧ Ext w wr) (fun i _ => xs.length - (intOf i).toNat)
  case atStart => exact ⟨0, by omega, rfl, Ext.refl _⟩
  case round =>
    obtain ⟨k, hk, rfl, hx⟩ := hrel
    have HX := Lib.hid hx
    clear hx hl1
    by_cases hlt : k < xs.length
    · obtain ⟨g, o, rfl, hs, hc⟩ := Hrd.out.elem Hok.out k hlt
      obtain ⟨g2, o2, rfl, hs2, hc2⟩ := Hrd'.out.elem Hok.out k hlt
      have HX0 := Lib.hid (show (tEnt).ok xs[k] from Hok.out _ (List.getElem_mem hlt))
      have HD := Lib.hid (show ∀ j u, ((tEnt).enc xs[k])[j]? = some u → wr.cell? ⟨g, o + k * 2 + j, none⟩ = some u from fun j u hu => HX.out.cell (hc j u hu))
      have HD2 := Lib.hid (show ∀ j u, ((tEnt).enc xs[k])[j]? = some u → wr.cell? ⟨g2, o2 + k * 2 + j, none⟩ = some u from fun j u hu => HX.out.cell (hc2 j u hu))
      clear hc hc2
      have hi : (0 : Int) ≤ (k : Int) := by omega
      have hi2 : (k : Int) < (xs.length : Int) := by omega
      go_wp2_with fail
      refine wp_region_held_drew (S := fun W => Ext wr W) (by kernel_rfl) (Ext.refl _).drew (fun hHeld => ?_)
      refine wpAnyH_take (i := 0) (oi := ?oiq0) (v := ?vq0) ?hiq0 (by kernel_rfl) (by kernel_rfl) (by kernel_rfl) ?hQq0 ?hyq0 (by assumption) ?restq0
      case hiq0 => simp only [List.getElem?_toArray, List.getElem?_cons_zero, List.getElem?_cons_succ]; rfl
      case hQq0 => exact fun _ _ _ h => h
      case hyq0 => exact Or.inl ⟨by rfl, by intro w hSw; go_simp; with_reducible rfl⟩
      try simp only [Act.put, List.setIfInBounds_toArray, List.set_cons_zero, List.set_cons_succ]
      refine wpAnyH_take (i := 1) (oi := ?oiq1) (v := ?vq1) ?hiq1 (by kernel_rfl) (by kernel_rfl) (by kernel_rfl) ?hQq1 ?hyq1 (by assumption) ?restq1
      case hiq1 => simp only [List.getElem?_toArray, List.getElem?_cons_zero, List.getElem?_cons_succ]; rfl
      case hQq1 => exact fun _ _ _ h => h
      case hyq1 => exact Or.inl ⟨by rfl, by intro w hSw; go_simp; with_reducible rfl⟩
      try simp only [Act.put, List.setIfInBounds_toArray, List.set_cons_zero, List.set_cons_succ]
      refine wpAnyH_take (i := 2) (oi := ?oiq2) (v := ?vq2) ?hiq2 (by kernel_rfl) (by kernel_rfl) (by kernel_rfl) ?hQq2 ?hyq2 (by assumption) ?restq2
      case hiq2 => simp only [List.getElem?_toArray, List.getElem?_cons_zero, List.getElem?_cons_succ]; rfl
      case hQq2 => exact fun _ _ _ h => h
      case hyq2 => exact Or.inl ⟨by rfl, by intro w hSw; go_simp; with_reducible rfl⟩
      try simp only [Act.put, List.setIfInBounds_toArray, List.set_cons_zero, List.set_cons_succ]
      refine wpAnyH_take (i := 3) (oi := ?oiq3) (v := (.agg ((tEnt).enc xs[k]).toArray)) ?hiq3 (by kernel_rfl) (by kernel_rfl) (by kernel_rfl) ?hQq3 ?hyq3 (by assumption) ?restq3
      case hiq3 => simp only [List.getElem?_toArray, List.getElem?_cons_zero, List.getElem?_cons_succ]; rfl
      case hQq3 => exact fun _ _ _ h => h
      case hyq3 => refine yields_loadR g (o + k * 2) ((tEnt).enc xs[k]) (by rw [(tEnt).len _ HX0.out]; exact aggEntryI) HD.out ?_ _ rfl rfl; rfl
      try simp only [Act.put, List.setIfInBounds_toArray, List.set_cons_zero, List.set_cons_succ]
      refine wpAnyH_take (i := 4) (oi := ?oiq4) (v := ?vq4) ?hiq4 (by kernel_rfl) (by kernel_rfl) (by kernel_rfl) ?hQq4 ?hyq4 (by assumption) ?restq4
      case hiq4 => simp only [List.getElem?_toArray, List.getElem?_cons_zero, List.getElem?_cons_succ]; rfl
      case hQq4 => exact fun _ _ _ h => h
      case hyq4 => exact Or.inl ⟨by rfl, by intro w hSw; go_simp; with_reducible rfl⟩
      try simp only [Act.put, List.setIfInBounds_toArray, List.set_cons_zero, List.set_cons_succ]
      refine wpAnyH_take (i := 5) (oi := ?oiq5) (v := ?vq5) ?hiq5 (by kernel_rfl) (by kernel_rfl) (by kernel_rfl) ?hQq5 ?hyq5 (by assumption) ?restq5
      case hiq5 => simp only [List.getElem?_toArray, List.getElem?_cons_zero, List.getElem?_cons_succ]; rfl
      case hQq5 => exact fun _ _ _ h => h
      case hyq5 => exact Or.inl ⟨by rfl, by intro w hSw; go_simp; with_reducible rfl⟩
      try simp only [Act.put, List.setIfInBounds_toArray, List.set_cons_zero, List.set_cons_succ]
      refine wpAnyH_take (i := 6) (oi := ?oiq6) (v := ?vq6) ?hiq6 (by kernel_rfl) (by kernel_rfl) (by kernel_rfl) ?hQq6 ?hyq6 (by assumption) ?restq6
      case hiq6 => simp only [List.getElem?_toArray, List.getElem?_cons_zero, List.getElem?_cons_succ]; rfl
      case hQq6 => exact fun _ _ _ h => h
      case hyq6 => exact Or.inl ⟨by rfl, by intro w hSw; go_simp; with_reducible rfl⟩
      try simp only [Act.put, List.setIfInBounds_toArray, List.set_cons_zero, List.set_cons_succ]
      refine wpAnyH_take (i := 7) (oi := ?oiq7) (v := (.agg ((tEnt).enc xs[k]).toArray)) ?hiq7 (by kernel_rfl) (by kernel_rfl) (by kernel_rfl) ?hQq7 ?hyq7 (by assumption) ?restq7
      case hiq7 => simp only [List.getElem?_toArray, List.getElem?_cons_zero, List.getElem?_cons_succ]; rfl
      case hQq7 => exact fun _ _ _ h => h
      case hyq7 => refine yields_loadR g2 (o2 + k * 2) ((tEnt).enc xs[k]) (by rw [(tEnt).len _ HX0.out]; exact aggEntryI) HD2.out ?_ _ rfl rfl; rfl
      try simp only [Act.put, List.setIfInBounds_toArray, List.set_cons_zero, List.set_cons_succ]
      refine wpAnyH_ready (rs := [8]) (by kernel_rfl) (by simp) (AllReadyH.cons (o := ?o8) ?h8 (fun K hK => ?s8) AllReadyH.nil)
      case h8 => simp only [List.getElem?_toArray, List.getElem?_cons_zero, List.getElem?_cons_succ]; rfl
      go_simp
      refine (eqEntT_any xs[k] HX0.out _).mono ?_
      rintro e w1 ⟨rfl, hx⟩
      have hH2 := hHeld.trans hx
      refine hK.out _ _ hH2 (fun _ => ?_)
      clear hHeld hK K
      have hHeld := hH2
      clear hH2 hx
      try simp only [Act.put, List.setIfInBounds_toArray, List.set_cons_zero, List.set_cons_succ]
      refine wpAnyH_take (i := 9) (oi := ?oiq9) (v := ?vq9) ?hiq9 (by kernel_rfl) (by kernel_rfl) (by kernel_rfl) ?hQq9 ?hyq9 (by assumption) ?restq9
      case hiq9 => simp only [List.getElem?_toArray, List.getElem?_cons_zero, List.getElem?_cons_succ]; rfl
      case hQq9 => exact fun _ _ _ h => h
      case hyq9 => exact Or.inl ⟨by rfl, by intro w hSw; go_simp; with_reducible rfl⟩
      try simp only [Act.put, List.setIfInBounds_toArray, List.set_cons_zero, List.set_cons_succ]
      refine wpAnyH_done (by kernel_rfl) ?_ _
      have HX2 := Lib.hid (HX.out.trans hHeld)
      clear hHeld
      go_wp2
      go_roundw
      case rel => exact ⟨k + 1, by omega, by go_num, HX2.out⟩
      case measure => simp [intOf]; omega
    · go_wp2
      go_ret
      exact ⟨rfl, HX.out⟩

/-- how much the entries take -/
@[irreducible] def entsN (l : List En) : Nat := l.length + (l.map fun e => e.1.size + e.2.size).sum
theorem entsN_eq (l : List En) : entsN l = l.length + (l.map fun e => e.1.size + e.2.size).sum := by rw [entsN]
def sumN (l : List En) (k : Nat) : Nat := ((l.take k).map fun e => e.1.size + e.2.size).sum
theorem sumN_zero (l : List En) : sumN l 0 = 0 := by simp [sumN]
theorem sumN_succ (l : List En) (k : Nat) (h : k < l.length) : sumN l (k + 1) = sumN l k + (l[k].1.size + l[k].2.size) := by
  unfold sumN
  rw [List.take_succ_eq_append_getElem h, List.map_append, List.sum_append]; simp
theorem sumN_le (l : List En) (k : Nat) : sumN l k ≤ (l.map fun e => e.1.size + e.2.size).sum := by
  unfold sumN
  conv => rhs; rw [← List.take_append_drop k l, List.map_append, List.sum_append]
  omega
set_option maxHeartbeats 1000000 in
set_option maxRecDepth 100000 in
theorem szEntryS_u (v : Value) (xs : List En) (l : Int) (w : World) (S : Nat → Prop) (h : RdL tEnt w S v xs) (h0 : -1 ≤ l) (h1 : l ≤ 1048576) :
    Calls Try.prog 89 #[v, .int .i64 l] w fun e w' => e = .returned (.int .i64 (if l - (entsN xs : Nat) < 0 then -1 else l - (entsN xs : Nat))) ∧ Ext w w' := by
  rw [entsN_eq]
  obtain ⟨A, cap, rfl, hcap, hlen, hrd, hok⟩ := h
  have Hrd := Lib.hid hrd
  have Hok := Lib.hid hok
  obtain ⟨T, hT⟩ : ∃ T, (xs.map fun e => e.1.size + e.2.size).sum = T := ⟨_, rfl⟩
  have hle := fun k => sumN_le xs k
  rw [hT] at hle ⊢
  have HT := Lib.hid hT
  have HLE := Lib.hid hle
  clear hrd hok hT hle
  by_cases h2 : l - (xs.length : Int) < 0
  · rw [if_pos (by omega)]
    go_enter Try.func89, Try.ntmps89
    go_wp2
    go_ret
    exact ⟨rfl, Ext.refl _⟩
  · obtain ⟨z, hz⟩ : ∃ z : Int, (if l - ((xs.length + T : Nat) : Int) < 0 then -1 else l - ((xs.length + T : Nat) : Int)) = z := ⟨_, rfl⟩
    rw [hz]
    have HZ := Lib.hid hz
    clear hz
    go_enter Try.func89, Try.ntmps89
    go_wp2
    go_loopw [1, 5] (fun q i wr => ∃ k : Nat, k ≤ xs.length ∧ i = .int .i64 k ∧ q = .int .i64 (l - xs.length - (sumN xs k : Nat)) ∧ 0 ≤ l - (xs.length : Int) - (sumN xs k : Nat) ∧ Ext w wr) (fun _ i _ => xs.length - (intOf i).toNat)
    case atStart => exact ⟨0, by omega, rfl, by rw [sumN_zero]; simp, by rw [sumN_zero]; omega, Ext.refl _⟩
    case round =>
      obtain ⟨k, hk, rfl, rfl, hs, hx⟩ := hrel
      have HX := Lib.hid hx
      clear hx
      by_cases hlt : k < xs.length
      · obtain ⟨g, o, rfl, hs0, hc⟩ := Hrd.out.elem Hok.out k hlt
        have HX0 := Lib.hid (show tEnt.ok xs[k] from Hok.out _ (List.getElem_mem hlt))
        have HD0 := Lib.hid (show ∀ j u, (tEnt.enc xs[k])[j]? = some u → wr.cell? ⟨g, o + k * 2 + j, none⟩ = some u from fun j u hu => HX.out.cell (hc j u hu))
        have HSS := Lib.hid (sumN_succ xs k hlt)
        have hq := HLE.out (k + 1)
        rw [HSS.out] at hq
        clear hc
        have hi : (0 : Int) ≤ (k : Int) := by omega
        have hi2 : (k : Int) < (xs.length : Int) := by omega
        have hcz := fun W => szEntry_any xs[k].1 xs[k].2 HX0.out.1 HX0.out.2 (l - xs.length - (sumN xs k : Nat)) (by omega) (by omega) W
        by_cases h3 : l - (xs.length : Int) - (sumN xs k : Nat) - xs[k].1.size - xs[k].2.size < 0
        · simp only [if_pos h3] at hcz
          have HP := Lib.hid (show l - ((xs.length + T : Nat) : Int) < 0 by omega)
          go_wp2_with (refine wpl_load ⟨g, o + k * 2, none⟩ (tEnt.enc xs[k]) aggEntryL rfl _ rfl rfl (fun j u hu => by rw [Addr.add_lit]; exact HD0.out j u hu) ?_)
          refine (hcz _).mono ?_
          rintro e w1 ⟨rfl, hx⟩
          have HX2 := Lib.hid (HX.out.trans hx)
          clear hx
          go_wp2
          go_ret
          exact ⟨by rw [← HZ.out, if_pos HP.out]; rfl, HX2.out⟩
        · simp only [if_neg h3] at hcz
          go_wp2_with (refine wpl_load ⟨g, o + k * 2, none⟩ (tEnt.enc xs[k]) aggEntryL rfl _ rfl rfl (fun j u hu => by rw [Addr.add_lit]; exact HD0.out j u hu) ?_)
          refine (hcz _).mono ?_
          rintro e w1 ⟨rfl, hx⟩
          have HX2 := Lib.hid (HX.out.trans hx)
          clear hx hcz
          go_wp2
          go_roundw
          case rel => exact ⟨k + 1, by omega, by go_num, by rw [HSS.out]; go_num, by rw [HSS.out]; omega, HX2.out⟩
          case measure => simp [intOf]; omega
      · obtain rfl : k = xs.length := by omega
        have e : sumN xs xs.length = T := by rw [sumN, List.take_length]; exact HT.out
        have HE := Lib.hid e
        rw [e] at hs
        clear e
        have HP := Lib.hid (show ¬ l - ((xs.length + T : Nat) : Int) < 0 by omega)
        go_wp2
        go_ret
        exact ⟨by rw [← HZ.out, if_neg (Int.not_lt.2 HP.out), HE.out]; exact ret_int (by omega), HX.out⟩

end Go.Proofs.Yteegnbdgfedajaa
/- Lists of commits and lists of maps: copied, counted, held against each other. No condition. -/
namespace Go.Proofs.Yteegnbdgfedajaa
open Go.RowKit
set_option linter.unusedVariables false
set_option linter.unusedSimpArgs false

/-- a row whose elements take one cell each -/
theorem FillN.one {α : Type} {N : NR α} {w : World} {g e m : Nat} {S : Nat → Prop} {xs : List α} {CS : List (List Value)} (h : FillN N w g e S xs CS (m + 1)) {v : Value} {x : α} (hx : xs[CS.length]? = some x) (hR : N.R w S #[v] x) (hS : ∀ q, S q → q ≠ g) {off : Nat} (ho : CS.flatten.length = off) : FillN N (w.setCell ⟨g, off, none⟩ v) g e S xs (CS ++ [[v]]) m := by
  have keep : ∀ q, S q → (w.setCell ⟨g, off, none⟩ v).heap[q]? = w.heap[q]? := fun q hq => Below.heap_setCell w _ v q (hS q hq)
  have hsz : N.sz = 1 := by have := (N.st hR).size; simpa using this.symm
  have hf := h.fill.one ho v
  refine ⟨by simpa using hf, fun i es y h1 h2 => ?_, fun es hes => ?_⟩
  · rcases Nat.lt_trichotomy i CS.length with hlt | rfl | hgt
    · rw [List.getElem?_append_left hlt] at h1
      obtain ⟨h3, h4⟩ := h.rel i es y h1 h2
      exact ⟨h3, N.keep h4 keep⟩
    · rw [hx] at h2
      injection h2 with h2
      subst h2
      rw [List.getElem?_append_right (Nat.le_refl _), Nat.sub_self] at h1
      simp at h1
      subst h1
      exact ⟨by simp [hsz], by simpa using N.keep hR keep⟩
    · rw [List.getElem?_eq_none (by simp; omega)] at h1
      cases h1
  · rcases List.mem_append.1 hes with hes | hes
    · exact h.lens es hes
    · simp at hes; subst hes; simp [hsz]
def nrCommit : NR Cm where
  sz := 35
  R := RCommit
  pos := by decide
  keep := by
    rintro w w' S cs x ⟨v, h1, h2, h3⟩ hk
    exact ⟨v, h1, h2.keep hk, h3⟩
  ext := fun h e => h.ext e
  mono := by
    rintro w S S' cs x ⟨v, h1, h2, h3⟩ hk
    exact ⟨v, h1, h2.mono hk, h3⟩
  st := fun h => h.st
/-- how much a commit takes -/
def wCommit (x : Cm) : Nat := x.par.length + x.note.size
theorem szCommit_w (cs : Array Value) (x : Cm) (l : Int) (w : World) (S : Nat → Prop) (h : nrCommit.R w S cs x) (h0 : -1 ≤ l) (h1 : l ≤ 1048576) :
    Calls Try.prog 88 #[.agg cs, .int .i64 l] w fun e w' => e = .returned (.int .i64 (if l - (wCommit x : Nat) < 0 then -1 else l - (wCommit x : Nat))) ∧ Ext w w' := szCommit_u cs x l w S h h0 h1
theorem toCommit_w (cs : Array Value) (x : Cm) (w : World) (S : Nat → Prop) (h : nrCommit.R w S cs x) (hy : x.par.length ≤ 1048576) :
    Calls Try.prog 91 #[.agg cs] w fun e w' => ∃ cs', e = .returned (.agg cs') ∧ nrCommit.R w' (fun g => w.heap.size ≤ g ∧ g < w'.heap.size) cs' x ∧ Ext w w' := toCommit_u cs x w S h hy
theorem eqCommit_w (cs cs' : Array Value) (x : Cm) (w : World) (S S' : Nat → Prop) (h : nrCommit.R w S cs x) (h' : nrCommit.R w S' cs' x) :
    Calls Try.prog 26 #[.agg cs, .agg cs'] w fun e w' => e = .returned (.bool true) ∧ Ext w w' := eqCommit_u cs cs' x w S S' h h'
set_option maxHeartbeats 1000000 in
set_option maxRecDepth 100000 in
theorem toCommitS_u (v : Value) (xs : List Cm) (w : World) (S : Nat → Prop) (h : RdN nrCommit w S v xs) (hln : xs.length ≤ 1048576) (hel : ∀ x ∈ xs, x.par.length ≤ 1048576) :
    Calls Try.prog 64 #[v] w fun e w' => ∃ v', e = .returned v' ∧ RdN nrCommit w' (fun q => w.heap.size ≤ q) v' xs ∧ Ext w w' := by
  obtain ⟨A, cap, rfl, hcap, hlen⟩ := h.shape
  have H := Lib.hid h
  have HEL := Lib.hid hel
  clear h hel
  obtain ⟨Z, hms, hm⟩ := make_rowN 54 43 35 80 Try.underlying54 (by kernel_rfl) .i64 .i64 xs.length (by omega) (by omega)
  have HMS := Lib.hid hms
  clear hms
  go_enter Try.func64, Try.ntmps64
  go_wp2
  go_loopw [4] (fun i wr => ∃ (k : Nat) (CS : List (List Value)), k ≤ xs.length ∧ i = .int .i64 k ∧ CS.length = k ∧ FillN nrCommit wr w.heap.size 43 (fun q => w.heap.size < q) xs CS ((xs.length - k) * 35) ∧ Ext w wr ∧ w.heap.size < wr.heap.size)
    (fun i _ => xs.length - (intOf i).toNat)
  case atStart => exact ⟨0, [], by omega, rfl, rfl, ⟨Fill.start' (Blk.new w _ _) (by rw [HMS.out, Nat.sub_zero]), fun i es x h => by simp at h, fun es h => by simp at h⟩, ext_alloc _ _, by simp⟩
  case round =>
    obtain ⟨k, CS, hk, rfl, hcl, hF, hx, hgs⟩ := hrel
    have HFl := Lib.hid hF
    have HX := Lib.hid hx
    have HCL := Lib.hid hcl
    have HGS := Lib.hid hgs
    clear hm hF hx hcl hgs
    by_cases hlt : k < xs.length
    · obtain ⟨g, o, rfl, hs, es, hes, hc, hR⟩ := H.out.elem k hlt
      have HD := Lib.hid (show ∀ j u, es[j]? = some u → wr.cell? ⟨g, o + k * 35 + j, none⟩ = some u from fun j u hu => HX.out.cell (hc j u hu))
      have HR := Lib.hid ((nrCommit).ext hR HX.out)
      have HES := Lib.hid (show es.length = 35 from hes)
      have HXM := Lib.hid (HEL.out xs[k] (List.getElem_mem hlt))
      have HXK := Lib.hid (show xs[k]? = some xs[k] from List.getElem?_eq_getElem hlt)
      have HL := Lib.hid (show CS.flatten.length = k * 35 by rw [flatN_length CS HFl.out.lens, HCL.out]; rfl)
      have HMU := Lib.hid (show (xs.length - k) * 35 = 35 + (xs.length - (k + 1)) * 35 by omega)
      clear hc hR hes
      have hi : (0 : Int) ≤ (k : Int) := by omega
      go_wp2_with (refine wpl_load ⟨g, o + k * 35, none⟩ es (by rw [HES.out]; exact aggCommitL) rfl _ rfl rfl (fun j u hu => by rw [Addr.add_lit]; exact HD.out j u hu) ?_)
      refine (toCommit_w es.toArray xs[k] _ S HR.out HXM.out).mono ?_
      rintro e w1 ⟨cs', rfl, hR', hx⟩
      have HF2 := Lib.hid (HFl.out.ext hx)
      have HR2 := Lib.hid (show (nrCommit).R w1 (fun q => w.heap.size < q) cs' xs[k] from (nrCommit).mono hR' (fun q hq => by have h1 := HGS.out; have h2 := hq.1; omega))
      have HST := Lib.hid (show St 35 cs' from (nrCommit).st hR')
      have HX2 := Lib.hid (HX.out.trans hx)
      have HGS2 := Lib.hid (Nat.lt_of_lt_of_le HGS.out hx.size)
      clear hx HX HFl HD HR hR'
      go_wp2_with (refine wpl_fill (n := 35) (m := (xs.length - (k + 1)) * 35) (by rw [← HMU.out]; exact HF2.out.fill) (by rw [HL.out]) aggCommitI HST.out rfl _ _ rfl rfl rfl rfl ?_; intro row hF; have HF3 := Lib.hid (HF2.out.next (by rw [HCL.out]; exact HXK.out) HR2.out (fun q hq => by omega) row hF); clear hF)
      go_roundw
      case rel => exact ⟨k + 1, _, by omega, by go_num, by rw [List.length_append, HCL.out]; rfl, HF3.out, HX2.out.setRow (Nat.le_refl _) _, by simpa using HGS2.out⟩
      case measure => simp [intOf]; omega
    · obtain rfl : k = xs.length := by omega
      have hb := HFl.out
      rw [Nat.sub_self, Nat.zero_mul] at hb
      have HB := Lib.hid hb
      clear hb
      go_wp2
      go_ret
      exact ⟨_, rfl, HB.out.done HCL.out hlen _ (fun q hq => Nat.le_of_lt hq) (Nat.le_refl _), HX.out⟩

set_option maxHeartbeats 1000000 in
set_option maxRecDepth 100000 in
theorem eqCommitS_u (v u : Value) (xs : List Cm) (w : World) (S S' : Nat → Prop) (h : RdN nrCommit w S v xs) (h' : RdN nrCommit w S' u xs) :
    Calls Try.prog 70 #[v, u] w fun e w' => e = .returned (.bool true) ∧ Ext w w' := by
  obtain ⟨A, cap, rfl, hcap, hlen⟩ := h.shape
  obtain ⟨A', cap', rfl, hcap', hlen'⟩ := h'.shape
  have H := Lib.hid h
  have H' := Lib.hid h'
  clear h h'
  have hl1 : ((xs.length : Int) != (xs.length : Int)) = false := by simp
  go_enter Try.func70, Try.ntmps70
  go_wp2
  go_loopw [5] (fun i wr => ∃ k : Nat, k ≤ xs.length ∧ i = .int .i64 k ∧ Ext w wr) (fun i _ => xs.length - (intOf i).toNat)
  case atStart => exact ⟨0, by omega, rfl, Ext.refl _⟩
  case round =>
    obtain ⟨k, hk, rfl, hx⟩ := hrel
    have HX := Lib.hid hx
    clear hx hl1
    by_cases hlt : k < xs.length
    · obtain ⟨g, o, rfl, hs, es, hes, hc, hR⟩ := H.out.elem k hlt
      obtain ⟨g2, o2, rfl, hs2, es2, hes2, hc2, hR2⟩ := H'.out.elem k hlt
      have HD := Lib.hid (show ∀ j u, es[j]? = some u → wr.cell? ⟨g, o + k * 35 + j, none⟩ = some u from fun j u hu => HX.out.cell (hc j u hu))
      have HD2 := Lib.hid (show ∀ j u, es2[j]? = some u → wr.cell? ⟨g2, o2 + k * 35 + j, none⟩ = some u from fun j u hu => HX.out.cell (hc2 j u hu))
      have HR := Lib.hid ((nrCommit).ext hR HX.out)
      have HR2 := Lib.hid ((nrCommit).ext hR2 HX.out)
      have HES := Lib.hid (show es.length = 35 from hes)
      have HES2 := Lib.hid (show es2.length = 35 from hes2)
      clear hc hc2 hR hR2 hes hes2
      have hi : (0 : Int) ≤ (k : Int) := by omega
      have hi2 : (k : Int) < (xs.length : Int) := by omega
      go_wp2_with fail
      refine wp_region_held_drew (S := fun W => Ext wr W) (by kernel_rfl) (Ext.refl _).drew (fun hHeld => ?_)
      refine wpAnyH_take (i := 0) (oi := ?oiq0) (v := ?vq0) ?hiq0 (by kernel_rfl) (by kernel_rfl) (by kernel_rfl) ?hQq0 ?hyq0 (by assumption) ?restq0
      case hiq0 => simp only [List.getElem?_toArray, List.getElem?_cons_zero, List.getElem?_cons_succ]; rfl
      case hQq0 => exact fun _ _ _ h => h
      case hyq0 => exact Or.inl ⟨by rfl, by intro w hSw; go_simp; with_reducible rfl⟩
      try simp only [Act.put, List.setIfInBounds_toArray, List.set_cons_zero, List.set_cons_succ]
      refine wpAnyH_take (i := 1) (oi := ?oiq1) (v := ?vq1) ?hiq1 (by kernel_rfl) (by kernel_rfl) (by kernel_rfl) ?hQq1 ?hyq1 (by assumption) ?restq1
      case hiq1 => simp only [List.getElem?_toArray, List.getElem?_cons_zero, List.getElem?_cons_succ]; rfl
      case hQq1 => exact fun _ _ _ h => h
      case hyq1 => exact Or.inl ⟨by rfl, by intro w hSw; go_simp; with_reducible rfl⟩
      try simp only [Act.put, List.setIfInBounds_toArray, List.set_cons_zero, List.set_cons_succ]
      refine wpAnyH_take (i := 2) (oi := ?oiq2) (v := ?vq2) ?hiq2 (by kernel_rfl) (by kernel_rfl) (by kernel_rfl) ?hQq2 ?hyq2 (by assumption) ?restq2
      case hiq2 => simp only [List.getElem?_toArray, List.getElem?_cons_zero, List.getElem?_cons_succ]; rfl
      case hQq2 => exact fun _ _ _ h => h
      case hyq2 => exact Or.inl ⟨by rfl, by intro w hSw; go_simp; with_reducible rfl⟩
      try simp only [Act.put, List.setIfInBounds_toArray, List.set_cons_zero, List.set_cons_succ]
      refine wpAnyH_take (i := 3) (oi := ?oiq3) (v := (.agg es.toArray)) ?hiq3 (by kernel_rfl) (by kernel_rfl) (by kernel_rfl) ?hQq3 ?hyq3 (by assumption) ?restq3
      case hiq3 => simp only [List.getElem?_toArray, List.getElem?_cons_zero, List.getElem?_cons_succ]; rfl
      case hQq3 => exact fun _ _ _ h => h
      case hyq3 => refine yields_loadR g (o + k * 35) es (by rw [HES.out]; exact aggCommitI) HD.out ?_ _ rfl rfl; rfl
      try simp only [Act.put, List.setIfInBounds_toArray, List.set_cons_zero, List.set_cons_succ]
      refine wpAnyH_take (i := 4) (oi := ?oiq4) (v := ?vq4) ?hiq4 (by kernel_rfl) (by kernel_rfl) (by kernel_rfl) ?hQq4 ?hyq4 (by assumption) ?restq4
      case hiq4 => simp only [List.getElem?_toArray, List.getElem?_cons_zero, List.getElem?_cons_succ]; rfl
      case hQq4 => exact fun _ _ _ h => h
      case hyq4 => exact Or.inl ⟨by rfl, by intro w hSw; go_simp; with_reducible rfl⟩
      try simp only [Act.put, List.setIfInBounds_toArray, List.set_cons_zero, List.set_cons_succ]
      refine wpAnyH_take (i := 5) (oi := ?oiq5) (v := ?vq5) ?hiq5 (by kernel_rfl) (by kernel_rfl) (by kernel_rfl) ?hQq5 ?hyq5 (by assumption) ?restq5
      case hiq5 => simp only [List.getElem?_toArray, List.getElem?_cons_zero, List.getElem?_cons_succ]; rfl
      case hQq5 => exact fun _ _ _ h => h
      case hyq5 => exact Or.inl ⟨by rfl, by intro w hSw; go_simp; with_reducible rfl⟩
      try simp only [Act.put, List.setIfInBounds_toArray, List.set_cons_zero, List.set_cons_succ]
      refine wpAnyH_take (i := 6) (oi := ?oiq6) (v := ?vq6) ?hiq6 (by kernel_rfl) (by kernel_rfl) (by kernel_rfl) ?hQq6 ?hyq6 (by assumption) ?restq6
      case hiq6 => simp only [List.getElem?_toArray, List.getElem?_cons_zero, List.getElem?_cons_succ]; rfl
      case hQq6 => exact fun _ _ _ h => h
      case hyq6 => exact Or.inl ⟨by rfl, by intro w hSw; go_simp; with_reducible rfl⟩
      try simp only [Act.put, List.setIfInBounds_toArray, List.set_cons_zero, List.set_cons_succ]
      refine wpAnyH_take (i := 7) (oi := ?oiq7) (v := (.agg es2.toArray)) ?hiq7 (by kernel_rfl) (by kernel_rfl) (by kernel_rfl) ?hQq7 ?hyq7 (by assumption) ?restq7
      case hiq7 => simp only [List.getElem?_toArray, List.getElem?_cons_zero, List.getElem?_cons_succ]; rfl
      case hQq7 => exact fun _ _ _ h => h
      case hyq7 => refine yields_loadR g2 (o2 + k * 35) es2 (by rw [HES2.out]; exact aggCommitI) HD2.out ?_ _ rfl rfl; rfl
      try simp only [Act.put, List.setIfInBounds_toArray, List.set_cons_zero, List.set_cons_succ]
      refine wpAnyH_ready (rs := [8]) (by kernel_rfl) (by simp) (AllReadyH.cons (o := ?o8) ?h8 (fun K hK => ?s8) AllReadyH.nil)
      case h8 => simp only [List.getElem?_toArray, List.getElem?_cons_zero, List.getElem?_cons_succ]; rfl
      go_simp
      refine (eqCommit_w es.toArray es2.toArray xs[k] _ S S' ((nrCommit).ext HR.out hHeld) ((nrCommit).ext HR2.out hHeld)).mono ?_
      rintro e w1 ⟨rfl, hx⟩
      have hH2 := hHeld.trans hx
      refine hK.out _ _ hH2 (fun _ => ?_)
      clear hHeld hK K
      have hHeld := hH2
      clear hH2 hx
      try simp only [Act.put, List.setIfInBounds_toArray, List.set_cons_zero, List.set_cons_succ]
      refine wpAnyH_take (i := 9) (oi := ?oiq9) (v := ?vq9) ?hiq9 (by kernel_rfl) (by kernel_rfl) (by kernel_rfl) ?hQq9 ?hyq9 (by assumption) ?restq9
      case hiq9 => simp only [List.getElem?_toArray, List.getElem?_cons_zero, List.getElem?_cons_succ]; rfl
      case hQq9 => exact fun _ _ _ h => h
      case hyq9 => exact Or.inl ⟨by rfl, by intro w hSw; go_simp; with_reducible rfl⟩
      try simp only [Act.put, List.setIfInBounds_toArray, List.set_cons_zero, List.set_cons_succ]
      refine wpAnyH_done (by kernel_rfl) ?_ _
      have HX2 := Lib.hid (HX.out.trans hHeld)
      clear hHeld
      go_wp2
      go_roundw
      case rel => exact ⟨k + 1, by omega, by go_num, HX2.out⟩
      case measure => simp [intOf]; omega
    · go_wp2
      go_ret
      exact ⟨rfl, HX.out⟩

set_option maxHeartbeats 1000000 in
set_option maxRecDepth 100000 in
theorem szCommitS_u (v : Value) (xs : List Cm) (l : Int) (w : World) (S : Nat → Prop) (h : RdN nrCommit w S v xs) (h0 : -1 ≤ l) (h1 : l ≤ 1048576) :
    Calls Try.prog 60 #[v, .int .i64 l] w fun e w' => e = .returned (.int .i64 (if l - (szW wCommit xs : Nat) < 0 then -1 else l - (szW wCommit xs : Nat))) ∧ Ext w w' := by
  rw [szW_eq]
  obtain ⟨A, cap, rfl, hcap, hlen⟩ := h.shape
  have H := Lib.hid h
  obtain ⟨T, hT⟩ : ∃ T, (xs.map wCommit).sum = T := ⟨_, rfl⟩
  have hle := fun k => sumW_le wCommit xs k
  rw [hT] at hle ⊢
  have HT := Lib.hid hT
  have HLE := Lib.hid hle
  clear h hT hle
  by_cases h2 : l - (xs.length : Int) < 0
  · rw [if_pos (by omega)]
    go_enter Try.func60, Try.ntmps60
    go_wp2
    go_ret
    exact ⟨rfl, Ext.refl _⟩
  · obtain ⟨z, hz⟩ : ∃ z : Int, (if l - ((xs.length + T : Nat) : Int) < 0 then -1 else l - ((xs.length + T : Nat) : Int)) = z := ⟨_, rfl⟩
    rw [hz]
    have HZ := Lib.hid hz
    clear hz
    go_enter Try.func60, Try.ntmps60
    go_wp2
    go_loopw [1, 5] (fun q i wr => ∃ k : Nat, k ≤ xs.length ∧ i = .int .i64 k ∧ q = .int .i64 (l - xs.length - (sumW wCommit xs k : Nat)) ∧ 0 ≤ l - (xs.length : Int) - (sumW wCommit xs k : Nat) ∧ Ext w wr) (fun _ i _ => xs.length - (intOf i).toNat)
    case atStart => exact ⟨0, by omega, rfl, by rw [sumW_zero]; simp, by rw [sumW_zero]; omega, Ext.refl _⟩
    case round =>
      obtain ⟨k, hk, rfl, rfl, hs, hx⟩ := hrel
      have HX := Lib.hid hx
      clear hx
      by_cases hlt : k < xs.length
      · obtain ⟨g, o, rfl, hs0, es, hes, hc, hR⟩ := H.out.elem k hlt
        have HD0 := Lib.hid (show ∀ j u, es[j]? = some u → wr.cell? ⟨g, o + k * 35 + j, none⟩ = some u from fun j u hu => HX.out.cell (hc j u hu))
        have HES := Lib.hid (show es.length = 35 from hes)
        have HSS := Lib.hid (sumW_succ wCommit xs k hlt)
        have hq := HLE.out (k + 1)
        rw [HSS.out] at hq
        have hcz := szCommit_w es.toArray xs[k] (l - xs.length - (sumW wCommit xs k : Nat)) wr S ((nrCommit).ext hR HX.out) (by omega) (by omega)
        clear hc hR hes
        have hi : (0 : Int) ≤ (k : Int) := by omega
        have hi2 : (k : Int) < (xs.length : Int) := by omega
        by_cases h3 : l - (xs.length : Int) - (sumW wCommit xs k : Nat) - (wCommit xs[k] : Nat) < 0
        · rw [if_pos h3] at hcz
          have HP := Lib.hid (show l - ((xs.length + T : Nat) : Int) < 0 by omega)
          have HCZ := Lib.hid hcz
          clear hcz
          go_wp2_with (refine wpl_load ⟨g, o + k * 35, none⟩ es (by rw [HES.out]; exact aggCommitL) rfl _ rfl rfl (fun j u hu => by rw [Addr.add_lit]; exact HD0.out j u hu) ?_)
          refine HCZ.out.mono ?_
          rintro e w1 ⟨rfl, hx⟩
          have HX2 := Lib.hid (HX.out.trans hx)
          clear hx
          go_wp2
          go_ret
          exact ⟨by rw [← HZ.out, if_pos HP.out]; rfl, HX2.out⟩
        · rw [if_neg h3] at hcz
          have HCZ := Lib.hid hcz
          clear hcz
          go_wp2_with (refine wpl_load ⟨g, o + k * 35, none⟩ es (by rw [HES.out]; exact aggCommitL) rfl _ rfl rfl (fun j u hu => by rw [Addr.add_lit]; exact HD0.out j u hu) ?_)
          refine HCZ.out.mono ?_
          rintro e w1 ⟨rfl, hx⟩
          have HX2 := Lib.hid (HX.out.trans hx)
          clear hx
          go_wp2
          go_roundw
          case rel => exact ⟨k + 1, by omega, by go_num, by rw [HSS.out]; go_num, by rw [HSS.out]; omega, HX2.out⟩
          case measure => simp [intOf]; omega
      · obtain rfl : k = xs.length := by omega
        have e : sumW wCommit xs xs.length = T := by rw [sumW, List.take_length]; exact HT.out
        have HE := Lib.hid e
        rw [e] at hs
        clear e
        have HP := Lib.hid (show ¬ l - ((xs.length + T : Nat) : Int) < 0 by omega)
        go_wp2
        go_ret
        exact ⟨by rw [← HZ.out, if_neg (Int.not_lt.2 HP.out), HE.out]; exact ret_int (by omega), HX.out⟩

abbrev Ens := List En
def nrEnts : NR Ens where
  sz := 1
  R := fun w S cs x => ∃ v, cs = #[v] ∧ RdL tEnt w S v x
  pos := by decide
  keep := by
    rintro w w' S cs x ⟨v, h1, h2⟩ hk
    exact ⟨v, h1, h2.keep hk⟩
  ext := by
    rintro w w' S cs x ⟨v, h1, h2⟩ e
    exact ⟨v, h1, h2.ext (by decide) e⟩
  mono := by
    rintro w S S' cs x ⟨v, h1, h2⟩ hk
    exact ⟨v, h1, h2.mono hk⟩
  st := by
    rintro w S cs x ⟨v, rfl, ⟨A, cap, rfl, _⟩⟩
    exact ⟨rfl, fun u hu => by simp at hu; subst hu; rfl⟩
set_option maxHeartbeats 1000000 in
set_option maxRecDepth 100000 in
theorem toEntrySS_u (v : Value) (xs : List Ens) (w : World) (S : Nat → Prop) (h : RdN nrEnts w S v xs) (hln : xs.length ≤ 1048576) (hel : ∀ x ∈ xs, x.length ≤ 1048576) :
    Calls Try.prog 65 #[v] w fun e w' => ∃ v', e = .returned v' ∧ RdN nrEnts w' (fun q => w.heap.size ≤ q) v' xs ∧ Ext w w' := by
  obtain ⟨A, cap, rfl, hcap, hlen⟩ := h.shape
  have H := Lib.hid h
  have HEL := Lib.hid hel
  clear h hel
  obtain ⟨Z, hms, hm⟩ := make_rowN 55 94 1 24 Try.underlying55 (by kernel_rfl) .i64 .i64 xs.length (by omega) (by omega)
  have HMS := Lib.hid hms
  clear hms
  go_enter Try.func65, Try.ntmps65
  go_wp2
  go_loopw [4] (fun i wr => ∃ (k : Nat) (CS : List (List Value)), k ≤ xs.length ∧ i = .int .i64 k ∧ CS.length = k ∧ FillN nrEnts wr w.heap.size 94 (fun q => w.heap.size < q) xs CS ((xs.length - k) * 1) ∧ Ext w wr ∧ w.heap.size < wr.heap.size)
    (fun i _ => xs.length - (intOf i).toNat)
  case atStart => exact ⟨0, [], by omega, rfl, rfl, ⟨Fill.start' (Blk.new w _ _) (by rw [HMS.out, Nat.sub_zero]), fun i es x h => by simp at h, fun es h => by simp at h⟩, ext_alloc _ _, by simp⟩
  case round =>
    obtain ⟨k, CS, hk, rfl, hcl, hF, hx, hgs⟩ := hrel
    have HFl := Lib.hid hF
    have HX := Lib.hid hx
    have HCL := Lib.hid hcl
    have HGS := Lib.hid hgs
    clear hm hF hx hcl hgs
    by_cases hlt : k < xs.length
    · obtain ⟨g, o, rfl, hs, es, hes, hc, hR⟩ := H.out.elem k hlt
      obtain ⟨u, hE, hU⟩ := hR
      obtain rfl : es = [u] := by have := congrArg Array.toList hE; simpa using this
      have hcell : wr.cell? ⟨g, o + k, none⟩ = some u := HX.out.cell (by have := hc 0 u rfl; simpa [show (nrEnts).sz = 1 from rfl] using this)
      obtain ⟨A1, c1, rfl, _⟩ := id hU
      have HU := Lib.hid (hU.ext (by decide) HX.out)
      have HXM := Lib.hid (HEL.out xs[k] (List.getElem_mem hlt))
      have HXK := Lib.hid (show xs[k]? = some xs[k] from List.getElem?_eq_getElem hlt)
      have HL := Lib.hid (show CS.flatten.length = k by rw [flatN_length CS HFl.out.lens, HCL.out]; exact Nat.mul_one k)
      have HMU := Lib.hid (show (xs.length - k) * 1 = (xs.length - (k + 1)) * 1 + 1 by omega)
      clear hc hE hU hes
      have hi : (0 : Int) ≤ (k : Int) := by omega
      have hi2 : (k : Int) < (xs.length : Int) := by omega
      go_wp2_with fail
      refine (toEntryS_u _ xs[k] _ S HU.out HXM.out).mono ?_
      rintro e w1 ⟨v', rfl, ho, hx⟩
      obtain ⟨A2, c2, rfl⟩ := ho.shape
      have HF2 := Lib.hid (HFl.out.ext hx)
      have HR2 := Lib.hid (show (nrEnts).R w1 (fun q => w.heap.size < q) #[.slice A2 xs[k].length c2] xs[k] from ⟨_, rfl, ho.rd.mono (fun q hq => by have h1 := HGS.out; have h2 := hq.1; omega)⟩)
      have HX2 := Lib.hid (HX.out.trans hx)
      have HGS2 := Lib.hid (Nat.lt_of_lt_of_le HGS.out hx.size)
      have HF2' := Lib.hid (HMU.out ▸ HF2.out)
      clear hx HX HFl ho hcell HF2
      obtain ⟨⟨u0, d1⟩, f1⟩ := HF2'.out.fill.cell HL.out
      go_wp2_with fail
      have HF3 := Lib.hid (HF2'.out.one (by rw [HCL.out]; exact HXK.out) HR2.out (fun q hq => by omega) HL.out)
      go_roundw
      case rel => exact ⟨k + 1, _, by omega, by go_num, by rw [List.length_append, HCL.out]; rfl, HF3.out, HX2.out.set (Nat.le_refl _) _, by simpa using HGS2.out⟩
      case measure => simp [intOf]; omega
    · obtain rfl : k = xs.length := by omega
      have hb := HFl.out
      rw [Nat.sub_self, Nat.zero_mul] at hb
      have HB := Lib.hid hb
      clear hb
      go_wp2
      go_ret
      exact ⟨_, rfl, HB.out.done HCL.out hlen _ (fun q hq => Nat.le_of_lt hq) (Nat.le_refl _), HX.out⟩

set_option maxHeartbeats 1000000 in
set_option maxRecDepth 100000 in
theorem eqEntrySS_u (v u : Value) (xs : List Ens) (w : World) (S S' : Nat → Prop) (h : RdN nrEnts w S v xs) (h' : RdN nrEnts w S' u xs) :
    Calls Try.prog 71 #[v, u] w fun e w' => e = .returned (.bool true) ∧ Ext w w' := by
  obtain ⟨A, cap, rfl, hcap, hlen⟩ := h.shape
  obtain ⟨A', cap', rfl, hcap', hlen'⟩ := h'.shape
  have H := Lib.hid h
  have H' := Lib.hid h'
  clear h h'
  have hl1 : ((xs.length : Int) != (xs.length : Int)) = false := by simp
  go_enter Try.func71, Try.ntmps71
  go_wp2
  go_loopw [5] (fun i wr => ∃ k : Nat, k ≤ xs.length ∧ i = .int .i64 k ∧ Ext w wr) (fun i _ => xs.length - (intOf i).toNat)
  case atStart => exact ⟨0, by omega, rfl, Ext.refl _⟩
  case round =>
    obtain ⟨k, hk, rfl, hx⟩ := hrel
    have HX := Lib.hid hx
    clear hx hl1
    by_cases hlt : k < xs.length
    · obtain ⟨g, o, rfl, hs, es, hes, hc, hR⟩ := H.out.elem k hlt
      obtain ⟨g2, o2, rfl, hs2, es2, hes2, hc2, hR2⟩ := H'.out.elem k hlt
      obtain ⟨u1, hE, hU⟩ := hR
      obtain rfl : es = [u1] := by have := congrArg Array.toList hE; simpa using this
      obtain ⟨u2, hE2, hU2⟩ := hR2
      obtain rfl : es2 = [u2] := by have := congrArg Array.toList hE2; simpa using this
      have HD : ∀ W, Ext wr W → W.cell? ⟨g, o + k, none⟩ = some u1 := fun W hW => hW.cell (HX.out.cell (by have := hc 0 u1 rfl; simpa [show (nrEnts).sz = 1 from rfl] using this))
      have HD2 : ∀ W, Ext wr W → W.cell? ⟨g2, o2 + k, none⟩ = some u2 := fun W hW => hW.cell (HX.out.cell (by have := hc2 0 u2 rfl; simpa [show (nrEnts).sz = 1 from rfl] using this))
      obtain ⟨A1, c1, rfl, _⟩ := id hU
      obtain ⟨A3, c3, rfl, _⟩ := id hU2
      have HU := Lib.hid (hU.ext (by decide) HX.out)
      have HU2 := Lib.hid (hU2.ext (by decide) HX.out)
      clear hc hc2 hE hE2 hU hU2 hes hes2
      have hi : (0 : Int) ≤ (k : Int) := by omega
      have hi2 : (k : Int) < (xs.length : Int) := by omega
      go_wp2_with fail
      refine wp_region_held_drew (S := fun W => Ext wr W) (by kernel_rfl) (Ext.refl _).drew (fun hHeld => ?_)
      refine wpAnyH_take (i := 0) (oi := ?oiq0) (v := ?vq0) ?hiq0 (by kernel_rfl) (by kernel_rfl) (by kernel_rfl) ?hQq0 ?hyq0 (by assumption) ?restq0
      case hiq0 => simp only [List.getElem?_toArray, List.getElem?_cons_zero, List.getElem?_cons_succ]; rfl
      case hQq0 => exact fun _ _ _ h => h
      case hyq0 => exact Or.inl ⟨by rfl, by intro w hSw; go_simp; with_reducible rfl⟩
      try simp only [Act.put, List.setIfInBounds_toArray, List.set_cons_zero, List.set_cons_succ]
      refine wpAnyH_take (i := 1) (oi := ?oiq1) (v := ?vq1) ?hiq1 (by kernel_rfl) (by kernel_rfl) (by kernel_rfl) ?hQq1 ?hyq1 (by assumption) ?restq1
      case hiq1 => simp only [List.getElem?_toArray, List.getElem?_cons_zero, List.getElem?_cons_succ]; rfl
      case hQq1 => exact fun _ _ _ h => h
      case hyq1 => exact Or.inl ⟨by rfl, by intro w hSw; go_simp; with_reducible rfl⟩
      try simp only [Act.put, List.setIfInBounds_toArray, List.set_cons_zero, List.set_cons_succ]
      refine wpAnyH_take (i := 2) (oi := ?oiq2) (v := ?vq2) ?hiq2 (by kernel_rfl) (by kernel_rfl) (by kernel_rfl) ?hQq2 ?hyq2 (by assumption) ?restq2
      case hiq2 => simp only [List.getElem?_toArray, List.getElem?_cons_zero, List.getElem?_cons_succ]; rfl
      case hQq2 => exact fun _ _ _ h => h
      case hyq2 => exact Or.inl ⟨by rfl, by intro w hSw; go_simp; with_reducible rfl⟩
      try simp only [Act.put, List.setIfInBounds_toArray, List.set_cons_zero, List.set_cons_succ]
      refine wpAnyH_take (i := 3) (oi := ?oiq3) (v := ?vq3) ?hiq3 (by kernel_rfl) (by kernel_rfl) (by kernel_rfl) ?hQq3 ?hyq3 (by assumption) ?restq3
      case hiq3 => simp only [List.getElem?_toArray, List.getElem?_cons_zero, List.getElem?_cons_succ]; rfl
      case hQq3 => exact fun _ _ _ h => h
      case hyq3 => exact Or.inl ⟨by rfl, by intro w hSw; (try dsimp only at hSw); have q0 := HD _ hSw; go_simp; with_reducible rfl⟩
      try simp only [Act.put, List.setIfInBounds_toArray, List.set_cons_zero, List.set_cons_succ]
      refine wpAnyH_take (i := 4) (oi := ?oiq4) (v := ?vq4) ?hiq4 (by kernel_rfl) (by kernel_rfl) (by kernel_rfl) ?hQq4 ?hyq4 (by assumption) ?restq4
      case hiq4 => simp only [List.getElem?_toArray, List.getElem?_cons_zero, List.getElem?_cons_succ]; rfl
      case hQq4 => exact fun _ _ _ h => h
      case hyq4 => exact Or.inl ⟨by rfl, by intro w hSw; go_simp; with_reducible rfl⟩
      try simp only [Act.put, List.setIfInBounds_toArray, List.set_cons_zero, List.set_cons_succ]
      refine wpAnyH_take (i := 5) (oi := ?oiq5) (v := ?vq5) ?hiq5 (by kernel_rfl) (by kernel_rfl) (by kernel_rfl) ?hQq5 ?hyq5 (by assumption) ?restq5
      case hiq5 => simp only [List.getElem?_toArray, List.getElem?_cons_zero, List.getElem?_cons_succ]; rfl
      case hQq5 => exact fun _ _ _ h => h
      case hyq5 => exact Or.inl ⟨by rfl, by intro w hSw; go_simp; with_reducible rfl⟩
      try simp only [Act.put, List.setIfInBounds_toArray, List.set_cons_zero, List.set_cons_succ]
      refine wpAnyH_take (i := 6) (oi := ?oiq6) (v := ?vq6) ?hiq6 (by kernel_rfl) (by kernel_rfl) (by kernel_rfl) ?hQq6 ?hyq6 (by assumption) ?restq6
      case hiq6 => simp only [List.getElem?_toArray, List.getElem?_cons_zero, List.getElem?_cons_succ]; rfl
      case hQq6 => exact fun _ _ _ h => h
      case hyq6 => exact Or.inl ⟨by rfl, by intro w hSw; go_simp; with_reducible rfl⟩
      try simp only [Act.put, List.setIfInBounds_toArray, List.set_cons_zero, List.set_cons_succ]
      refine wpAnyH_take (i := 7) (oi := ?oiq7) (v := ?vq7) ?hiq7 (by kernel_rfl) (by kernel_rfl) (by kernel_rfl) ?hQq7 ?hyq7 (by assumption) ?restq7
      case hiq7 => simp only [List.getElem?_toArray, List.getElem?_cons_zero, List.getElem?_cons_succ]; rfl
      case hQq7 => exact fun _ _ _ h => h
      case hyq7 => exact Or.inl ⟨by rfl, by intro w hSw; (try dsimp only at hSw); have q0 := HD2 _ hSw; go_simp; with_reducible rfl⟩
      try simp only [Act.put, List.setIfInBounds_toArray, List.set_cons_zero, List.set_cons_succ]
      refine wpAnyH_ready (rs := [8]) (by kernel_rfl) (by simp) (AllReadyH.cons (o := ?o8) ?h8 (fun K hK => ?s8) AllReadyH.nil)
      case h8 => simp only [List.getElem?_toArray, List.getElem?_cons_zero, List.getElem?_cons_succ]; rfl
      go_simp
      refine (eqEntryS_u _ _ xs[k] _ S S' (HU.out.ext (by decide) hHeld) (HU2.out.ext (by decide) hHeld)).mono ?_
      rintro e w1 ⟨rfl, hx⟩
      have hH2 := hHeld.trans hx
      refine hK.out _ _ hH2 (fun _ => ?_)
      clear hHeld hK K
      have hHeld := hH2
      clear hH2 hx
      try simp only [Act.put, List.setIfInBounds_toArray, List.set_cons_zero, List.set_cons_succ]
      refine wpAnyH_take (i := 9) (oi := ?oiq9) (v := ?vq9) ?hiq9 (by kernel_rfl) (by kernel_rfl) (by kernel_rfl) ?hQq9 ?hyq9 (by assumption) ?restq9
      case hiq9 => simp only [List.getElem?_toArray, List.getElem?_cons_zero, List.getElem?_cons_succ]; rfl
      case hQq9 => exact fun _ _ _ h => h
      case hyq9 => exact Or.inl ⟨by rfl, by intro w hSw; go_simp; with_reducible rfl⟩
      try simp only [Act.put, List.setIfInBounds_toArray, List.set_cons_zero, List.set_cons_succ]
      refine wpAnyH_done (by kernel_rfl) ?_ _
      have HX2 := Lib.hid (HX.out.trans hHeld)
      clear hHeld
      go_wp2
      go_roundw
      case rel => exact ⟨k + 1, by omega, by go_num, HX2.out⟩
      case measure => simp [intOf]; omega
    · go_wp2
      go_ret
      exact ⟨rfl, HX.out⟩

set_option maxHeartbeats 1000000 in
set_option maxRecDepth 100000 in
theorem szEntrySS_u (v : Value) (xs : List Ens) (l : Int) (w : World) (S : Nat → Prop) (h : RdN nrEnts w S v xs) (h0 : -1 ≤ l) (h1 : l ≤ 1048576) :
    Calls Try.prog 61 #[v, .int .i64 l] w fun e w' => e = .returned (.int .i64 (if l - (szW entsN xs : Nat) < 0 then -1 else l - (szW entsN xs : Nat))) ∧ Ext w w' := by
  rw [szW_eq]
  obtain ⟨A, cap, rfl, hcap, hlen⟩ := h.shape
  have H := Lib.hid h
  obtain ⟨T, hT⟩ : ∃ T, (xs.map entsN).sum = T := ⟨_, rfl⟩
  have hle := fun k => sumW_le entsN xs k
  rw [hT] at hle ⊢
  have HT := Lib.hid hT
  have HLE := Lib.hid hle
  clear h hT hle
  by_cases h2 : l - (xs.length : Int) < 0
  · rw [if_pos (by omega)]
    go_enter Try.func61, Try.ntmps61
    go_wp2
    go_ret
    exact ⟨rfl, Ext.refl _⟩
  · obtain ⟨z, hz⟩ : ∃ z : Int, (if l - ((xs.length + T : Nat) : Int) < 0 then -1 else l - ((xs.length + T : Nat) : Int)) = z := ⟨_, rfl⟩
    rw [hz]
    have HZ := Lib.hid hz
    clear hz
    go_enter Try.func61, Try.ntmps61
    go_wp2
    go_loopw [1, 5] (fun q i wr => ∃ k : Nat, k ≤ xs.length ∧ i = .int .i64 k ∧ q = .int .i64 (l - xs.length - (sumW entsN xs k : Nat)) ∧ 0 ≤ l - (xs.length : Int) - (sumW entsN xs k : Nat) ∧ Ext w wr) (fun _ i _ => xs.length - (intOf i).toNat)
    case atStart => exact ⟨0, by omega, rfl, by rw [sumW_zero]; simp, by rw [sumW_zero]; omega, Ext.refl _⟩
    case round =>
      obtain ⟨k, hk, rfl, rfl, hs, hx⟩ := hrel
      have HX := Lib.hid hx
      clear hx
      by_cases hlt : k < xs.length
      · obtain ⟨g, o, rfl, hs0, es, hes, hc, hR⟩ := H.out.elem k hlt
        obtain ⟨u, hE, hU⟩ := hR
        obtain rfl : es = [u] := by have := congrArg Array.toList hE; simpa using this
        have hcell : wr.cell? ⟨g, o + k, none⟩ = some u := HX.out.cell (by have := hc 0 u rfl; simpa [show (nrEnts).sz = 1 from rfl] using this)
        obtain ⟨A1, c1, rfl, _⟩ := id hU
        have HSS := Lib.hid (sumW_succ entsN xs k hlt)
        have hq := HLE.out (k + 1)
        rw [HSS.out] at hq
        have hcz := szEntryS_u _ xs[k] (l - xs.length - (sumW entsN xs k : Nat)) wr S (hU.ext (by decide) HX.out) (by omega) (by omega)
        clear hc hE hU hes
        have hi : (0 : Int) ≤ (k : Int) := by omega
        have hi2 : (k : Int) < (xs.length : Int) := by omega
        by_cases h3 : l - (xs.length : Int) - (sumW entsN xs k : Nat) - (entsN xs[k] : Nat) < 0
        · rw [if_pos h3] at hcz
          have HP := Lib.hid (show l - ((xs.length + T : Nat) : Int) < 0 by omega)
          have HCZ := Lib.hid hcz
          clear hcz
          go_wp2_with fail
          refine HCZ.out.mono ?_
          rintro e w1 ⟨rfl, hx⟩
          have HX2 := Lib.hid (HX.out.trans hx)
          clear hx
          go_wp2
          go_ret
          exact ⟨by rw [← HZ.out, if_pos HP.out]; rfl, HX2.out⟩
        · rw [if_neg h3] at hcz
          have HCZ := Lib.hid hcz
          clear hcz
          go_wp2_with fail
          refine HCZ.out.mono ?_
          rintro e w1 ⟨rfl, hx⟩
          have HX2 := Lib.hid (HX.out.trans hx)
          clear hx
          go_wp2
          go_roundw
          case rel => exact ⟨k + 1, by omega, by go_num, by rw [HSS.out]; go_num, by rw [HSS.out]; omega, HX2.out⟩
          case measure => simp [intOf]; omega
      · obtain rfl : k = xs.length := by omega
        have e : sumW entsN xs xs.length = T := by rw [sumW, List.take_length]; exact HT.out
        have HE := Lib.hid e
        rw [e] at hs
        clear e
        have HP := Lib.hid (show ¬ l - ((xs.length + T : Nat) : Int) < 0 by omega)
        go_wp2
        go_ret
        exact ⟨by rw [← HZ.out, if_neg (Int.not_lt.2 HP.out), HE.out]; exact ret_int (by omega), HX.out⟩

end Go.Proofs.Yteegnbdgfedajaa
