/- A struct that is filled field by field. No condition. -/
import Derived.Test.YtabeghbobggmjaaEnts
namespace Go.Proofs.Ytabeghbobggmjaa
open Go.RowKit
set_option linter.unusedVariables false
set_option linter.unusedSimpArgs false

/-- block g holds the cells A, and m more -/
def Fill (w : World) (g e : Nat) (A : List Value) (m : Nat) : Prop := ∃ R, R.length = m ∧ Blk w g e (A ++ R).toArray
section
variable {w w' : World} {g e m : Nat} {A : List Value}
theorem Fill.ext (h : Fill w g e A m) (x : Ext w w') : Fill w' g e A m := by
  obtain ⟨R, h1, h2⟩ := h
  exact ⟨R, h1, h2.ext x⟩
theorem Fill.start {Z : Array Value} (h : Blk w g e Z) : Fill w g e [] Z.size := ⟨Z.toList, by simp, by simpa using h⟩
theorem Fill.start' {Z : Array Value} {n : Nat} (h : Blk w g e Z) (hn : Z.size = n) : Fill w g e [] n := hn ▸ Fill.start h
theorem Fill.done (h : Fill w g e A 0) : Blk w g e A.toArray := by
  obtain ⟨R, h1, h2⟩ := h
  obtain rfl : R = [] := List.eq_nil_of_length_eq_zero h1
  simpa using h2
theorem Fill.cell (h : Fill w g e A (m + 1)) {off : Nat} (ho : A.length = off) : (∃ u, w.cell? ⟨g, off, none⟩ = some u) ∧ w.frozen? ⟨g, off, none⟩ = false := by
  obtain ⟨R, h1, h2⟩ := h
  refine ⟨?_, h2.free off⟩
  rw [h2.cell]
  have : off < (A ++ R).toArray.size := by simp; omega
  exact ⟨_, Array.getElem?_eq_getElem this⟩
theorem Fill.one (h : Fill w g e A (m + 1)) {off : Nat} (ho : A.length = off) (v : Value) : Fill (w.setCell ⟨g, off, none⟩ v) g e (A ++ [v]) m := by
  obtain ⟨R, h1, h2⟩ := h
  match R, h1 with
  | r :: R', h1 =>
    refine ⟨R', by simpa using h1, ?_⟩
    have := h2.set off v
    subst ho
    simpa using this
theorem Fill.far (h : Fill w g e A m) {p : Addr} (hp : g ≠ p.block) (u : Value) : Fill (w.setCell p u) g e A m := by
  obtain ⟨R, h1, h2⟩ := h
  exact ⟨R, h1, h2.far hp u⟩
end
theorem splice_next (A R vs : List Value) {o : Nat} (h : A.length = o) : splice (A ++ R).toArray o vs = (A ++ vs ++ R.drop vs.length).toArray := by
  subst h
  unfold splice
  congr 1
  rw [List.take_left', List.drop_append, List.drop_eq_nil_of_le (by omega), List.nil_append, show A.length + vs.length - A.length = vs.length by omega]
  rfl
/-- the next cells are written, all at once -/
theorem wpl_fill {P : Program} {ops : Array Oper} {rest : List Oper} {o : Oper} {a : Act} {w : World} {Q : Exit → Act → World → Prop} {t g e n m off : Nat} {cs : Array Value} {A : List Value} (hb : Fill w g e A (n + m)) (hA : A.length = off) (ht : Agg P t n) (hs : St n cs) (hgd : o.guard = none) (x y : Operand) (ho : o.op = .store t x y) (hx : a.eval x = .pointer (some ⟨g, off, none⟩))
    (hy : a.eval y = .agg cs) (hd : o.dst = none) (h : ∀ row, Fill (w.setRow g row) g e (A ++ cs.toList) m → wpList P ops Q rest a (w.setRow g row)) : wpList P ops Q (o :: rest) a w := by
  obtain ⟨R, h1, h2⟩ := hb
  have hl : cs.toList.length = n := by rw [Array.length_toList, hs.size]
  refine wpl_storeP h2 ht hs (by simp; omega) hgd x y ho hx hy hd (h _ ⟨R.drop n, by rw [List.length_drop]; omega, ?_⟩)
  have := h2.setRow (splice (A ++ R).toArray off cs.toList)
  rw [splice_next A R _ hA, hl] at this
  rw [splice_next A R _ hA, hl]
  exact this

/-- a whole variable is the result -/
theorem results_blkB {P : Program} {w : World} {fn : Func} {c : Tmp} {t g e n : Nat} {cs : Array Value} (hr : fn.results = #[.cell c t]) (tmps : Array Value) (hp : tmps.getD c undef = .pointer (some ⟨g, 0, none⟩)) (ht : Agg P t n) (hn : cs.size = n) (hb : Blk w g e cs) :
    (results fn tmps).run P w = .ok (.agg cs) w := by
  have hl := run_loadB (P := P) hb ht hn
  have hp' : tmps[c]?.getD undef = .pointer (some ⟨g, 0, none⟩) := by simpa using hp
  simp [results, hr, hp', asAddr, hl]
/-- a whole variable and a number are the results -/
theorem results_blkB2 {P : Program} {w : World} {fn : Func} {c d : Tmp} {t g e n : Nat} {cs : Array Value} (hr : fn.results = #[.cell c t, .tmp d]) (tmps : Array Value) (hp : tmps.getD c undef = .pointer (some ⟨g, 0, none⟩)) (ht : Agg P t n) (hn : cs.size = n) (hb : Blk w g e cs) {v : Value} (hv : tmps.getD d undef = v) :
    (results fn tmps).run P w = .ok (.tuple #[.agg cs, v]) w := by
  have hl := run_loadB (P := P) hb ht hn
  have hp' : tmps[c]?.getD undef = .pointer (some ⟨g, 0, none⟩) := by simpa using hp
  have hv' : tmps[d]?.getD undef = v := by simpa using hv
  simp [results, hr, hp', hv', asAddr, hl]

/-! ### nodes -/
structure Nd where
  l : List Int
  r : List Int
  n : ByteArray
  v : ByteArray
def Nd.enc (x : Nd) : List Value := nums .u8 x.l ++ nums .u8 x.r ++ [.string x.n, .string x.v]
def Nd.ok (x : Nd) : Prop := K32 x.l ∧ K32 x.r ∧ x.n.size ≤ 140737488351232 ∧ x.v.size ≤ 140737488351232
theorem Nd.enc_length {x : Nd} (h : x.ok) : x.enc.length = 66 := by simp [Nd.enc, nums_length, h.1.1, h.2.1.1]
theorem Nd.enc_one (x : Nd) : ∀ u ∈ x.enc, u.oneCell' = true := by
  intro u hu
  unfold Nd.enc at hu
  rcases List.mem_append.1 hu with hu | hu
  · rcases List.mem_append.1 hu with hu | hu
    · exact one_nums _ _ u hu
    · exact one_nums _ _ u hu
  · simp at hu; rcases hu with rfl | rfl <;> rfl
def tNode : Ty Nd := ⟨66, Nd.enc, Nd.ok, fun x h => Nd.enc_length h, Nd.enc_one⟩
theorem Nd.left {x : Nd} (h : x.ok) (j : Nat) (u : Value) (hu : (numsA .u8 x.l)[j]? = some u) : x.enc.toArray[0 + j]? = some u := by
  have hj : j < x.l.length := by have := (Array.getElem?_eq_some_iff.1 hu).1; simpa [numsA, nums] using this
  rw [Nat.zero_add, List.getElem?_toArray, Nd.enc, List.append_assoc, List.getElem?_append_left (by rw [nums_length]; exact hj)]
  simpa [numsA] using hu
theorem Nd.right {x : Nd} (h : x.ok) (j : Nat) (u : Value) (hu : (numsA .u8 x.r)[j]? = some u) : x.enc.toArray[32 + j]? = some u := by
  have hj : j < x.r.length := by have := (Array.getElem?_eq_some_iff.1 hu).1; simpa [numsA, nums] using this
  have hl := h.1.1
  rw [List.getElem?_toArray, Nd.enc, List.append_assoc, List.getElem?_append_right (by rw [nums_length]; omega), nums_length, hl, show 32 + j - 32 = j by omega, List.getElem?_append_left (by rw [nums_length]; exact hj)]
  simpa [numsA] using hu
theorem Nd.ent {x : Nd} (h : x.ok) (j : Nat) (u : Value) (hu : (#[Value.string x.n, Value.string x.v] : Array Value)[j]? = some u) : x.enc.toArray[64 + j]? = some u := by
  have hl := h.1.1
  have hr := h.2.1.1
  rw [List.getElem?_toArray, Nd.enc, List.getElem?_append_right (by simp [nums_length]; omega)]
  simp only [List.length_append, nums_length, hl, hr]
  rw [show 64 + j - (32 + 32) = j by omega]
  simpa using hu
theorem Nd.at64 {x : Nd} (h : x.ok) : x.enc.toArray[64]? = some (.string x.n) := Nd.ent h 0 _ rfl
theorem Nd.at65 {x : Nd} (h : x.ok) : x.enc.toArray[65]? = some (.string x.v) := Nd.ent h 1 _ rfl
theorem Nd.st {x : Nd} (h : x.ok) : St 66 x.enc.toArray := ⟨by simpa using Nd.enc_length h, by simpa using Nd.enc_one x⟩
theorem stEnt (n v : ByteArray) : St 2 #[Value.string n, Value.string v] := ⟨rfl, fun u hu => by simp at hu; rcases hu with rfl | rfl <;> rfl⟩
theorem aggEntryL : Agg Try.prog 70 2 := Agg.mkS (fs := _) Try.underlying70 (by kernel_rfl)
theorem aggEntryI : Agg Try.prog 73 2 := Agg.mkS (fs := _) Try.underlying73 (by kernel_rfl)
end Go.Proofs.Ytabeghbobggmjaa
