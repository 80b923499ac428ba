/- A struct that is filled field by field. No condition. -/
import Derived.Test.YtikpakhccmdmcaaEnts
namespace Go.Proofs.Ytikpakhccmdmcaa
open Go.RowKit
set_option linter.unusedVariables false
set_option linter.unusedSimpArgs false

/-- block g holds the cells A, and m more -/
def Fill (w : World) (g e : Nat) (A : List Value) (m : Nat) : Prop := ∃ R, R.length = m ∧ Blk w g e (A ++ R).toArray
section
variable {w w' : World} {g e m : Nat} {A : List Value}
theorem Fill.ext (h : Fill w g e A m) (x : Ext w w') : Fill w' g e A m := by
  obtain ⟨R, h1, h2⟩ := h
  exact ⟨R, h1, h2.ext x⟩
theorem Fill.start {Z : Array Value} (h : Blk w g e Z) : Fill w g e [] Z.size := ⟨Z.toList, by simp, by simpa using h⟩
theorem Fill.start' {Z : Array Value} {n : Nat} (h : Blk w g e Z) (hn : Z.size = n) : Fill w g e [] n := hn ▸ Fill.start h
theorem Fill.done (h : Fill w g e A 0) : Blk w g e A.toArray := by
  obtain ⟨R, h1, h2⟩ := h
  obtain rfl : R = [] := List.eq_nil_of_length_eq_zero h1
  simpa using h2
theorem Fill.cell (h : Fill w g e A (m + 1)) {off : Nat} (ho : A.length = off) : (∃ u, w.cell? ⟨g, off, none⟩ = some u) ∧ w.frozen? ⟨g, off, none⟩ = false := by
  obtain ⟨R, h1, h2⟩ := h
  refine ⟨?_, h2.free off⟩
  rw [h2.cell]
  have : off < (A ++ R).toArray.size := by simp; omega
  exact ⟨_, Array.getElem?_eq_getElem this⟩
theorem Fill.one (h : Fill w g e A (m + 1)) {off : Nat} (ho : A.length = off) (v : Value) : Fill (w.setCell ⟨g, off, none⟩ v) g e (A ++ [v]) m := by
  obtain ⟨R, h1, h2⟩ := h
  match R, h1 with
  | r :: R', h1 =>
    refine ⟨R', by simpa using h1, ?_⟩
    have := h2.set off v
    subst ho
    simpa using this
theorem Fill.far (h : Fill w g e A m) {p : Addr} (hp : g ≠ p.block) (u : Value) : Fill (w.setCell p u) g e A m := by
  obtain ⟨R, h1, h2⟩ := h
  exact ⟨R, h1, h2.far hp u⟩
end
theorem splice_next (A R vs : List Value) {o : Nat} (h : A.length = o) : splice (A ++ R).toArray o vs = (A ++ vs ++ R.drop vs.length).toArray := by
  subst h
  unfold splice
  congr 1
  rw [List.take_left', List.drop_append, List.drop_eq_nil_of_le (by omega), List.nil_append, show A.length + vs.length - A.length = vs.length by omega]
  rfl
/-- the next cells are written, all at once -/
theorem wpl_fill {P : Program} {ops : Array Oper} {rest : List Oper} {o : Oper} {a : Act} {w : World} {Q : Exit → Act → World → Prop} {t g e n m off : Nat} {cs : Array Value} {A : List Value} (hb : Fill w g e A (n + m)) (hA : A.length = off) (ht : Agg P t n) (hs : St n cs) (hgd : o.guard = none) (x y : Operand) (ho : o.op = .store t x y) (hx : a.eval x = .pointer (some ⟨g, off, none⟩))
    (hy : a.eval y = .agg cs) (hd : o.dst = none) (h : ∀ row, Fill (w.setRow g row) g e (A ++ cs.toList) m → wpList P ops Q rest a (w.setRow g row)) : wpList P ops Q (o :: rest) a w := by
  obtain ⟨R, h1, h2⟩ := hb
  have hl : cs.toList.length = n := by rw [Array.length_toList, hs.size]
  refine wpl_storeP h2 ht hs (by simp; omega) hgd x y ho hx hy hd (h _ ⟨R.drop n, by rw [List.length_drop]; omega, ?_⟩)
  have := h2.setRow (splice (A ++ R).toArray off cs.toList)
  rw [splice_next A R _ hA, hl] at this
  rw [splice_next A R _ hA, hl]
  exact this

/-- a whole variable is the result -/
theorem results_blkB {P : Program} {w : World} {fn : Func} {c : Tmp} {t g e n : Nat} {cs : Array Value} (hr : fn.results = #[.cell c t]) (tmps : Array Value) (hp : tmps.getD c undef = .pointer (some ⟨g, 0, none⟩)) (ht : Agg P t n) (hn : cs.size = n) (hb : Blk w g e cs) :
    (results fn tmps).run P w = .ok (.agg cs) w := by
  have hl := run_loadB (P := P) hb ht hn
  have hp' : tmps[c]?.getD undef = .pointer (some ⟨g, 0, none⟩) := by simpa using hp
  simp [results, hr, hp', asAddr, hl]
/-- a whole variable and a number are the results -/
theorem results_blkB2 {P : Program} {w : World} {fn : Func} {c d : Tmp} {t g e n : Nat} {cs : Array Value} (hr : fn.results = #[.cell c t, .tmp d]) (tmps : Array Value) (hp : tmps.getD c undef = .pointer (some ⟨g, 0, none⟩)) (ht : Agg P t n) (hn : cs.size = n) (hb : Blk w g e cs) {v : Value} (hv : tmps.getD d undef = v) :
    (results fn tmps).run P w = .ok (.tuple #[.agg cs, v]) w := by
  have hl := run_loadB (P := P) hb ht hn
  have hp' : tmps[c]?.getD undef = .pointer (some ⟨g, 0, none⟩) := by simpa using hp
  have hv' : tmps[d]?.getD undef = v := by simpa using hv
  simp [results, hr, hp', hv', asAddr, hl]

/-! ### nodes -/
structure Nd where
  l : List Int
  r : List Int
  n : ByteArray
  v : ByteArray
def Nd.enc (x : Nd) : List Value := nums .u8 x.l ++ nums .u8 x.r ++ [.string x.n, .string x.v]
def Nd.ok (x : Nd) : Prop := K32 x.l ∧ K32 x.r ∧ x.n.size ≤ 140737488351232 ∧ x.v.size ≤ 140737488351232
theorem Nd.enc_length {x : Nd} (h : x.ok) : x.enc.length = 66 := by simp [Nd.enc, nums_length, h.1.1, h.2.1.1]
theorem Nd.enc_one (x : Nd) : ∀ u ∈ x.enc, u.oneCell' = true := by
  intro u hu
  unfold Nd.enc at hu
  rcases List.mem_append.1 hu with hu | hu
  · rcases List.mem_append.1 hu with hu | hu
    · exact one_nums _ _ u hu
    · exact one_nums _ _ u hu
  · simp at hu; rcases hu with rfl | rfl <;> rfl
def tNode : Ty Nd := ⟨66, Nd.enc, Nd.ok, fun x h => Nd.enc_length h, Nd.enc_one⟩
theorem Nd.left {x : Nd} (h : x.ok) (j : Nat) (u : Value) (hu : (numsA .u8 x.l)[j]? = some u) : x.enc.toArray[0 + j]? = some u := by
  have hj : j < x.l.length := by have := (Array.getElem?_eq_some_iff.1 hu).1; simpa [numsA, nums] using this
  rw [Nat.zero_add, List.getElem?_toArray, Nd.enc, List.append_assoc, List.getElem?_append_left (by rw [nums_length]; exact hj)]
  simpa [numsA] using hu
theorem Nd.right {x : Nd} (h : x.ok) (j : Nat) (u : Value) (hu : (numsA .u8 x.r)[j]? = some u) : x.enc.toArray[32 + j]? = some u := by
  have hj : j < x.r.length := by have := (Array.getElem?_eq_some_iff.1 hu).1; simpa [numsA, nums] using this
  have hl := h.1.1
  rw [List.getElem?_toArray, Nd.enc, List.append_assoc, List.getElem?_append_right (by rw [nums_length]; omega), nums_length, hl, show 32 + j - 32 = j by omega, List.getElem?_append_left (by rw [nums_length]; exact hj)]
  simpa [numsA] using hu
theorem Nd.ent {x : Nd} (h : x.ok) (j : Nat) (u : Value) (hu : (#[Value.string x.n, Value.string x.v] : Array Value)[j]? = some u) : x.enc.toArray[64 + j]? = some u := by
  have hl := h.1.1
  have hr := h.2.1.1
  rw [List.getElem?_toArray, Nd.enc, List.getElem?_append_right (by simp [nums_length]; omega)]
  simp only [List.length_append, nums_length, hl, hr]
  rw [show 64 + j - (32 + 32) = j by omega]
  simpa using hu
theorem Nd.at64 {x : Nd} (h : x.ok) : x.enc.toArray[64]? = some (.string x.n) := Nd.ent h 0 _ rfl
theorem Nd.at65 {x : Nd} (h : x.ok) : x.enc.toArray[65]? = some (.string x.v) := Nd.ent h 1 _ rfl
theorem Nd.st {x : Nd} (h : x.ok) : St 66 x.enc.toArray := ⟨by simpa using Nd.enc_length h, by simpa using Nd.enc_one x⟩
theorem stEnt (n v : ByteArray) : St 2 #[Value.string n, Value.string v] := ⟨rfl, fun u hu => by simp at hu; rcases hu with rfl | rfl <;> rfl⟩
theorem aggNodeL : Agg Try.prog 86 66 := Agg.mkS (fs := _) Try.underlying86 (by kernel_rfl)
theorem aggNodeI : Agg Try.prog 60 66 := Agg.mkS (fs := _) Try.underlying60 (by kernel_rfl)
theorem aggEntryL : Agg Try.prog 66 2 := Agg.mkS (fs := _) Try.underlying66 (by kernel_rfl)
theorem aggEntryI : Agg Try.prog 58 2 := Agg.mkS (fs := _) Try.underlying58 (by kernel_rfl)
set_option maxHeartbeats 1000000 in
set_option maxRecDepth 100000 in
theorem toMapNode_any (x : Nd) (hok : x.ok) (w : World) :
    Calls Try.prog 63 #[.agg x.enc.toArray] w fun e w' => e = .returned (.agg x.enc.toArray) ∧ Ext w w' := by
  have HL := Lib.hid (sizeN (k := .u8) hok.1.1)
  have HR := Lib.hid (sizeN (k := .u8) hok.2.1.1)
  go_enter Try.func63, Try.ntmps63
  go_wp2_with (refine wpl_loadP (off := 0) (sub := numsA .u8 x.l) (((Blk.new w _ _).alloc _).alloc _) aggB32 HL.out (Nd.left hok) rfl _ rfl rfl ?_)
  refine (toKey_any x.l hok.1 _).mono ?_
  rintro e w1 ⟨rfl, hx⟩
  have B0 := Lib.hid ((((Blk.new w 86 x.enc.toArray).alloc _).alloc _).ext hx)
  have B1 := Lib.hid (((Blk.new' (g := w.heap.size + 1) (w := w.alloc _) (by simp) 60 _).alloc _).ext hx)
  have F0 := Lib.hid (Fill.start' ((Blk.new' (g := w.heap.size + 2) (w := (w.alloc _).alloc _) (by simp) 60 _).ext hx) (n := 66) rfl)
  have XW := Lib.hid ((((ext_alloc w _).alloc _).alloc _).trans hx)
  clear hx
  have SL : St 32 (numsA .u8 x.l) := St.nums hok.1.1
  have HSL := Lib.hid SL
  have SR : St 32 (numsA .u8 x.r) := St.nums hok.2.1.1
  have HSR := Lib.hid SR
  clear SL SR
  go_wp2_with (first | (refine wpl_fill (n := 32) (m := 34) F0.out rfl aggKey HSL.out rfl _ _ rfl rfl rfl rfl ?_; intro row hF; have F1 := Lib.hid hF; clear hF) | (refine wpl_loadP (off := 32) (sub := numsA .u8 x.r) (B0.out.row_far (by omega) _) aggB32 HR.out (Nd.right hok) rfl _ rfl rfl ?_))
  refine (toKey_any x.r hok.2.1 _).mono ?_
  rintro e w2 ⟨rfl, hx⟩
  replace B0 := Lib.hid ((B0.out.row_far (by omega) _).ext hx)
  replace B1 := Lib.hid ((B1.out.row_far (by omega) _).ext hx)
  have F2 := Lib.hid (F1.out.ext hx)
  replace XW := Lib.hid ((XW.out.setRow (by omega) _).trans hx)
  clear hx F0 F1
  go_wp2_with (first | (refine wpl_fill (n := 32) (m := 2) F2.out (by simp [numsA, nums_length, hok.1.1]) aggKey HSR.out rfl _ _ rfl rfl rfl rfl ?_; intro row hF; have F3 := Lib.hid hF; clear hF) | (refine wpl_loadP (off := 64) (sub := #[.string x.n, .string x.v]) (B0.out.row_far (by omega) _) aggEntryL rfl (Nd.ent hok) rfl _ rfl rfl ?_))
  refine (toEntry_any x.n x.v _).mono ?_
  rintro e w3 ⟨rfl, hx⟩
  replace B1 := Lib.hid ((B1.out.row_far (by omega) _).ext hx)
  have F4 := Lib.hid (F3.out.ext hx)
  replace XW := Lib.hid ((XW.out.setRow (by omega) _).trans hx)
  clear hx F2 F3 B0
  have hst := Lib.hid (Nd.st hok)
  have hsz := (Nd.st hok).size
  have hcs : (List.append (List.append [] (numsA .u8 x.l).toList ++ (numsA .u8 x.r).toList) [Value.string x.n, Value.string x.v]) = x.enc := by simp [Nd.enc, numsA]
  go_wp2_with (first
    | (refine wpl_fill (n := 2) (m := 0) F4.out (by simp [numsA, nums_length, hok.1.1, hok.2.1.1]) aggEntryI (stEnt _ _) rfl _ _ rfl rfl rfl rfl ?_; intro row hF; have F5 := Lib.hid (show Blk _ _ _ x.enc.toArray by have := hF.done; simpa [Nd.enc, numsA] using this); clear hF)
    | (refine wpl_loadB F5.out aggNodeI hsz rfl _ rfl rfl ?_)
    | (refine wpl_storeB (B1.out.row_far (by omega) _) aggNodeI hst.out rfl rfl _ _ rfl rfl rfl rfl ?_))
  refine bodyPost_ret (results_blkB rfl _ rfl aggNodeI hsz ((B1.out.row_far (by omega) _).setRow _)) rfl ?_
  exact ⟨rfl, (XW.out.setRow (by omega) _).setRow (by omega) _⟩
/-- the cells of a node, in the laws' words -/
def RMapNode (w : World) (S : Nat → Prop) (cs : Array Value) (x : Nd) : Prop := cs = x.enc.toArray ∧ x.ok
theorem RMapNode.ext {w w' : World} {S : Nat → Prop} {cs : Array Value} {x : Nd} (h : RMapNode w S cs x) (e : Ext w w') : RMapNode w' S cs x := h
theorem RMapNode.st {w : World} {S : Nat → Prop} {cs : Array Value} {x : Nd} (h : RMapNode w S cs x) : St 66 cs := by
  obtain ⟨rfl, h⟩ := h
  exact Nd.st h
theorem toMapNode_u (cs : Array Value) (x : Nd) (w : World) (S : Nat → Prop) (h : RMapNode w S cs x) :
    Calls Try.prog 63 #[.agg cs] w fun e w' => ∃ cs', e = .returned (.agg cs') ∧ RMapNode w' (fun g => w.heap.size ≤ g ∧ g < w'.heap.size) cs' x ∧ Ext w w' := by
  obtain ⟨rfl, h⟩ := h
  refine (toMapNode_any x h w).mono ?_
  rintro e w' ⟨rfl, hx⟩
  exact ⟨_, rfl, ⟨rfl, h⟩, hx⟩
set_option maxHeartbeats 1000000 in
set_option maxRecDepth 100000 in
theorem szMapNode_u (cs : Array Value) (x : Nd) (l : Int) (w : World) (S : Nat → Prop) (h : RMapNode w S cs x) (h0 : -1 ≤ l) (h1 : l ≤ 1048576) :
    Calls Try.prog 60 #[.agg cs, .int .i64 l] w fun e w' => e = .returned (.int .i64 (if l - (x.n.size + x.v.size : Nat) < 0 then -1 else l - (x.n.size + x.v.size : Nat))) ∧ Ext w w' := by
  obtain ⟨rfl, hok⟩ := h
  have hc := fun W => szEntry_any x.n x.v hok.2.2.1 hok.2.2.2 l h0 h1 W
  have e : l - ((x.n.size + x.v.size : Nat) : Int) = l - x.n.size - x.v.size := by omega
  rw [e]
  have hnn : 0 ≤ x.n.size := by omega
  clear e
  by_cases hz : l - (x.n.size : Int) - x.v.size < 0
  · simp only [if_pos hz] at hc ⊢
    go_enter Try.func60, Try.ntmps60
    go_wp2_with (refine wpl_loadP (off := 64) (sub := #[.string x.n, .string x.v]) (Blk.new w _ _) aggEntryL rfl (Nd.ent hok) rfl _ rfl rfl ?_)
    refine (hc _).mono ?_
    rintro e w1 ⟨rfl, hx⟩
    have XW := Lib.hid ((ext_alloc w _).trans hx)
    clear hx
    go_wp2
    go_ret
    exact ⟨rfl, XW.out⟩
  · simp only [if_neg hz] at hc ⊢
    go_enter Try.func60, Try.ntmps60
    go_wp2_with (refine wpl_loadP (off := 64) (sub := #[.string x.n, .string x.v]) (Blk.new w _ _) aggEntryL rfl (Nd.ent hok) rfl _ rfl rfl ?_)
    refine (hc _).mono ?_
    rintro e w1 ⟨rfl, hx⟩
    have XW := Lib.hid ((ext_alloc w _).trans hx)
    clear hx
    go_wp2
    go_ret
    exact ⟨rfl, XW.out⟩
end Go.Proofs.Ytikpakhccmdmcaa
