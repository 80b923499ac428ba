/- What the walk of the law FnExactLinksOf needs, part 2 of 4. No condition. -/
import Derived.Lib.ConvBytes
import Derived.Laws.BytesArg
import Derived.Deep.RegionHeld3
import Derived.Deep.OwnRows
import Derived.Deep.RegionWith
import Derived.Test.YteegnbdgfedajaaPFnExactLinksOf1
/- The statements' key of bytes. No condition. -/
namespace Go.Proofs.Yteegnbdgfedajaa
open Go.RowKit
set_option linter.unusedVariables false
set_option linter.unusedSimpArgs false

set_option maxHeartbeats 1000000 in
set_option maxRecDepth 100000 in
theorem l01Hash_any (tag : Int) (ht : 0 ≤ tag ∧ tag ≤ 255) (v : Value) (xs : List Int) (w : World) (S : Nat → Prop) (h : RdL tByte w S v xs) (hl : xs.length ≤ 70368744177664) :
    Calls Try.prog 112 #[.int .u8 tag, v] w fun e w' => e = .returned (.agg (numsA .u8 (hashL tag xs))) ∧ Ext w w' := by
  have H := Lib.hid h
  obtain ⟨A, cap, rfl, hcap, hlen, hz1, hz2⟩ := h
  clear hz1 hz2
  have hk := (hashL_ok tag xs).1
  have he : hashL tag xs = endL (startL tag) xs xs.length := by rw [hashL]
  rw [he] at hk ⊢
  clear he
  go_enter Try.func112, Try.ntmps112
  go_wp2_with fail
  refine (l01Start_any tag ht _).mono ?_
  rintro e w1 ⟨rfl, hx1⟩
  have HX1 := Lib.hid hx1
  clear hx1
  go_wp2_with fail
  refine (l01End_any (startL tag) (startL_length tag) (startL_ok tag ht) _ xs w1 S (H.out.ext (by decide) ((ext_alloc w _).trans HX1.out)) hl xs.length (by omega) (by omega)).mono ?_
  rintro e w2 ⟨rfl, hx2⟩
  have HB := Lib.hid (((Blk.new w 40 _).ext HX1.out).ext hx2)
  have HX := Lib.hid (((ext_alloc w _).trans HX1.out).trans hx2)
  clear hx2 HX1
  go_wp2_with (refine wpl_storeN HB.out aggKey hk rfl rfl _ _ rfl rfl rfl rfl ?_)
  refine bodyPost_ret (results_blk rfl _ rfl aggKey hk (HB.out.setRow _)) rfl ?_
  exact ⟨rfl, HX.out.setRow (Nat.le_refl _) _⟩

end Go.Proofs.Yteegnbdgfedajaa
/- Functions that are one key of bytes. No condition. -/
namespace Go.Proofs.Yteegnbdgfedajaa
open Go.RowKit
set_option linter.unusedVariables false
set_option linter.unusedSimpArgs false

theorem rd_none (w : World) (S : Nat → Prop) : RdL tByte w S (.slice none 0 0) [] := ⟨none, 0, rfl, Nat.le_refl _, by simp, Rd.nil _ _ _ _, by simp⟩
theorem Own.empty' {α : Type} (T : Ty α) {g : Nat} {w : World} (hg : g = w.heap.size) (e base : Nat) (hb : base ≤ w.heap.size) : Own T e (w.alloc (.cells #[] e)) base (.slice (some ⟨g, 0, none⟩) 0 0) ([] : List α) := by
  subst hg
  exact Own.empty T w e base hb
/-- the key of the empty map -/
def emptyL : List Int := hashL 5 []
theorem emptyL_ok : K32 emptyL := hashL_ok _ _
set_option maxHeartbeats 1000000 in
set_option maxRecDepth 100000 in
theorem l04Empty_any (w : World) : Calls Try.prog 98 #[] w fun e w' => e = .returned (.agg (numsA .u8 emptyL)) ∧ Ext w w' := by
  have hk := emptyL_ok.1
  go_enter Try.func98, Try.ntmps98
  go_wp2_with fail
  refine (l01Hash_any 5 (by decide) _ [] _ _ (Own.empty' tByte (by simp) 5 0 (Nat.zero_le _)).rd (by simp)).mono ?_
  rintro e w1 ⟨rfl, hx⟩
  have HB := Lib.hid (((Blk.new w 40 _).alloc _).ext hx)
  have HX := Lib.hid (((ext_alloc w _).alloc _).trans hx)
  clear hx
  go_wp2_with (refine wpl_storeN HB.out aggKey hk rfl rfl _ _ rfl rfl rfl rfl ?_)
  refine bodyPost_ret (results_blk rfl _ rfl aggKey hk (HB.out.setRow _)) rfl ?_
  exact ⟨rfl, HX.out.setRow (Nat.le_refl _) _⟩

/-- functions whose whole result is one key -/
theorem ret_key {fn : Func} {c : Tmp} {t g : Nat} {xs : List Int} {w : World} {cur : Array Value} {P : Program} (hr : fn.results = #[.cell c t]) (tmps : Array Value) (hp : tmps.getD c undef = .pointer (some ⟨g, 0, none⟩)) (ht : Agg P t 32) (hn : xs.length = 32) (hb : Blk w g t cur) :
    (results fn tmps).run P (w.setRow g (numsA .u8 xs)) = .ok (.agg (numsA .u8 xs)) (w.setRow g (numsA .u8 xs)) := results_blk hr tmps hp ht hn (hb.setRow _)
set_option maxHeartbeats 1000000 in
set_option maxRecDepth 100000 in
theorem implEmptyMapKey_any (w : World) : Calls Try.prog 100 #[] w fun e w' => e = .returned (.agg (numsA .u8 emptyL)) ∧ Ext w w' := by
  have hk := emptyL_ok.1
  go_enter Try.func100, Try.ntmps100
  go_wp2_with fail
  refine (hash_any 5 (by decide) _ [] _ _ (rd_none _ (fun _ => True)) (by simp)).mono ?_
  rintro e w1 ⟨rfl, hx⟩
  have HB := Lib.hid ((Blk.new w 40 _).ext hx)
  have HX := Lib.hid ((ext_alloc w _).trans hx)
  clear hx
  go_wp2_with (refine wpl_storeN HB.out aggKey hk rfl rfl _ _ rfl rfl rfl rfl ?_)
  refine bodyPost_ret (results_blk rfl _ rfl aggKey hk (HB.out.setRow _)) rfl ?_
  exact ⟨rfl, HX.out.setRow (Nat.le_refl _) _⟩

end Go.Proofs.Yteegnbdgfedajaa
/- Names and valid entries. No condition. -/
namespace Go.Proofs.Yteegnbdgfedajaa
open Go.RowKit
set_option linter.unusedVariables false
set_option linter.unusedSimpArgs false

/-- a text that is a name -/
@[irreducible] def nameB (s : ByteArray) : Bool := decide (1 ≤ (s.size : Int)) && decide ((s.size : Int) ≤ 24)
theorem nameB_eq (s : ByteArray) : nameB s = (decide (1 ≤ (s.size : Int)) && decide ((s.size : Int) ≤ 24)) := by rw [nameB]
set_option maxHeartbeats 1000000 in
set_option maxRecDepth 100000 in
theorem l04Name_any (s : ByteArray) (hs : s.size ≤ 140737488351232) (w : World) : Calls Try.prog 117 #[.string s] w fun e w' => e = .returned (.bool (nameB s)) ∧ w = w' := by
  have H := Lib.hid (nameB_eq s)
  go_enter Try.func117, Try.ntmps117
  go_wp2_with fail
  refine (l00In_any s.size 1 24 _).mono ?_
  rintro e w' ⟨rfl, rfl⟩
  rw [← H.out]
  go_wp2
  go_ret
  exact ⟨rfl, rfl⟩
set_option maxHeartbeats 1000000 in
set_option maxRecDepth 100000 in
theorem isName_any (s : ByteArray) (hs : s.size ≤ 140737488351232) (w : World) : Calls Try.prog 120 #[.string s] w fun e w' => e = .returned (.bool (nameB s)) ∧ w = w' := by
  have H := Lib.hid (nameB_eq s)
  go_enter Try.func120, Try.ntmps120
  go_wp2_with fail
  refine (within_any s.size 1 24 _).mono ?_
  rintro e w' ⟨rfl, rfl⟩
  rw [← H.out]
  go_wp2
  go_ret
  exact ⟨rfl, rfl⟩
/-- a valid entry -/
@[irreducible] def entB (n v : ByteArray) : Bool := nameB n && decide (v.size ≤ 64)
theorem entB_eq (n v : ByteArray) : entB n v = (nameB n && decide (v.size ≤ 64)) := by rw [entB]
theorem nameB_le {n : ByteArray} (h : nameB n = true) : 1 ≤ n.size ∧ n.size ≤ 24 := by
  rw [nameB_eq] at h
  simp at h
  omega
theorem entB_le {n v : ByteArray} (h : entB n v = true) : 1 ≤ n.size ∧ n.size ≤ 24 ∧ v.size ≤ 64 := by
  rw [entB_eq] at h
  simp at h
  have := nameB_le h.1
  omega
set_option maxHeartbeats 1000000 in
set_option maxRecDepth 100000 in
theorem l04Entry_any (n v : ByteArray) (hn : n.size ≤ 140737488351232) (hv : v.size ≤ 140737488351232) (g off : Nat) (w : World) (c0 : w.cell? ⟨g, off, none⟩ = some (.string n)) (c1 : w.cell? ⟨g, off + 1, none⟩ = some (.string v)) :
    Calls Try.prog 111 #[.pointer (some ⟨g, off, none⟩)] w fun e w' => e = .returned (.bool (entB n v)) ∧ w = w' := by
  rw [entB_eq]
  have hc := l04Name_any n hn
  cases hb : nameB n with
  | true =>
    simp only [hb] at hc
    clear hb
    go_enter Try.func111, Try.ntmps111
    go_wp2_with fail
    refine (hc _).mono ?_
    rintro e w' ⟨rfl, rfl⟩
    go_wp2
    go_ret
    exact ⟨ret_bool (by simp; omega), rfl⟩
  | false =>
    simp only [hb] at hc
    clear hb
    go_enter Try.func111, Try.ntmps111
    go_wp2_with fail
    refine (hc _).mono ?_
    rintro e w' ⟨rfl, rfl⟩
    go_wp2
    go_ret
    exact ⟨rfl, rfl⟩
set_option maxHeartbeats 1000000 in
set_option maxRecDepth 100000 in
theorem validEntry_any (n v : ByteArray) (hn : n.size ≤ 140737488351232) (hv : v.size ≤ 140737488351232) (w : World) :
    Calls Try.prog 113 #[.agg #[.string n, .string v]] w fun e w' => e = .returned (.bool (entB n v)) ∧ Ext w w' := by
  rw [entB_eq]
  have hc := isName_any n hn
  cases hb : nameB n with
  | true =>
    simp only [hb] at hc
    clear hb
    go_enter Try.func113, Try.ntmps113
    go_wp2_with fail
    refine (hc _).mono ?_
    rintro e w' ⟨rfl, rfl⟩
    go_wp2
    go_ret
    exact ⟨ret_bool (by simp; omega), ext_alloc _ _⟩
  | false =>
    simp only [hb] at hc
    clear hb
    go_enter Try.func113, Try.ntmps113
    go_wp2_with fail
    refine (hc _).mono ?_
    rintro e w' ⟨rfl, rfl⟩
    go_wp2
    go_ret
    exact ⟨rfl, ext_alloc _ _⟩


end Go.Proofs.Yteegnbdgfedajaa
/- Texts and their bytes. No condition. -/
namespace Go.Proofs.Yteegnbdgfedajaa
open Go.RowKit
set_option linter.unusedVariables false
set_option linter.unusedSimpArgs false

/-- the bytes of a text -/
@[irreducible] def strL (s : ByteArray) : List Int := s.data.toList.map fun b => (b.toNat : Int)
theorem strL_length (s : ByteArray) : (strL s).length = s.size := by unfold strL; simp
theorem strL_ok (s : ByteArray) : B8 (strL s) := by
  intro x hx
  unfold strL at hx
  obtain ⟨b, _, rfl⟩ := List.mem_map.1 hx
  have := b.toNat_lt
  omega
theorem strL_inj {s t : ByteArray} (h : strL s = strL t) : s = t := by
  unfold strL at h
  apply ByteArray.ext
  apply Array.toList_inj.1
  exact (List.map_inj_right (fun a b h => UInt8.toNat_inj.1 (Int.ofNat.inj h))).1 h
theorem strL_at (s : ByteArray) (i : Nat) (h : i < s.size) : gI (strL s) i = (s.data.toList.getD i 0).toNat := by
  rw [gI_lt (by rw [strL_length]; exact h)]
  unfold strL
  simp [List.getD, h]
theorem bytesWorld_ext (w : World) (e : TypeId) (s : ByteArray) : Ext w (Lib.bytesWorld w e s) :=
  ⟨rfl, rfl, rfl, by rw [Lib.bytesWorld_size]; omega, fun i hi => Lib.bytesWorld_at_old w e s i hi⟩
theorem bytesWorld_rd (w : World) (e : TypeId) (s : ByteArray) (hl : s.size ≤ 140737488351232) : RdL tByte (Lib.bytesWorld w e s) (fun g => w.heap.size ≤ g ∧ g < (Lib.bytesWorld w e s).heap.size) (.slice (some ⟨w.heap.size, 0, none⟩) s.size (grownCap w s.size 0 e)) (strL s) := by
  have hn := strL_length s
  refine ⟨_, _, by rw [hn], ?_, by omega, ⟨?_, fun _ => ⟨_, 0, rfl, ⟨Nat.le_refl _, by rw [Lib.bytesWorld_size]; omega⟩, fun j u hu => ?_⟩⟩, fun x hx => strL_ok s x hx⟩
  · rw [hn]; exact grownCap_ge w s.size 0 e
  · rw [flat_bytes, nums_length]; exact (Nat.mul_one _).symm
  · rw [flat_bytes] at hu
    have hj : j < s.size := by
      have := (List.getElem?_eq_some_iff.1 hu).1
      rwa [nums_length, hn] at this
    rw [nums_at _ _ _ (by rw [hn]; exact hj)] at hu
    rw [Nat.zero_add, Lib.bytesWorld_cell w e s j hj, ← hu, strL_at s j hj]
/-- the bytes of a text, in new memory -/
theorem wpl_conv {P : Program} {ops : Array Oper} {rest : List Oper} {o : Oper} {a : Act} {w : World} {Q : Exit → Act → World → Prop} {src dst e : TypeId} {s : ByteArray}
    (hs : P.underlying src = some .string) (hd : P.underlying dst = some (.slice e)) (he : P.underlying e = some (.int .u8)) (hgd : o.guard = none) (x : Operand) (ho : o.op = .convert src dst x) (hx : a.eval x = .string s) (hl : s.size ≤ 140737488351232)
    (h : ∀ A c w', RdL tByte w' (fun g => w.heap.size ≤ g ∧ g < w'.heap.size) (.slice A s.size c) (strL s) → Ext w w' → wpList P ops Q rest (a.put o.dst (.slice A s.size c)) w') : wpList P ops Q (o :: rest) a w := by
  refine wpList_plain hgd fun K hK => ?_
  unfold Oper.wp execOp
  simp only [ho, hx, Sem.run_bind, Sem.run_pure, Result.andThen_ok, Lib.run_convert_string_bytes w src dst e s hs hd he]
  exact hK _ _ (h _ _ _ (bytesWorld_rd w e s hl) (bytesWorld_ext w e s))

end Go.Proofs.Yteegnbdgfedajaa
/- Names, and their priorities. No condition. -/
namespace Go.Proofs.Yteegnbdgfedajaa
open Go.RowKit
set_option linter.unusedVariables false
set_option linter.unusedSimpArgs false

def prioL (s : ByteArray) : List Int := hashL 4 (strL s)
theorem prioL_ok (s : ByteArray) : K32 (prioL s) := hashL_ok _ _
theorem prioL_eq (s : ByteArray) : prioL s = hashL 4 (strL s) := rfl
attribute [irreducible] prioL
/-- the priority and the code -/
def prioR (s : ByteArray) : List Int × Int := if nameB s then (prioL s, 0) else (List.replicate 32 0, 1)
theorem zero_ok : K32 (List.replicate 32 0) := ⟨by simp, replicate_ok _⟩
theorem prioR_ok (s : ByteArray) : K32 (prioR s).1 := by unfold prioR; split; exact prioL_ok s; exact zero_ok
end Go.Proofs.Yteegnbdgfedajaa
/- Whole structs and arrays in variables: made, stored, loaded, in regions too. No condition. -/
namespace Go.Proofs.Yteegnbdgfedajaa
open Go.RowKit
set_option linter.unusedVariables false
set_option linter.unusedSimpArgs false

/-- cells of a struct or an array: so many, none of them a struct or an array itself -/
structure St (n : Nat) (cs : Array Value) : Prop where
  size : cs.size = n
  one : ∀ u ∈ cs.toList, u.oneCell' = true
theorem St.nums {k : IntKind} {xs : List Int} {n : Nat} (h : xs.length = n) : St n (numsA k xs) := ⟨by rw [numsA_size, h], fun u hu => one_nums k xs u (by simpa [numsA] using hu)⟩
theorem Agg.mkS {P : Program} {t n : Nat} {fs : Array Field} (h : P.underlying t = some (.struct fs)) (hs : (P.info? t).map (·.size) = some n) : Agg P t n := ⟨⟨_, h, rfl⟩, hs⟩
section
variable {P : Program} {ops : Array Oper} {rest : List Oper} {o : Oper} {a : Act} {w : World} {Q : Exit → Act → World → Prop}
theorem run_loadB {t g e n : Nat} {cs : Array Value} (hb : Blk w g e cs) (ht : Agg P t n) (hn : cs.size = n) : (loadVar t ⟨g, 0, none⟩).run P w = .ok (.agg cs) w := by
  have := run_loadVar_at (P := P) (w := w) (t := t) ⟨g, 0, none⟩ cs.toList (by simpa [hn] using ht) (fun j u hu => by
    rw [Addr.add_lit, Nat.zero_add, hb.cell]
    simpa using hu)
  simpa using this
theorem wpl_loadB {t g e n : Nat} {cs : Array Value} (hb : Blk w g e cs) (ht : Agg P t n) (hn : cs.size = n) (hgd : o.guard = none) (x : Operand) (ho : o.op = .load t x) (hx : a.eval x = .pointer (some ⟨g, 0, none⟩))
    (h : wpList P ops Q rest (a.put o.dst (.agg cs)) w) : wpList P ops Q (o :: rest) a w := by
  refine wpList_plain hgd fun K hK => ?_
  unfold Oper.wp execOp
  simp only [ho, hx, Instr.loadAt, Instr.sureAddr, Sem.run_bind, Sem.run_pure, Result.andThen_ok, run_loadB hb ht hn]
  exact hK _ _ h
/-- a whole struct or array is stored into the variable that has just been made -/
theorem wpl_storeNewB {t e n : Nat} {cs cur : Array Value} (ht : Agg P t n) (hs : St n cs) (hl : cur.size = n) (hgd : o.guard = none) (x y : Operand) (ho : o.op = .store t x y) (hx : a.eval x = .pointer (some ⟨w.heap.size, 0, none⟩))
    (hy : a.eval y = .agg cs) (hd : o.dst = none) (h : wpList P ops Q rest a (w.alloc (.cells cs e))) : wpList P ops Q (o :: rest) a (w.alloc (.cells cur e)) := by
  refine wpl_store w.heap.size 0 e cur cs.toList (by rw [Array.length_toList, hs.size]; exact ht.2) hgd x y ho hx (by rw [hy]; simp [Value.cells]) (Blk.new w e cur) (by rw [Array.length_toList, hs.size]; omega) hs.one hd ?_
  rw [splice_all _ _ (by rw [Array.length_toList, hs.size]; omega), setRow_alloc]
  simpa using h
theorem wpl_storeB {t g e n : Nat} {cs cur : Array Value} (hb : Blk w g e cur) (ht : Agg P t n) (hs : St n cs) (hl : cur.size = n) (hgd : o.guard = none) (x y : Operand) (ho : o.op = .store t x y) (hx : a.eval x = .pointer (some ⟨g, 0, none⟩))
    (hy : a.eval y = .agg cs) (hd : o.dst = none) (h : wpList P ops Q rest a (w.setRow g cs)) : wpList P ops Q (o :: rest) a w := by
  refine wpl_store g 0 e cur cs.toList (by rw [Array.length_toList, hs.size]; exact ht.2) hgd x y ho hx (by rw [hy]; simp [Value.cells]) hb (by rw [Array.length_toList, hs.size]; omega) hs.one hd ?_
  rw [splice_all _ _ (by rw [Array.length_toList, hs.size]; omega)]
  simpa using h
/-- a load that any world behind w0 answers alike -/
theorem yields_loadB {w0 : World} {t g e n : Nat} {cs : Array Value} (hb : Blk w0 g e cs) (ht : Agg P t n) (hn : cs.size = n) (hw : Region.wanted o (yielded ops a.tmps) = true) (x : Operand) (ho : o.op = .load t x) (hx : a.eval x = .pointer (some ⟨g, 0, none⟩)) :
    YieldsIf P ops (fun W => Ext w0 W) o (.agg cs) a := Or.inl ⟨hw, fun W hW => by
  unfold execOp
  simp only [ho, hx, Instr.loadAt, Instr.sureAddr, Sem.run_bind, Sem.run_pure, Result.andThen_ok, run_loadB (hb.ext hW) ht hn]⟩
end

end Go.Proofs.Yteegnbdgfedajaa
/- Keys and entries: copied, counted. No condition. -/
namespace Go.Proofs.Yteegnbdgfedajaa
open Go.RowKit
set_option linter.unusedVariables false
set_option linter.unusedSimpArgs false

section
variable {P : Program} {ops : Array Oper} {rest : List Oper} {o : Oper} {a : Act} {w : World} {Q : Exit → Act → World → Prop}
/-- a part of a variable is loaded -/
theorem wpl_loadP {t g e n off : Nat} {cs sub : Array Value} (hb : Blk w g e cs) (ht : Agg P t n) (hn : sub.size = n) (hp : ∀ j u, sub[j]? = some u → cs[off + j]? = some u) (hgd : o.guard = none) (x : Operand) (ho : o.op = .load t x) (hx : a.eval x = .pointer (some ⟨g, off, none⟩))
    (h : wpList P ops Q rest (a.put o.dst (.agg sub)) w) : wpList P ops Q (o :: rest) a w := by
  have h2 := wpl_load (P := P) (ops := ops) (rest := rest) (o := o) (a := a) (w := w) (Q := Q) (t := t) ⟨g, off, none⟩ sub.toList (by simpa [hn] using ht) hgd x ho hx (fun j u hu => by
    rw [Addr.add_lit, hb.cell]
    exact hp j u (by simpa using hu)) (by simpa using h)
  exact h2
/-- a part of a variable is written -/
theorem wpl_storeP {t g e n off : Nat} {cs cur : Array Value} (hb : Blk w g e cur) (ht : Agg P t n) (hs : St n cs) (hl : off + n ≤ cur.size) (hgd : o.guard = none) (x y : Operand) (ho : o.op = .store t x y) (hx : a.eval x = .pointer (some ⟨g, off, none⟩))
    (hy : a.eval y = .agg cs) (hd : o.dst = none) (h : wpList P ops Q rest a (w.setRow g (splice cur off cs.toList))) : wpList P ops Q (o :: rest) a w := by
  refine wpl_store g off e cur cs.toList (by rw [Array.length_toList, hs.size]; exact ht.2) hgd x y ho hx (by rw [hy]; simp [Value.cells]) hb (by rw [Array.length_toList, hs.size]; omega) hs.one hd ?_
  simpa using h
end
theorem aggB32K : Agg Try.prog 39 32 := aggB32
set_option maxHeartbeats 1000000 in
set_option maxRecDepth 100000 in
theorem toKey_any (a : List Int) (ha : K32 a) (w : World) :
    Calls Try.prog 107 #[.agg (numsA .u8 a)] w fun e w' => e = .returned (.agg (numsA .u8 a)) ∧ Ext w w' := by
  have HA := Lib.hid ha.1
  go_enter Try.func107, Try.ntmps107
  go_wp2
  go_loopw [4] (fun i wr => ∃ k : Nat, k ≤ 32 ∧ i = .int .i64 k ∧ Blk wr w.heap.size 39 (numsA .u8 a) ∧ (∃ z, Blk wr (w.heap.size + 1) 40 z ∧ z.size = 32) ∧ (∃ ys, Blk wr (w.heap.size + 2) 40 (numsA .u8 ys) ∧ ys.length = 32 ∧ ys.take k = a.take k) ∧ Ext w wr)
    (fun i _ => 32 - (intOf i).toNat)
  case atStart => exact ⟨0, by omega, rfl, ((Blk.new w _ _).alloc _).alloc _, ⟨_, (Blk.new' (by simp) _ _).alloc _, rfl⟩, ⟨List.replicate 32 0, by rw [← zero32]; exact Blk.new' (by simp) _ _, by simp, by simp⟩, ((ext_alloc _ _).alloc _).alloc _⟩
  case round =>
    obtain ⟨k, hk, rfl, h1, ⟨z, h2, hz⟩, ⟨ys, h3, hyl, hyt⟩, hx⟩ := hrel
    have HX := Lib.hid hx
    have H1 := Lib.hid h1
    have H2 := Lib.hid h2
    have H3 := Lib.hid h3
    have HYL := Lib.hid hyl
    have HYT := Lib.hid hyt
    have HZ := Lib.hid hz
    clear h1 h2 h3 hx hyl hyt hz
    by_cases hlt : k < 32
    · have hd := H1.out.num k (by rw [HA.out]; exact hlt)
      have hd2 := H3.out.num k (by rw [HYL.out]; exact hlt)
      have hf := H3.out.free k
      go_wp2
      go_roundw
      case rel => exact ⟨k + 1, by omega, by go_num, H1.out.far (by simp <;> omega) _, ⟨z, H2.out.far (by simp <;> omega) _, HZ.out⟩, ⟨ys.set k (gI a k), by rw [← numsA_set]; exact H3.out.set k _, by simp [HYL.out], set_take_step (by rw [HA.out]; exact hlt) (by rw [HYL.out, HA.out]) HYT.out⟩, HX.out.set (by simp <;> omega) _⟩
      case measure => simp [intOf]; omega
    · obtain rfl : k = 32 := by omega
      have e := HYT.out
      rw [List.take_of_length_le (by rw [HYL.out]; omega), List.take_of_length_le (by rw [HA.out]; omega)] at e
      subst e
      have hn := sizeN (k := .u8) HA.out
      have hs : St 32 (numsA .u8 ys) := St.nums HA.out
      have HS := Lib.hid hs
      have hzz := HZ.out
      clear hs
      go_wp2_with (first | (refine wpl_loadB H3.out aggKey hn rfl _ rfl rfl ?_) | (refine wpl_storeB H2.out aggKey HS.out hzz rfl _ _ rfl rfl rfl rfl ?_))
      refine bodyPost_ret (results_blk rfl _ rfl aggKey HA.out (H2.out.setRow _)) rfl ?_
      exact ⟨rfl, HX.out.setRow (by simp) _⟩
set_option maxHeartbeats 1000000 in
set_option maxRecDepth 100000 in
theorem toEntry_any (n v : ByteArray) (w : World) :
    Calls Try.prog 109 #[.agg #[.string n, .string v]] w fun e w' => e = .returned (.agg #[.string n, .string v]) ∧ Ext w w' := by
  go_enter Try.func109, Try.ntmps109
  go_wp2
  refine bodyPost_ret (v := .agg #[.string n, .string v]) (by simp [results, Try.results109, go_sem]) rfl ?_
  exact ⟨rfl, ((ext_alloc w _).alloc _).alloc _⟩
set_option maxHeartbeats 1000000 in
set_option maxRecDepth 100000 in
theorem szEntry_any (n v : ByteArray) (hn : n.size ≤ 140737488351232) (hv : v.size ≤ 140737488351232) (l : Int) (h0 : -1 ≤ l) (h1 : l ≤ 1048576) (w : World) :
    Calls Try.prog 106 #[.agg #[.string n, .string v], .int .i64 l] w fun e w' => e = .returned (.int .i64 (if l - n.size - v.size < 0 then -1 else l - n.size - v.size)) ∧ Ext w w' := by
  by_cases h2 : l - (n.size : Int) < 0
  · rw [if_pos (by omega)]
    go_enter Try.func106, Try.ntmps106
    go_wp2
    go_ret
    exact ⟨rfl, ext_alloc _ _⟩
  · by_cases h3 : l - (n.size : Int) - (v.size : Int) < 0
    · rw [if_pos (by omega)]
      go_enter Try.func106, Try.ntmps106
      go_wp2
      go_ret
      exact ⟨rfl, ext_alloc _ _⟩
    · rw [if_neg (by omega)]
      go_enter Try.func106, Try.ntmps106
      go_wp2
      go_ret
      exact ⟨rfl, ext_alloc _ _⟩

end Go.Proofs.Yteegnbdgfedajaa
/- A struct that is filled field by field. No condition. -/
namespace Go.Proofs.Yteegnbdgfedajaa
open Go.RowKit
set_option linter.unusedVariables false
set_option linter.unusedSimpArgs false

/-- block g holds the cells A, and m more -/
def Fill (w : World) (g e : Nat) (A : List Value) (m : Nat) : Prop := ∃ R, R.length = m ∧ Blk w g e (A ++ R).toArray
section
variable {w w' : World} {g e m : Nat} {A : List Value}
theorem Fill.ext (h : Fill w g e A m) (x : Ext w w') : Fill w' g e A m := by
  obtain ⟨R, h1, h2⟩ := h
  exact ⟨R, h1, h2.ext x⟩
theorem Fill.start {Z : Array Value} (h : Blk w g e Z) : Fill w g e [] Z.size := ⟨Z.toList, by simp, by simpa using h⟩
theorem Fill.start' {Z : Array Value} {n : Nat} (h : Blk w g e Z) (hn : Z.size = n) : Fill w g e [] n := hn ▸ Fill.start h
theorem Fill.done (h : Fill w g e A 0) : Blk w g e A.toArray := by
  obtain ⟨R, h1, h2⟩ := h
  obtain rfl : R = [] := List.eq_nil_of_length_eq_zero h1
  simpa using h2
theorem Fill.cell (h : Fill w g e A (m + 1)) {off : Nat} (ho : A.length = off) : (∃ u, w.cell? ⟨g, off, none⟩ = some u) ∧ w.frozen? ⟨g, off, none⟩ = false := by
  obtain ⟨R, h1, h2⟩ := h
  refine ⟨?_, h2.free off⟩
  rw [h2.cell]
  have : off < (A ++ R).toArray.size := by simp; omega
  exact ⟨_, Array.getElem?_eq_getElem this⟩
theorem Fill.one (h : Fill w g e A (m + 1)) {off : Nat} (ho : A.length = off) (v : Value) : Fill (w.setCell ⟨g, off, none⟩ v) g e (A ++ [v]) m := by
  obtain ⟨R, h1, h2⟩ := h
  match R, h1 with
  | r :: R', h1 =>
    refine ⟨R', by simpa using h1, ?_⟩
    have := h2.set off v
    subst ho
    simpa using this
theorem Fill.far (h : Fill w g e A m) {p : Addr} (hp : g ≠ p.block) (u : Value) : Fill (w.setCell p u) g e A m := by
  obtain ⟨R, h1, h2⟩ := h
  exact ⟨R, h1, h2.far hp u⟩
end
theorem splice_next (A R vs : List Value) {o : Nat} (h : A.length = o) : splice (A ++ R).toArray o vs = (A ++ vs ++ R.drop vs.length).toArray := by
  subst h
  unfold splice
  congr 1
  rw [List.take_left', List.drop_append, List.drop_eq_nil_of_le (by omega), List.nil_append, show A.length + vs.length - A.length = vs.length by omega]
  rfl
/-- the next cells are written, all at once -/
theorem wpl_fill {P : Program} {ops : Array Oper} {rest : List Oper} {o : Oper} {a : Act} {w : World} {Q : Exit → Act → World → Prop} {t g e n m off : Nat} {cs : Array Value} {A : List Value} (hb : Fill w g e A (n + m)) (hA : A.length = off) (ht : Agg P t n) (hs : St n cs) (hgd : o.guard = none) (x y : Operand) (ho : o.op = .store t x y) (hx : a.eval x = .pointer (some ⟨g, off, none⟩))
    (hy : a.eval y = .agg cs) (hd : o.dst = none) (h : ∀ row, Fill (w.setRow g row) g e (A ++ cs.toList) m → wpList P ops Q rest a (w.setRow g row)) : wpList P ops Q (o :: rest) a w := by
  obtain ⟨R, h1, h2⟩ := hb
  have hl : cs.toList.length = n := by rw [Array.length_toList, hs.size]
  refine wpl_storeP h2 ht hs (by simp; omega) hgd x y ho hx hy hd (h _ ⟨R.drop n, by rw [List.length_drop]; omega, ?_⟩)
  have := h2.setRow (splice (A ++ R).toArray off cs.toList)
  rw [splice_next A R _ hA, hl] at this
  rw [splice_next A R _ hA, hl]
  exact this

/-- a whole variable is the result -/
theorem results_blkB {P : Program} {w : World} {fn : Func} {c : Tmp} {t g e n : Nat} {cs : Array Value} (hr : fn.results = #[.cell c t]) (tmps : Array Value) (hp : tmps.getD c undef = .pointer (some ⟨g, 0, none⟩)) (ht : Agg P t n) (hn : cs.size = n) (hb : Blk w g e cs) :
    (results fn tmps).run P w = .ok (.agg cs) w := by
  have hl := run_loadB (P := P) hb ht hn
  have hp' : tmps[c]?.getD undef = .pointer (some ⟨g, 0, none⟩) := by simpa using hp
  simp [results, hr, hp', asAddr, hl]
/-- a whole variable and a number are the results -/
theorem results_blkB2 {P : Program} {w : World} {fn : Func} {c d : Tmp} {t g e n : Nat} {cs : Array Value} (hr : fn.results = #[.cell c t, .tmp d]) (tmps : Array Value) (hp : tmps.getD c undef = .pointer (some ⟨g, 0, none⟩)) (ht : Agg P t n) (hn : cs.size = n) (hb : Blk w g e cs) {v : Value} (hv : tmps.getD d undef = v) :
    (results fn tmps).run P w = .ok (.tuple #[.agg cs, v]) w := by
  have hl := run_loadB (P := P) hb ht hn
  have hp' : tmps[c]?.getD undef = .pointer (some ⟨g, 0, none⟩) := by simpa using hp
  have hv' : tmps[d]?.getD undef = v := by simpa using hv
  simp [results, hr, hp', hv', asAddr, hl]

/-! ### nodes -/
structure Nd where
  l : List Int
  r : List Int
  n : ByteArray
  v : ByteArray
def Nd.enc (x : Nd) : List Value := nums .u8 x.l ++ nums .u8 x.r ++ [.string x.n, .string x.v]
def Nd.ok (x : Nd) : Prop := K32 x.l ∧ K32 x.r ∧ x.n.size ≤ 140737488351232 ∧ x.v.size ≤ 140737488351232
theorem Nd.enc_length {x : Nd} (h : x.ok) : x.enc.length = 66 := by simp [Nd.enc, nums_length, h.1.1, h.2.1.1]
theorem Nd.enc_one (x : Nd) : ∀ u ∈ x.enc, u.oneCell' = true := by
  intro u hu
  unfold Nd.enc at hu
  rcases List.mem_append.1 hu with hu | hu
  · rcases List.mem_append.1 hu with hu | hu
    · exact one_nums _ _ u hu
    · exact one_nums _ _ u hu
  · simp at hu; rcases hu with rfl | rfl <;> rfl
def tNode : Ty Nd := ⟨66, Nd.enc, Nd.ok, fun x h => Nd.enc_length h, Nd.enc_one⟩
theorem Nd.left {x : Nd} (h : x.ok) (j : Nat) (u : Value) (hu : (numsA .u8 x.l)[j]? = some u) : x.enc.toArray[0 + j]? = some u := by
  have hj : j < x.l.length := by have := (Array.getElem?_eq_some_iff.1 hu).1; simpa [numsA, nums] using this
  rw [Nat.zero_add, List.getElem?_toArray, Nd.enc, List.append_assoc, List.getElem?_append_left (by rw [nums_length]; exact hj)]
  simpa [numsA] using hu
theorem Nd.right {x : Nd} (h : x.ok) (j : Nat) (u : Value) (hu : (numsA .u8 x.r)[j]? = some u) : x.enc.toArray[32 + j]? = some u := by
  have hj : j < x.r.length := by have := (Array.getElem?_eq_some_iff.1 hu).1; simpa [numsA, nums] using this
  have hl := h.1.1
  rw [List.getElem?_toArray, Nd.enc, List.append_assoc, List.getElem?_append_right (by rw [nums_length]; omega), nums_length, hl, show 32 + j - 32 = j by omega, List.getElem?_append_left (by rw [nums_length]; exact hj)]
  simpa [numsA] using hu
theorem Nd.ent {x : Nd} (h : x.ok) (j : Nat) (u : Value) (hu : (#[Value.string x.n, Value.string x.v] : Array Value)[j]? = some u) : x.enc.toArray[64 + j]? = some u := by
  have hl := h.1.1
  have hr := h.2.1.1
  rw [List.getElem?_toArray, Nd.enc, List.getElem?_append_right (by simp [nums_length]; omega)]
  simp only [List.length_append, nums_length, hl, hr]
  rw [show 64 + j - (32 + 32) = j by omega]
  simpa using hu
theorem Nd.at64 {x : Nd} (h : x.ok) : x.enc.toArray[64]? = some (.string x.n) := Nd.ent h 0 _ rfl
theorem Nd.at65 {x : Nd} (h : x.ok) : x.enc.toArray[65]? = some (.string x.v) := Nd.ent h 1 _ rfl
theorem Nd.st {x : Nd} (h : x.ok) : St 66 x.enc.toArray := ⟨by simpa using Nd.enc_length h, by simpa using Nd.enc_one x⟩
theorem stEnt (n v : ByteArray) : St 2 #[Value.string n, Value.string v] := ⟨rfl, fun u hu => by simp at hu; rcases hu with rfl | rfl <;> rfl⟩
theorem aggEntryL : Agg Try.prog 140 2 := Agg.mkS (fs := _) Try.underlying140 (by kernel_rfl)
theorem aggEntryI : Agg Try.prog 124 2 := Agg.mkS (fs := _) Try.underlying124 (by kernel_rfl)
end Go.Proofs.Yteegnbdgfedajaa
/- The bytes and the key of a node. No condition. -/
namespace Go.Proofs.Yteegnbdgfedajaa
open Go.RowKit
set_option linter.unusedVariables false
set_option linter.unusedSimpArgs false

theorem rd_of {w : World} {S : Nat → Prop} {A : Option Addr} {n c : Nat} {xs : List Int} (h : RdL tByte w S (.slice A n c) xs) : Rd w S tByte.sz A xs.length (xs.flatMap tByte.enc) ∧ (∀ y ∈ xs, tByte.ok y) ∧ n = xs.length := by
  obtain ⟨A2, cap2, e, _, _, h1, h2⟩ := h
  injection e with e1 e2 e3
  subst e1
  exact ⟨h1, h2, e2⟩
/-- the bytes of a node -/
@[irreducible] def nodeL (x : Nd) : List Int := x.l ++ x.r ++ [(x.n.size : Int) % 256] ++ strL x.n ++ strL x.v
theorem nodeL_eq (x : Nd) : nodeL x = x.l ++ x.r ++ [(x.n.size : Int) % 256] ++ strL x.n ++ strL x.v := by rw [nodeL]
theorem nodeL_length {x : Nd} (h : x.ok) : (nodeL x).length = 65 + x.n.size + x.v.size := by
  rw [nodeL]; simp only [List.length_append, strL_length, h.1.1, h.2.1.1, List.length_cons, List.length_nil]
/-- the key of a node, and the code -/
def nodeKR (x : Nd) : List Int × Int := if entB x.n x.v then (hashL 5 (nodeL x), 0) else (List.replicate 32 0, 1)
theorem nodeKR_ok (x : Nd) : K32 (nodeKR x).1 := by unfold nodeKR; split; exact hashL_ok _ _; exact zero_ok
end Go.Proofs.Yteegnbdgfedajaa
/- Any number of slices of bytes put together. No condition. -/
namespace Go.Proofs.Yteegnbdgfedajaa
open Go.RowKit
set_option linter.unusedVariables false
set_option linter.unusedSimpArgs false

/-- all bytes of the first k -/
@[irreducible] def catL (L : List (Value × List Int)) (k : Nat) : List Int := (L.take k).flatMap (·.2)
theorem catL_zero (L : List (Value × List Int)) : catL L 0 = [] := by rw [catL]; simp
theorem catL_succ (L : List (Value × List Int)) (k : Nat) (h : k < L.length) : catL L (k + 1) = catL L k ++ L[k].2 := by
  rw [catL, catL, List.take_succ_eq_append_getElem h, List.flatMap_append, List.flatMap_cons, List.flatMap_nil, List.append_nil]
theorem catL_le (L : List (Value × List Int)) (k : Nat) (h : k ≤ L.length) : (catL L k).length ≤ (catL L L.length).length := by
  rw [catL, catL]
  conv => rhs; rw [← Nat.add_sub_cancel' h, List.take_add]
  simp
set_option maxHeartbeats 1000000 in
set_option maxRecDepth 100000 in
theorem concat_any (g o c : Nat) (L : List (Value × List Int)) (w : World) (S : Nat → Prop) (hrd : ∀ i (h : i < L.length), RdL tByte w S L[i].1 L[i].2) (hc : ∀ i (h : i < L.length), w.cell? ⟨g, o + i, none⟩ = some L[i].1)
    (hL : L.length ≤ 1000) (h0 : 0 < (catL L L.length).length) (hn : (catL L L.length).length ≤ 70368744177664) :
    Calls Try.prog 122 #[.slice (some ⟨g, o, none⟩) L.length c] w fun e w' => ∃ v', e = .returned v' ∧ Own tByte 5 w' w.heap.size v' (catL L L.length) ∧ Ext w w' := by
  have HRD := Lib.hid hrd
  have HC := Lib.hid hc
  have HZ := Lib.hid (catL_zero L)
  clear hrd hc
  go_enter Try.func122, Try.ntmps122
  go_wp2_with fail
  go_loop [3, 11] (fun s i => ∃ k : Nat, k ≤ L.length ∧ i = .int .i64 k ∧ s = .int .i64 (catL L k).length) (fun _ i => L.length - (intOf i).toNat)
  case atStart => exact ⟨0, by omega, rfl, by rw [HZ.out]; rfl⟩
  case round =>
    obtain ⟨k, hk, rfl, rfl⟩ := hrel
    have hle := catL_le L k hk
    by_cases hlt : k < L.length
    · have hle2 := catL_le L (k + 1) hlt
      have HS := Lib.hid (catL_succ L k hlt)
      have hcell := HC.out k hlt
      obtain ⟨A, cap, e, hcap, hlen, _⟩ := HRD.out k hlt
      rw [e] at hcell
      rw [HS.out, List.length_append] at hle2
      have hi : (0 : Int) ≤ (k : Int) := by omega
      go_wp2_with fail
      go_round
      case rel => exact ⟨k + 1, by omega, by go_num, by rw [HS.out, List.length_append]; go_num⟩
      case measure => simp [intOf]; omega
    · obtain rfl : k = L.length := by omega
      have G := grow_any (catL L L.length).length h0 hn w
      have HG := Lib.hid G
      clear G
      go_wp2_with fail
      refine HG.out.mono ?_
      rintro e w1 ⟨v1, rfl, ho, hx⟩
      have HO := Lib.hid ho
      have HX := Lib.hid hx
      clear ho hx
      go_wp2_with fail
      go_loopw [6, 27] (fun v i wr => ∃ k : Nat, k ≤ L.length ∧ i = .int .i64 k ∧ Own tByte 5 wr w.heap.size v (catL L k) ∧ Ext w wr) (fun _ i _ => L.length - (intOf i).toNat)
      case atStart => exact ⟨0, by omega, rfl, by rw [HZ.out]; exact HO.out, HX.out⟩
      case round =>
        clear HO HX hk hle hlt
        obtain ⟨k, hk, rfl, ho, hx⟩ := hrel
        have HX := Lib.hid hx
        have HO := Lib.hid ho
        obtain ⟨B, bn, bc, rfl⟩ := ho.shape3
        have hle := catL_le L k hk
        clear ho hx
        by_cases hlt : k < L.length
        · have hle2 := catL_le L (k + 1) hlt
          have HS := Lib.hid (catL_succ L k hlt)
          have hcell := HX.out.cell (HC.out k hlt)
          obtain ⟨A, cap, e, hcap, hlen, hr1, hok1⟩ := (HRD.out k hlt).ext (by decide) HX.out
          rw [e] at hcell
          rw [HS.out, List.length_append] at hle2
          have HR := Lib.hid hr1
          have HK := Lib.hid hok1
          have hi : (0 : Int) ≤ (k : Int) := by omega
          clear hr1 hok1
          go_wp2_with (at_builtin; refine wpl_append rowByte rfl _ _ rfl (v := .slice B bn bc) rfl HO.out _ _ rfl (ys := L[k].2) (A := A) (S := S) rfl HR.out HK.out (by omega) HX.out.size ?_; intro v1 w1 ho1 hg1 hat1; have HO1 := Lib.hid ho1; have HX1 := Lib.hid (HO.out.ext_app HX.out hg1); clear ho1 hg1 hat1)
          go_roundw
          case rel => exact ⟨k + 1, by omega, by go_num, by rw [HS.out]; exact HO1.out, HX1.out⟩
          case measure => simp [intOf]; omega
        · obtain rfl : k = L.length := by omega
          go_wp2_with fail
          go_ret
          exact ⟨_, rfl, HO.out, HX.out⟩

end Go.Proofs.Yteegnbdgfedajaa
/- The program's bytes and key of a node. No condition. -/
namespace Go.Proofs.Yteegnbdgfedajaa
open Go.RowKit
set_option linter.unusedVariables false
set_option linter.unusedSimpArgs false

/-- the bytes of a text, in new memory: one step of a region that draws its order -/
theorem stp_conv {P : Program} {ops : Array Oper} {o : Oper} {a : Act} {w : World} {K : Act → World → Prop} {Q : Exit → Act → World → Prop} {E : Prop} {src dst e : TypeId} {s : ByteArray}
    (hs : P.underlying src = some .string) (hd : P.underlying dst = some (.slice e)) (he : P.underlying e = some (.int .u8)) (hgd : o.guard = none) (x : Operand) (ho : o.op = .convert src dst x) (hx : a.eval x = .string s) (hl : s.size ≤ 140737488351232)
    (h : ∀ A c w', RdL tByte w' (fun _ => True) (.slice A s.size c) (strL s) → Ext w w' → K (a.put o.dst (.slice A s.size c)) w') : if Region.wanted o (yielded ops a.tmps) = true then Oper.wp P o a w K Q else E := by
  have hw : Region.wanted o (yielded ops a.tmps) = true := by simp [Region.wanted, hgd]
  rw [if_pos hw]
  unfold Oper.wp execOp
  simp only [ho, hx, Sem.run_bind, Sem.run_pure, Result.andThen_ok, Lib.run_convert_string_bytes w src dst e s hs hd he]
  exact h _ _ _ ((bytesWorld_rd w e s hl).mono fun _ _ => trivial) (bytesWorld_ext w e s)
/-- bytes that lie in a variable -/
theorem rdl_blk {w : World} {g t off n : Nat} {cs : Array Value} {xs : List Int} (hb : Blk w g t cs) (hp : ∀ j u, (numsA .u8 xs)[j]? = some u → cs[off + j]? = some u) (hn : xs.length = n) (h1 : B8 xs) (h2 : n ≤ 1000) (c : Nat) (hc : n ≤ c) : RdL tByte w (fun _ => True) (.slice (some ⟨g, off, none⟩) n c) xs := by
  subst hn
  refine ⟨_, _, rfl, hc, by omega, ⟨by rw [flat_bytes, nums_length]; exact (Nat.mul_one _).symm, fun _ => ⟨g, off, rfl, trivial, fun j u hu => ?_⟩⟩, h1⟩
  rw [hb.cell]
  exact hp j u (by rw [flat_bytes] at hu; simpa [numsA] using hu)
theorem rdl_one {w : World} {g : Nat} {x : Int} (hx : 0 ≤ x ∧ x ≤ 255) (hc : w.cell? ⟨g, 0, none⟩ = some (.int .u8 x)) (c : Nat) (h : 1 ≤ c) : RdL tByte w (fun _ => True) (.slice (some ⟨g, 0, none⟩) 1 c) [x] := by
  refine ⟨_, _, rfl, h, by simp, ⟨by simp [tByte], fun _ => ⟨g, 0, rfl, trivial, fun j u hu => ?_⟩⟩, okOne hx⟩
  simp [tByte] at hu
  obtain ⟨rfl, rfl⟩ : j = 0 ∧ u = .int .u8 x := by
    cases j with
    | zero => simp at hu; exact ⟨rfl, hu.symm⟩
    | succ j => simp at hu
  exact hc
/-- the five parts of a node's bytes put together -/
theorem nodeCat_any (x : Nd) (hok : x.ok) (b : Nat) (v9 v13 : Value) (W : World) (v17 : Value) (hn2 : x.n.size ≤ 24) (B1 : Blk W b 129 x.enc.toArray) (r9 : RdL tByte W (fun _ => True) v9 [(x.n.size : Int)]) (r13 : RdL tByte W (fun _ => True) v13 (strL x.n)) (r17 : RdL tByte W (fun _ => True) v17 (strL x.v))
    (h0 : 0 < (x.l ++ x.r ++ [(x.n.size : Int) % 256] ++ strL x.n ++ strL x.v).length) (h1 : (x.l ++ x.r ++ [(x.n.size : Int) % 256] ++ strL x.n ++ strL x.v).length ≤ 70368744177664) :
    Calls Try.prog 122 #[.slice (some ⟨W.heap.size, 0, none⟩) 5 5] (W.alloc (.cells #[.slice (some ⟨b, 0, none⟩) 32 32, .slice (some ⟨b, 32, none⟩) 32 32, v9, v13, v17] 22)) fun e w' => ∃ v', e = .returned v' ∧ Own tByte 5 w' (W.alloc (.cells #[.slice (some ⟨b, 0, none⟩) 32 32, .slice (some ⟨b, 32, none⟩) 32 32, v9, v13, v17] 22)).heap.size v' (x.l ++ x.r ++ [(x.n.size : Int) % 256] ++ strL x.n ++ strL x.v) ∧ Ext (W.alloc (.cells #[.slice (some ⟨b, 0, none⟩) 32 32, .slice (some ⟨b, 32, none⟩) 32 32, v9, v13, v17] 22)) w' := by
  have e : (x.n.size : Int) % 256 = x.n.size := by omega
  rw [e] at h0 h1 ⊢
  obtain ⟨L, hL⟩ : ∃ L : List (Value × List Int), L = [(.slice (some ⟨b, 0, none⟩) 32 32, x.l), (.slice (some ⟨b, 32, none⟩) 32 32, x.r), (v9, [(x.n.size : Int)]), (v13, strL x.n), (v17, strL x.v)] := ⟨_, rfl⟩
  have hcat : catL L L.length = x.l ++ x.r ++ [(x.n.size : Int)] ++ strL x.n ++ strL x.v := by rw [catL, List.take_length, hL]; simp
  have hrow := Blk.new W 22 #[.slice (some ⟨b, 0, none⟩) 32 32, .slice (some ⟨b, 32, none⟩) 32 32, v9, v13, v17]
  have H := concat_any W.heap.size 0 5 L (W.alloc (.cells #[.slice (some ⟨b, 0, none⟩) 32 32, .slice (some ⟨b, 32, none⟩) 32 32, v9, v13, v17] 22)) (fun _ => True) ?_ ?_ (by rw [hL]; simp) (by rw [hcat]; exact h0) (by rw [hcat]; exact h1)
  · rw [hcat] at H
    rw [show L.length = 5 by rw [hL]; rfl] at H
    exact H
  · have hE := ext_alloc W (.cells #[.slice (some ⟨b, 0, none⟩) 32 32, .slice (some ⟨b, 32, none⟩) 32 32, v9, v13, v17] 22)
    intro i hi
    subst hL
    simp only [List.length_cons, List.length_nil] at hi
    rcases (show i = 0 ∨ i = 1 ∨ i = 2 ∨ i = 3 ∨ i = 4 by omega) with rfl | rfl | rfl | rfl | rfl
    · exact (rdl_blk B1 (Nd.left hok) hok.1.1 hok.1.2 (by decide) 32 (Nat.le_refl _)).ext (by decide) hE
    · exact (rdl_blk B1 (Nd.right hok) hok.2.1.1 hok.2.1.2 (by decide) 32 (Nat.le_refl _)).ext (by decide) hE
    · exact r9.ext (by decide) hE
    · exact r13.ext (by decide) hE
    · exact r17.ext (by decide) hE
  · intro i hi
    subst hL
    simp only [List.length_cons, List.length_nil] at hi
    rcases (show i = 0 ∨ i = 1 ∨ i = 2 ∨ i = 3 ∨ i = 4 by omega) with rfl | rfl | rfl | rfl | rfl <;> exact hrow.at_ _ rfl
end Go.Proofs.Yteegnbdgfedajaa
/- Keys compared. No condition. -/
namespace Go.Proofs.Yteegnbdgfedajaa
open Go.RowKit
set_option linter.unusedVariables false
set_option linter.unusedSimpArgs false

/-- which of two lists comes first -/
@[irreducible] def cmpL : List Int → List Int → Int
  | x :: a, y :: b => if x = y then cmpL a b else if x < y then -1 else 1
  | _, _ => 0
theorem cmpL_self (a : List Int) : cmpL a a = 0 := by
  induction a with
  | nil => rw [cmpL]; intro x a y b h; cases h
  | cons x r ih => rw [cmpL, if_pos rfl, ih]
theorem cmpL_at (a b : List Int) (k : Nat) (ha : k < a.length) (hb : k < b.length) (h : a.take k = b.take k) (hne : gI a k ≠ gI b k) : cmpL a b = if gI a k < gI b k then -1 else 1 := by
  induction k generalizing a b with
  | zero =>
    match a, b, ha, hb with
    | x :: a, y :: b, _, _ => 
      have hne' : x ≠ y := by simpa [gI] using hne
      rw [cmpL, if_neg hne']; simp [gI]
  | succ k ih =>
    match a, b, ha, hb with
    | x :: a, y :: b, ha, hb =>
      simp only [List.take_succ_cons, List.cons.injEq] at h
      rw [cmpL, if_pos h.1]
      have := ih a b (by simpa using ha) (by simpa using hb) h.2 (by simpa [gI] using hne)
      rw [this]; simp [gI]
set_option maxHeartbeats 1000000 in
set_option maxRecDepth 100000 in
theorem l01Compare_any (a b : List Int) (ha : K32 a) (hb : K32 b) (w : World) :
    Calls Try.prog 85 #[.agg (numsA .u8 a), .agg (numsA .u8 b)] w fun e w' => e = .returned (.int .i64 (cmpL a b)) ∧ Ext w w' := by
  have HA := Lib.hid ha.1
  have HB := Lib.hid hb.1
  go_enter Try.func85, Try.ntmps85
  go_wp2
  go_loopw [5] (fun i wr => ∃ k : Nat, k ≤ 32 ∧ i = .int .i64 k ∧ a.take k = b.take k ∧ Blk wr w.heap.size 40 (numsA .u8 a) ∧ Blk wr (w.heap.size + 1) 40 (numsA .u8 b) ∧ Ext w wr)
    (fun i _ => 32 - (intOf i).toNat)
  case atStart => exact ⟨0, by omega, rfl, by simp, (Blk.new w _ _).alloc _, Blk.new' (by simp) _ _, (ext_alloc _ _).alloc _⟩
  case round =>
    obtain ⟨k, hk, rfl, ht, h1, h2, hx⟩ := hrel
    have Ht := Lib.hid ht
    have HX := Lib.hid hx
    have H1 := Lib.hid h1
    have H2 := Lib.hid h2
    clear ht h1 h2 hx
    by_cases hlt : k < 32
    · have hd := H1.out.num k (by rw [HA.out]; exact hlt)
      have hd' := H2.out.num k (by rw [HB.out]; exact hlt)
      by_cases he : gI a k = gI b k
      · have He := Lib.hid he
        have hne : (gI a k != gI b k) = false := by simpa using he
        clear he
        go_wp2
        go_quiet (fail)
        go_wp2
        go_roundw
        case rel => exact ⟨k + 1, by omega, by go_num, take_eq_step (by rw [HA.out]; exact hlt) (by rw [HB.out]; exact hlt) Ht.out He.out, H1.out, H2.out, HX.out.drewN _⟩
        case measure => simp [intOf]; omega
      · have hc := cmpL_at a b k (by rw [HA.out]; exact hlt) (by rw [HB.out]; exact hlt) Ht.out he
        have Hc := Lib.hid hc
        clear hc
        have hne : (gI a k != gI b k) = true := by simpa using he
        clear he
        by_cases hlx : gI a k < gI b k
        · have hl2 : decide (gI a k < gI b k) = true := by simpa using hlx
          have Hl := Lib.hid hlx
          clear hlx
          go_wp2
          go_quiet (fail)
          go_wp2
          go_quiet (fail)
          go_wp2
          go_ret
          exact ⟨by rw [Hc.out, if_pos Hl.out]; rfl, (HX.out.drewN _).drewN _⟩
        · have hl2 : decide (gI a k < gI b k) = false := by simpa using hlx
          have Hl := Lib.hid hlx
          clear hlx
          go_wp2
          go_quiet (fail)
          go_wp2
          go_quiet (fail)
          go_wp2
          go_ret
          exact ⟨by rw [Hc.out, if_neg (Int.not_lt.2 Hl.out)]; rfl, (HX.out.drewN _).drewN _⟩
    · go_wp2
      go_ret
      obtain rfl : k = 32 := by omega
      refine ⟨?_, HX.out⟩
      have e := Ht.out
      rw [List.take_of_length_le (by rw [HA.out]; omega), List.take_of_length_le (by rw [HB.out]; omega)] at e
      subst e; rw [cmpL_self]; rfl
set_option maxHeartbeats 1000000 in
set_option maxRecDepth 100000 in
theorem isNaNB_any (x : Int) (w : World) : Calls Try.prog 128 #[.int .u8 x] w fun e w' => e = .returned (.bool false) ∧ w = w' := by
  have h : (x != x) = false := by simp
  go_enter Try.func128, Try.ntmps128
  go_wp2
  go_ret
  exact ⟨rfl, rfl⟩
set_option maxHeartbeats 1000000 in
set_option maxRecDepth 100000 in
theorem cmpB_any (x y : Int) (w : World) : Calls Try.prog 116 #[.int .u8 x, .int .u8 y] w fun e w' => e = .returned (.int .i64 (if x = y then 0 else if x < y then -1 else 1)) ∧ w = w' := by
  rcases Int.lt_trichotomy x y with h | h | h
  · rw [if_neg (by omega), if_pos h]
    go_enter Try.func116, Try.ntmps116
    go_wp2_with (go_at_call 128; refine (isNaNB_any _ _).mono ?_; rintro e w' ⟨rfl, rfl⟩)
    go_ret
    exact ⟨rfl, rfl⟩
  · subst h
    rw [if_pos rfl]
    go_enter Try.func116, Try.ntmps116
    go_wp2_with (go_at_call 128; refine (isNaNB_any _ _).mono ?_; rintro e w' ⟨rfl, rfl⟩)
    go_ret
    exact ⟨rfl, rfl⟩
  · have h2 : ¬ x < y := by omega
    rw [if_neg (by omega), if_neg h2]
    go_enter Try.func116, Try.ntmps116
    go_wp2_with (go_at_call 128; refine (isNaNB_any _ _).mono ?_; rintro e w' ⟨rfl, rfl⟩)
    go_ret
    exact ⟨rfl, rfl⟩
set_option maxHeartbeats 1000000 in
set_option maxRecDepth 100000 in
theorem slCompare_any (v u : Value) (a b : List Int) (w : World) (S S' : Nat → Prop) (h : RdL tByte w S v a) (h' : RdL tByte w S' u b) (hl : a.length = b.length) :
    Calls Try.prog 104 #[v, u] w fun e w' => e = .returned (.int .i64 (cmpL a b)) ∧ Ext w w' := by
  obtain ⟨A, cap, rfl, hcap, hlen, hrd, hok⟩ := h
  obtain ⟨A', cap', rfl, hcap', hlen', hrd', hok'⟩ := h'
  have Hrd := Lib.hid (show Rd w S 1 A a.length (nums .u8 a) by rw [← flat_bytes]; exact hrd)
  have Hrd' := Lib.hid (show Rd w S' 1 A' b.length (nums .u8 b) by rw [← flat_bytes]; exact hrd')
  have Hl := Lib.hid hl
  clear hrd hrd' hl
  go_enter Try.func104, Try.ntmps104
  go_wp2
  go_loopw [11] (fun i wr => ∃ k : Nat, k ≤ a.length ∧ i = .int .i64 k ∧ a.take k = b.take k ∧ Ext w wr) (fun i _ => a.length - (intOf i).toNat)
  case atStart => exact ⟨0, by omega, rfl, by simp, Ext.refl _⟩
  case round =>
    obtain ⟨k, hk, rfl, ht, hx⟩ := hrel
    have Ht := Lib.hid ht
    have HX := Lib.hid hx
    clear ht hx
    have hbl : (b.length : Int) = a.length := by rw [Hl.out]
    by_cases hlt : k < a.length
    · have hlt' : k < b.length := by rw [← Hl.out]; exact hlt
      obtain ⟨g, o, rfl, hs, hc⟩ := (Hrd.out).byte k hlt
      obtain ⟨g', o', rfl, hs', hc'⟩ := (Hrd'.out).byte k hlt'
      have hd := HX.out.cell hc
      have hd' := HX.out.cell hc'
      have hi : (0 : Int) ≤ (k : Int) := by omega
      have hi2 : (k : Int) < (a.length : Int) := by omega
      have hi3 : (k : Int) < (b.length : Int) := by omega
      clear hc hc' hbl
      have hcm := fun W => cmpB_any (gI a k) (gI b k) W
      by_cases he : gI a k = gI b k
      · have He := Lib.hid he
        simp only [if_pos he] at hcm
        clear he
        go_wp2_with fail
        refine (hcm _).mono ?_
        rintro e w' ⟨rfl, rfl⟩
        go_wp2
        go_roundw
        case rel => exact ⟨k + 1, by omega, by go_num, take_eq_step hlt hlt' Ht.out He.out, HX.out⟩
        case measure => simp [intOf]; omega
      · have HC := Lib.hid (cmpL_at a b k hlt hlt' Ht.out he)
        simp only [if_neg he] at hcm
        clear he
        by_cases hlx : gI a k < gI b k
        · have Hlx := Lib.hid hlx
          simp only [if_pos hlx] at hcm
          clear hlx
          go_wp2_with fail
          refine (hcm _).mono ?_
          rintro e w' ⟨rfl, rfl⟩
          go_wp2
          go_ret
          exact ⟨by rw [HC.out, if_pos Hlx.out]; rfl, HX.out⟩
        · have Hlx := Lib.hid (Int.not_lt.1 hlx)
          simp only [if_neg hlx] at hcm
          clear hlx
          go_wp2_with fail
          refine (hcm _).mono ?_
          rintro e w' ⟨rfl, rfl⟩
          go_wp2
          go_ret
          exact ⟨by rw [HC.out, if_neg (Int.not_lt.2 Hlx.out)]; rfl, HX.out⟩
    · have hq : ¬ (a.length : Int) < (b.length : Int) := by omega
      clear hbl
      go_wp2
      go_ret
      obtain rfl : k = a.length := by omega
      refine ⟨?_, HX.out⟩
      have e := Ht.out
      rw [List.take_of_length_le (by omega), List.take_of_length_le (by rw [← Hl.out]; omega)] at e
      subst e; rw [cmpL_self]; rfl
theorem numsA_full {xs : List Int} (j : Nat) (u : Value) (hu : (numsA .u8 xs)[j]? = some u) : (numsA .u8 xs)[0 + j]? = some u := by rw [Nat.zero_add]; exact hu
set_option maxHeartbeats 1000000 in
set_option maxRecDepth 100000 in
theorem compareKeys_any (a b : List Int) (ha : K32 a) (hb : K32 b) (w : World) :
    Calls Try.prog 86 #[.agg (numsA .u8 a), .agg (numsA .u8 b)] w fun e w' => e = .returned (.int .i64 (cmpL a b)) ∧ Ext w w' := by
  have HA := Lib.hid ha
  have HB := Lib.hid hb
  clear ha hb
  go_enter Try.func86, Try.ntmps86
  go_wp2_with fail
  go_region_held3 (fun W => Ext ((w.alloc (.cells (numsA .u8 a) 40)).alloc (.cells (numsA .u8 b) 40)) W) (first | exact Ext.refl _ | exact (Ext.refl _).drew | exact Ext.trans (by assumption) (by assumption))
    (first
    | (go_at_call 104; refine (slCompare_any _ _ a b _ _ _ (rdl_blk (((Blk.new w 40 (numsA .u8 a)).alloc _).ext ((Ext.refl _).drew)) numsA_full HA.out.1 HA.out.2 (by decide) 32 (Nat.le_refl _)) (rdl_blk ((Blk.new' (g := w.heap.size + 1) (w := w.alloc (.cells (numsA .u8 a) 40)) (by simp) 40 (numsA .u8 b)).ext ((Ext.refl _).drew)) numsA_full HB.out.1 HB.out.2 (by decide) 32 (Nat.le_refl _)) (by rw [HA.out.1, HB.out.1])).mono ?_; rintro e p1 ⟨rfl, hx⟩))
  go_wp2
  go_ret
  exact ⟨rfl, ((ext_alloc w _).alloc _).trans (by assumption)⟩

end Go.Proofs.Yteegnbdgfedajaa
/- Lists of keys: copied, counted, held against each other. No condition. -/
namespace Go.Proofs.Yteegnbdgfedajaa
open Go.RowKit
set_option linter.unusedVariables false
set_option linter.unusedSimpArgs false

theorem make_rowN {P : Program} (t e : TypeId) (sz bytes : Nat) (ht : P.underlying t = some (.slice e)) (hinfo : (P.info? e).map (fun i => (i.zero.isSome, i.size, i.bytes)) = some (true, sz, bytes)) (kl kc : IntKind) (n : Nat) (hbytes : bytes * n ≤ 281474976710656) (h63 : n ≤ 9223372036854775807) :
    ∃ Z : Array Value, Z.size = n * sz ∧ ∀ W : World, (Instr.makeSlice t (.int kl (n : Int)) (.int kc (n : Int))).run P W = .ok (.slice (some ⟨W.heap.size, 0, none⟩) n n) (W.alloc (.cells Z e)) := by
  obtain ⟨i, hi, hzz⟩ := Option.map_eq_some_iff.1 hinfo
  simp only [Prod.mk.injEq] at hzz
  obtain ⟨hz, hs, hb⟩ := hzz
  obtain ⟨z, hz⟩ := Option.isSome_iff_exists.1 hz
  refine ⟨madeCells z.cells (n * sz), size_madeCells _ _, fun W => ?_⟩
  have hb' : (i.bytes : Int) * (n : Int) ≤ 281474976710656 := by
    have h : ((i.bytes * n : Nat) : Int) ≤ 281474976710656 := by rw [hb]; omega
    rwa [Int.natCast_mul] at h
  have hr := run_make (P := P) W t e i z ht hi hz kl kc n n (by omega) (Int.le_refl _) hb' (by omega)
  simp only [Int.toNat_natCast, hs] at hr
  exact hr
theorem toKeyT_any (a : List Int) (ha : tKey.ok a) (w : World) :
    Calls Try.prog 107 #[.agg (tKey.enc a).toArray] w fun e w' => e = .returned (.agg (tKey.enc a).toArray) ∧ Ext w w' := toKey_any a ha w
set_option maxHeartbeats 1000000 in
set_option maxRecDepth 100000 in
theorem toKeyS_u (v : Value) (xs : List (List Int)) (w : World) (S : Nat → Prop) (h : RdL tKey w S v xs) (hln : xs.length ≤ 1048576) :
    Calls Try.prog 108 #[v] w fun e w' => ∃ v', e = .returned v' ∧ Own tKey 40 w' w.heap.size v' xs ∧ Ext w w' := by
  obtain ⟨A, cap, rfl, hcap, hlen, hrd, hok⟩ := h
  have Hrd := Lib.hid hrd
  have Hok := Lib.hid hok
  have HF := Lib.hid (flat_length tKey xs hok)
  clear hrd hok
  obtain ⟨Z, hms, hm⟩ := make_rowN 41 40 32 32 Try.underlying41 (by kernel_rfl) .i64 .i64 xs.length (by omega) (by omega)
  have HMS := Lib.hid hms
  clear hms
  go_enter Try.func108, Try.ntmps108
  go_wp2
  go_loopw [4] (fun i wr => ∃ k : Nat, k ≤ xs.length ∧ i = .int .i64 k ∧ Fill wr w.heap.size 40 ((xs.take k).flatMap (tKey).enc) ((xs.length - k) * 32) ∧ Ext w wr)
    (fun i _ => xs.length - (intOf i).toNat)
  case atStart => exact ⟨0, by omega, rfl, by rw [List.take_zero]; exact Fill.start' (Blk.new w _ _) (by rw [HMS.out, Nat.sub_zero]), ext_alloc _ _⟩
  case round =>
    obtain ⟨k, hk, rfl, hF, hx⟩ := hrel
    have HFl := Lib.hid hF
    have HX := Lib.hid hx
    clear hm hF hx
    by_cases hlt : k < xs.length
    · obtain ⟨g, o, rfl, hs, hc⟩ := Hrd.out.elem Hok.out k hlt
      have hx0 : (tKey).ok xs[k] := Hok.out _ (List.getElem_mem hlt)
      have HX0 := Lib.hid hx0
      have hd : ∀ j u, ((tKey).enc xs[k])[j]? = some u → wr.cell? ⟨g, o + k * 32 + j, none⟩ = some u := fun j u hu => HX.out.cell (hc j u hu)
      have HD := Lib.hid hd
      have HL := Lib.hid (flat_length tKey (xs.take k) (fun x hx => Hok.out x (List.mem_of_mem_take hx)))
      have HTK := Lib.hid (show (xs.take k).length = k by rw [List.length_take]; omega)
      have HSN := Lib.hid (show (xs.take (k + 1)).flatMap (tKey).enc = (xs.take k).flatMap (tKey).enc ++ (tKey).enc xs[k] by rw [List.take_succ_eq_append_getElem hlt, List.flatMap_append, List.flatMap_cons, List.flatMap_nil, List.append_nil])
      have HST := Lib.hid (show St 32 ((tKey).enc xs[k]).toArray from ⟨by rw [List.size_toArray]; exact (tKey).len _ hx0, by simpa using (tKey).one _⟩)
      have HMU := Lib.hid (show (xs.length - k) * 32 = 32 + (xs.length - (k + 1)) * 32 by omega)
      clear hc hd hx0
      have hi : (0 : Int) ≤ (k : Int) := by omega
      go_wp2_with (refine wpl_load ⟨g, o + k * 32, none⟩ ((tKey).enc xs[k]) (by rw [(tKey).len _ HX0.out]; exact aggB32) rfl _ rfl rfl (fun j u hu => by rw [Addr.add_lit]; exact HD.out j u hu) ?_)
      refine (toKeyT_any xs[k] HX0.out _).mono ?_
      rintro e w1 ⟨rfl, hx⟩
      have HF2 := Lib.hid (HFl.out.ext hx)
      have HX2 := Lib.hid (HX.out.trans hx)
      clear hx HX HFl HD
      go_wp2_with (refine wpl_fill (n := 32) (m := (xs.length - (k + 1)) * 32) (by rw [← HMU.out]; exact HF2.out) (by rw [HL.out, HTK.out]; rfl) aggKey HST.out rfl _ _ rfl rfl rfl rfl ?_; intro row hF; have HF3 := Lib.hid hF; clear hF)
      go_roundw
      case rel => exact ⟨k + 1, by omega, by go_num, by rw [HSN.out]; simpa using HF3.out, HX2.out.setRow (Nat.le_refl _) _⟩
      case measure => simp [intOf]; omega
    · obtain rfl : k = xs.length := by omega
      have hb := HFl.out
      rw [List.take_length, Nat.sub_self, Nat.zero_mul] at hb
      have HB := Lib.hid hb.done
      clear hb
      go_wp2
      go_ret
      exact ⟨_, rfl, Own.of_blk tKey HB.out (Nat.le_refl _) hlen Hok.out, HX.out⟩


/-- a load of an element that any world behind w0 answers alike -/
theorem yields_loadR {P : Program} {ops : Array Oper} {op : Oper} {a : Act} {w0 : World} {t : Nat} (g o : Nat) (cs : List Value) (ht : Agg P t cs.length) (hc : ∀ j u, cs[j]? = some u → w0.cell? ⟨g, o + j, none⟩ = some u) (hw : Region.wanted op (yielded ops a.tmps) = true) (x : Operand) (ho : op.op = .load t x) (hx : a.eval x = .pointer (some ⟨g, o, none⟩)) :
    YieldsIf P ops (fun W => Ext w0 W) op (.agg cs.toArray) a := Or.inl ⟨hw, fun W hW => by
  unfold execOp
  simp only [ho, hx, Instr.loadAt, Instr.sureAddr, Sem.run_bind, Sem.run_pure, Result.andThen_ok, run_loadVar_at (P := P) (w := W) ⟨g, o, none⟩ cs ht (fun j u hu => by rw [Addr.add_lit]; exact hW.cell (hc j u hu))]⟩
theorem eqKeyT_any (a : List Int) (ha : tKey.ok a) (w : World) :
    Calls Try.prog 59 #[.agg (tKey.enc a).toArray, .agg (tKey.enc a).toArray] w fun e w' => e = .returned (.bool true) ∧ Ext w w' := by
  refine (eqKey_any a a ha ha w).mono ?_
  rintro e w' ⟨rfl, hx⟩
  exact ⟨by rw [beq_self_eq_true], hx⟩
set_option maxHeartbeats 1000000 in
set_option maxRecDepth 100000 in
theorem eqKeyS_u (v u : Value) (xs : List (List Int)) (w : World) (S S' : Nat → Prop) (h : RdL tKey w S v xs) (h' : RdL tKey w S' u xs) :
    Calls Try.prog 38 #[v, u] w fun e w' => e = .returned (.bool true) ∧ Ext w w' := by
  obtain ⟨A, cap, rfl, hcap, hlen, hrd, hok⟩ := h
  obtain ⟨A', cap', rfl, hcap', hlen', hrd', hok'⟩ := h'
  have Hrd := Lib.hid hrd
  have Hrd' := Lib.hid hrd'
  have Hok := Lib.hid hok
  clear hrd hok hrd' hok'
  have hl1 : ((xs.length : Int) != (xs.length : Int)) = false := by simp
  go_enter Try.func38, Try.ntmps38
  go_wp2
  go_loopw [5] (fun i wr => ∃ k : Nat, k ≤ xs.length ∧ i = .int .i64 k ∧ Ext w wr) (fun i _ => xs.length - (intOf i).toNat)
  case atStart => exact ⟨0, by omega, rfl, Ext.refl _⟩
  case round =>
    obtain ⟨k, hk, rfl, hx⟩ := hrel
    have HX := Lib.hid hx
    clear hx hl1
    by_cases hlt : k < xs.length
    · obtain ⟨g, o, rfl, hs, hc⟩ := Hrd.out.elem Hok.out k hlt
      obtain ⟨g2, o2, rfl, hs2, hc2⟩ := Hrd'.out.elem Hok.out k hlt
      have HX0 := Lib.hid (show (tKey).ok xs[k] from Hok.out _ (List.getElem_mem hlt))
      have HD := Lib.hid (show ∀ j u, ((tKey).enc xs[k])[j]? = some u → wr.cell? ⟨g, o + k * 32 + j, none⟩ = some u from fun j u hu => HX.out.cell (hc j u hu))
      have HD2 := Lib.hid (show ∀ j u, ((tKey).enc xs[k])[j]? = some u → wr.cell? ⟨g2, o2 + k * 32 + j, none⟩ = some u from fun j u hu => HX.out.cell (hc2 j u hu))
      clear hc hc2
      have hi : (0 : Int) ≤ (k : Int) := by omega
      have hi2 : (k : Int) < (xs.length : Int) := by omega
      go_wp2_with fail
      refine wp_region_held_drew (S := fun W => Ext wr W) (by kernel_rfl) (Ext.refl _).drew (fun hHeld => ?_)
      refine wpAnyH_take (i := 0) (oi := ?oiq0) (v := ?vq0) ?hiq0 (by kernel_rfl) (by kernel_rfl) (by kernel_rfl) ?hQq0 ?hyq0 (by assumption) ?restq0
      case hiq0 => simp only [List.getElem?_toArray, List.getElem?_cons_zero, List.getElem?_cons_succ]; rfl
      case hQq0 => exact fun _ _ _ h => h
      case hyq0 => exact Or.inl ⟨by rfl, by intro w hSw; go_simp; with_reducible rfl⟩
      try simp only [Act.put, List.setIfInBounds_toArray, List.set_cons_zero, List.set_cons_succ]
      refine wpAnyH_take (i := 1) (oi := ?oiq1) (v := ?vq1) ?hiq1 (by kernel_rfl) (by kernel_rfl) (by kernel_rfl) ?hQq1 ?hyq1 (by assumption) ?restq1
      case hiq1 => simp only [List.getElem?_toArray, List.getElem?_cons_zero, List.getElem?_cons_succ]; rfl
      case hQq1 => exact fun _ _ _ h => h
      case hyq1 => exact Or.inl ⟨by rfl, by intro w hSw; go_simp; with_reducible rfl⟩
      try simp only [Act.put, List.setIfInBounds_toArray, List.set_cons_zero, List.set_cons_succ]
      refine wpAnyH_take (i := 2) (oi := ?oiq2) (v := ?vq2) ?hiq2 (by kernel_rfl) (by kernel_rfl) (by kernel_rfl) ?hQq2 ?hyq2 (by assumption) ?restq2
      case hiq2 => simp only [List.getElem?_toArray, List.getElem?_cons_zero, List.getElem?_cons_succ]; rfl
      case hQq2 => exact fun _ _ _ h => h
      case hyq2 => exact Or.inl ⟨by rfl, by intro w hSw; go_simp; with_reducible rfl⟩
      try simp only [Act.put, List.setIfInBounds_toArray, List.set_cons_zero, List.set_cons_succ]
      refine wpAnyH_take (i := 3) (oi := ?oiq3) (v := (.agg ((tKey).enc xs[k]).toArray)) ?hiq3 (by kernel_rfl) (by kernel_rfl) (by kernel_rfl) ?hQq3 ?hyq3 (by assumption) ?restq3
      case hiq3 => simp only [List.getElem?_toArray, List.getElem?_cons_zero, List.getElem?_cons_succ]; rfl
      case hQq3 => exact fun _ _ _ h => h
      case hyq3 => refine yields_loadR g (o + k * 32) ((tKey).enc xs[k]) (by rw [(tKey).len _ HX0.out]; exact aggKey) HD.out ?_ _ rfl rfl; rfl
      try simp only [Act.put, List.setIfInBounds_toArray, List.set_cons_zero, List.set_cons_succ]
      refine wpAnyH_take (i := 4) (oi := ?oiq4) (v := ?vq4) ?hiq4 (by kernel_rfl) (by kernel_rfl) (by kernel_rfl) ?hQq4 ?hyq4 (by assumption) ?restq4
      case hiq4 => simp only [List.getElem?_toArray, List.getElem?_cons_zero, List.getElem?_cons_succ]; rfl
      case hQq4 => exact fun _ _ _ h => h
      case hyq4 => exact Or.inl ⟨by rfl, by intro w hSw; go_simp; with_reducible rfl⟩
      try simp only [Act.put, List.setIfInBounds_toArray, List.set_cons_zero, List.set_cons_succ]
      refine wpAnyH_take (i := 5) (oi := ?oiq5) (v := ?vq5) ?hiq5 (by kernel_rfl) (by kernel_rfl) (by kernel_rfl) ?hQq5 ?hyq5 (by assumption) ?restq5
      case hiq5 => simp only [List.getElem?_toArray, List.getElem?_cons_zero, List.getElem?_cons_succ]; rfl
      case hQq5 => exact fun _ _ _ h => h
      case hyq5 => exact Or.inl ⟨by rfl, by intro w hSw; go_simp; with_reducible rfl⟩
      try simp only [Act.put, List.setIfInBounds_toArray, List.set_cons_zero, List.set_cons_succ]
      refine wpAnyH_take (i := 6) (oi := ?oiq6) (v := ?vq6) ?hiq6 (by kernel_rfl) (by kernel_rfl) (by kernel_rfl) ?hQq6 ?hyq6 (by assumption) ?restq6
      case hiq6 => simp only [List.getElem?_toArray, List.getElem?_cons_zero, List.getElem?_cons_succ]; rfl
      case hQq6 => exact fun _ _ _ h => h
      case hyq6 => exact Or.inl ⟨by rfl, by intro w hSw; go_simp; with_reducible rfl⟩
      try simp only [Act.put, List.setIfInBounds_toArray, List.set_cons_zero, List.set_cons_succ]
      refine wpAnyH_take (i := 7) (oi := ?oiq7) (v := (.agg ((tKey).enc xs[k]).toArray)) ?hiq7 (by kernel_rfl) (by kernel_rfl) (by kernel_rfl) ?hQq7 ?hyq7 (by assumption) ?restq7
      case hiq7 => simp only [List.getElem?_toArray, List.getElem?_cons_zero, List.getElem?_cons_succ]; rfl
      case hQq7 => exact fun _ _ _ h => h
      case hyq7 => refine yields_loadR g2 (o2 + k * 32) ((tKey).enc xs[k]) (by rw [(tKey).len _ HX0.out]; exact aggKey) HD2.out ?_ _ rfl rfl; rfl
      try simp only [Act.put, List.setIfInBounds_toArray, List.set_cons_zero, List.set_cons_succ]
      refine wpAnyH_ready (rs := [8]) (by kernel_rfl) (by simp) (AllReadyH.cons (o := ?o8) ?h8 (fun K hK => ?s8) AllReadyH.nil)
      case h8 => simp only [List.getElem?_toArray, List.getElem?_cons_zero, List.getElem?_cons_succ]; rfl
      go_simp
      refine (eqKeyT_any xs[k] HX0.out _).mono ?_
      rintro e w1 ⟨rfl, hx⟩
      have hH2 := hHeld.trans hx
      refine hK.out _ _ hH2 (fun _ => ?_)
      clear hHeld hK K
      have hHeld := hH2
      clear hH2 hx
      try simp only [Act.put, List.setIfInBounds_toArray, List.set_cons_zero, List.set_cons_succ]
      refine wpAnyH_take (i := 9) (oi := ?oiq9) (v := ?vq9) ?hiq9 (by kernel_rfl) (by kernel_rfl) (by kernel_rfl) ?hQq9 ?hyq9 (by assumption) ?restq9
      case hiq9 => simp only [List.getElem?_toArray, List.getElem?_cons_zero, List.getElem?_cons_succ]; rfl
      case hQq9 => exact fun _ _ _ h => h
      case hyq9 => exact Or.inl ⟨by rfl, by intro w hSw; go_simp; with_reducible rfl⟩
      try simp only [Act.put, List.setIfInBounds_toArray, List.set_cons_zero, List.set_cons_succ]
      refine wpAnyH_done (by kernel_rfl) ?_ _
      have HX2 := Lib.hid (HX.out.trans hHeld)
      clear hHeld
      go_wp2
      go_roundw
      case rel => exact ⟨k + 1, by omega, by go_num, HX2.out⟩
      case measure => simp [intOf]; omega
    · go_wp2
      go_ret
      exact ⟨rfl, HX.out⟩

set_option maxHeartbeats 1000000 in
set_option maxRecDepth 100000 in
theorem szKeyS_any (A : Option Addr) (n c : Nat) (l : Int) (hn : (n : Int) ≤ 140737488355328) (h0 : -1 ≤ l) (h1 : l ≤ 1048576) (w : World) :
    Calls Try.prog 105 #[.slice A n c, .int .i64 l] w fun e w' => e = .returned (.int .i64 (if l - n < 0 then -1 else l - n)) ∧ w = w' := by
  go_enter Try.func105, Try.ntmps105
  go_wp2
  all_goals go_ret
  all_goals exact ⟨rfl, rfl⟩

end Go.Proofs.Yteegnbdgfedajaa
/- Lists of entries: copied, counted, held against each other. No condition. -/
namespace Go.Proofs.Yteegnbdgfedajaa
open Go.RowKit
set_option linter.unusedVariables false
set_option linter.unusedSimpArgs false

abbrev En := ByteArray × ByteArray
def tEnt : Ty En := ⟨2, fun e => [.string e.1, .string e.2], fun e => e.1.size ≤ 140737488351232 ∧ e.2.size ≤ 140737488351232, fun _ _ => rfl, fun _ u hu => by simp at hu; rcases hu with rfl | rfl <;> rfl⟩
theorem toEntT_any (a : En) (ha : tEnt.ok a) (w : World) :
    Calls Try.prog 109 #[.agg (tEnt.enc a).toArray] w fun e w' => e = .returned (.agg (tEnt.enc a).toArray) ∧ Ext w w' := toEntry_any a.1 a.2 w
set_option maxHeartbeats 1000000 in
set_option maxRecDepth 100000 in
theorem toEntryS_u (v : Value) (xs : List En) (w : World) (S : Nat → Prop) (h : RdL tEnt w S v xs) (hln : xs.length ≤ 1048576) :
    Calls Try.prog 92 #[v] w fun e w' => ∃ v', e = .returned v' ∧ Own tEnt 124 w' w.heap.size v' xs ∧ Ext w w' := by
  obtain ⟨A, cap, rfl, hcap, hlen, hrd, hok⟩ := h
  have Hrd := Lib.hid hrd
  have Hok := Lib.hid hok
  have HF := Lib.hid (flat_length tEnt xs hok)
  clear hrd hok
  obtain ⟨Z, hms, hm⟩ := make_rowN 94 124 2 32 Try.underlying94 (by kernel_rfl) .i64 .i64 xs.length (by omega) (by omega)
  have HMS := Lib.hid hms
  clear hms
  go_enter Try.func92, Try.ntmps92
  go_wp2
  go_loopw [4] (fun i wr => ∃ k : Nat, k ≤ xs.length ∧ i = .int .i64 k ∧ Fill wr w.heap.size 124 ((xs.take k).flatMap (tEnt).enc) ((xs.length - k) * 2) ∧ Ext w wr)
    (fun i _ => xs.length - (intOf i).toNat)
  case atStart => exact ⟨0, by omega, rfl, by rw [List.take_zero]; exact Fill.start' (Blk.new w _ _) (by rw [HMS.out, Nat.sub_zero]), ext_alloc _ _⟩
  case round =>
    obtain ⟨k, hk, rfl, hF, hx⟩ := hrel
    have HFl := Lib.hid hF
    have HX := Lib.hid hx
    clear hm hF hx
    by_cases hlt : k < xs.length
    · obtain ⟨g, o, rfl, hs, hc⟩ := Hrd.out.elem Hok.out k hlt
      have hx0 : (tEnt).ok xs[k] := Hok.out _ (List.getElem_mem hlt)
      have HX0 := Lib.hid hx0
      have hd : ∀ j u, ((tEnt).enc xs[k])[j]? = some u → wr.cell? ⟨g, o + k * 2 + j, none⟩ = some u := fun j u hu => HX.out.cell (hc j u hu)
      have HD := Lib.hid hd
      have HL := Lib.hid (flat_length tEnt (xs.take k) (fun x hx => Hok.out x (List.mem_of_mem_take hx)))
      have HTK := Lib.hid (show (xs.take k).length = k by rw [List.length_take]; omega)
      have HSN := Lib.hid (show (xs.take (k + 1)).flatMap (tEnt).enc = (xs.take k).flatMap (tEnt).enc ++ (tEnt).enc xs[k] by rw [List.take_succ_eq_append_getElem hlt, List.flatMap_append, List.flatMap_cons, List.flatMap_nil, List.append_nil])
      have HST := Lib.hid (show St 2 ((tEnt).enc xs[k]).toArray from ⟨by rw [List.size_toArray]; exact (tEnt).len _ hx0, by simpa using (tEnt).one _⟩)
      have HMU := Lib.hid (show (xs.length - k) * 2 = 2 + (xs.length - (k + 1)) * 2 by omega)
      clear hc hd hx0
      have hi : (0 : Int) ≤ (k : Int) := by omega
      go_wp2_with (refine wpl_load ⟨g, o + k * 2, none⟩ ((tEnt).enc xs[k]) (by rw [(tEnt).len _ HX0.out]; exact aggEntryL) rfl _ rfl rfl (fun j u hu => by rw [Addr.add_lit]; exact HD.out j u hu) ?_)
      refine (toEntT_any xs[k] HX0.out _).mono ?_
      rintro e w1 ⟨rfl, hx⟩
      have HF2 := Lib.hid (HFl.out.ext hx)
      have HX2 := Lib.hid (HX.out.trans hx)
      clear hx HX HFl HD
      go_wp2_with (refine wpl_fill (n := 2) (m := (xs.length - (k + 1)) * 2) (by rw [← HMU.out]; exact HF2.out) (by rw [HL.out, HTK.out]; rfl) aggEntryI HST.out rfl _ _ rfl rfl rfl rfl ?_; intro row hF; have HF3 := Lib.hid hF; clear hF)
      go_roundw
      case rel => exact ⟨k + 1, by omega, by go_num, by rw [HSN.out]; simpa using HF3.out, HX2.out.setRow (Nat.le_refl _) _⟩
      case measure => simp [intOf]; omega
    · obtain rfl : k = xs.length := by omega
      have hb := HFl.out
      rw [List.take_length, Nat.sub_self, Nat.zero_mul] at hb
      have HB := Lib.hid hb.done
      clear hb
      go_wp2
      go_ret
      exact ⟨_, rfl, Own.of_blk tEnt HB.out (Nat.le_refl _) hlen Hok.out, HX.out⟩

set_option maxHeartbeats 1000000 in
set_option maxRecDepth 100000 in
theorem eqEntT_any (a : En) (ha : tEnt.ok a) (w : World) :
    Calls Try.prog 110 #[.agg (tEnt.enc a).toArray, .agg (tEnt.enc a).toArray] w fun e w' => e = .returned (.bool true) ∧ Ext w w' := by
  have q1 : (a.1.toList != a.1.toList) = false := by simp
  have q2 : (a.2.toList != a.2.toList) = false := by simp
  show Calls Try.prog 110 #[.agg #[.string a.1, .string a.2], .agg #[.string a.1, .string a.2]] w _
  go_enter Try.func110, Try.ntmps110
  go_wp2
  go_ret
  exact ⟨rfl, (ext_alloc _ _).alloc _⟩
set_option maxHeartbeats 1000000 in
set_option maxRecDepth 100000 in
theorem eqEntryS_u (v u : Value) (xs : List En) (w : World) (S S' : Nat → Prop) (h : RdL tEnt w S v xs) (h' : RdL tEnt w S' u xs) :
    Calls Try.prog 95 #[v, u] w fun e w' => e = .returned (.bool true) ∧ Ext w w' := by
  obtain ⟨A, cap, rfl, hcap, hlen, hrd, hok⟩ := h
  obtain ⟨A', cap', rfl, hcap', hlen', hrd', hok'⟩ := h'
  have Hrd := Lib.hid hrd
  have Hrd' := Lib.hid hrd'
  have Hok := Lib.hid hok
  clear hrd hok hrd' hok'
  have hl1 : ((xs.length : Int) != (xs.length : Int)) = false := by simp
  go_enter Try.func95, Try.ntmps95
  go_wp2
  go_loopw [5] (fun i wr => ∃ k : Nat, k ≤ xs.length ∧ i = .int .i64 k ∧ Ext w wr) (fun i _ => xs.length - (intOf i).toNat)
  case atStart => exact ⟨0, by omega, rfl, Ext.refl _⟩
  case round =>
    obtain ⟨k, hk, rfl, hx⟩ := hrel
    have HX := Lib.hid hx
    clear hx hl1
    by_cases hlt : k < xs.length
    · obtain ⟨g, o, rfl, hs, hc⟩ := Hrd.out.elem Hok.out k hlt
      obtain ⟨g2, o2, rfl, hs2, hc2⟩ := Hrd'.out.elem Hok.out k hlt
      have HX0 := Lib.hid (show (tEnt).ok xs[k] from Hok.out _ (List.getElem_mem hlt))
      have HD := Lib.hid (show ∀ j u, ((tEnt).enc xs[k])[j]? = some u → wr.cell? ⟨g, o + k * 2 + j, none⟩ = some u from fun j u hu => HX.out.cell (hc j u hu))
      have HD2 := Lib.hid (show ∀ j u, ((tEnt).enc xs[k])[j]? = some u → wr.cell? ⟨g2, o2 + k * 2 + j, none⟩ = some u from fun j u hu => HX.out.cell (hc2 j u hu))
      clear hc hc2
      have hi : (0 : Int) ≤ (k : Int) := by omega
      have hi2 : (k : Int) < (xs.length : Int) := by omega
      go_wp2_with fail
      refine wp_region_held_drew (S := fun W => Ext wr W) (by kernel_rfl) (Ext.refl _).drew (fun hHeld => ?_)
      refine wpAnyH_take (i := 0) (oi := ?oiq0) (v := ?vq0) ?hiq0 (by kernel_rfl) (by kernel_rfl) (by kernel_rfl) ?hQq0 ?hyq0 (by assumption) ?restq0
      case hiq0 => simp only [List.getElem?_toArray, List.getElem?_cons_zero, List.getElem?_cons_succ]; rfl
      case hQq0 => exact fun _ _ _ h => h
      case hyq0 => exact Or.inl ⟨by rfl, by intro w hSw; go_simp; with_reducible rfl⟩
      try simp only [Act.put, List.setIfInBounds_toArray, List.set_cons_zero, List.set_cons_succ]
      refine wpAnyH_take (i := 1) (oi := ?oiq1) (v := ?vq1) ?hiq1 (by kernel_rfl) (by kernel_rfl) (by kernel_rfl) ?hQq1 ?hyq1 (by assumption) ?restq1
      case hiq1 => simp only [List.getElem?_toArray, List.getElem?_cons_zero, List.getElem?_cons_succ]; rfl
      case hQq1 => exact fun _ _ _ h => h
      case hyq1 => exact Or.inl ⟨by rfl, by intro w hSw; go_simp; with_reducible rfl⟩
      try simp only [Act.put, List.setIfInBounds_toArray, List.set_cons_zero, List.set_cons_succ]
      refine wpAnyH_take (i := 2) (oi := ?oiq2) (v := ?vq2) ?hiq2 (by kernel_rfl) (by kernel_rfl) (by kernel_rfl) ?hQq2 ?hyq2 (by assumption) ?restq2
      case hiq2 => simp only [List.getElem?_toArray, List.getElem?_cons_zero, List.getElem?_cons_succ]; rfl
      case hQq2 => exact fun _ _ _ h => h
      case hyq2 => exact Or.inl ⟨by rfl, by intro w hSw; go_simp; with_reducible rfl⟩
      try simp only [Act.put, List.setIfInBounds_toArray, List.set_cons_zero, List.set_cons_succ]
      refine wpAnyH_take (i := 3) (oi := ?oiq3) (v := (.agg ((tEnt).enc xs[k]).toArray)) ?hiq3 (by kernel_rfl) (by kernel_rfl) (by kernel_rfl) ?hQq3 ?hyq3 (by assumption) ?restq3
      case hiq3 => simp only [List.getElem?_toArray, List.getElem?_cons_zero, List.getElem?_cons_succ]; rfl
      case hQq3 => exact fun _ _ _ h => h
      case hyq3 => refine yields_loadR g (o + k * 2) ((tEnt).enc xs[k]) (by rw [(tEnt).len _ HX0.out]; exact aggEntryI) HD.out ?_ _ rfl rfl; rfl
      try simp only [Act.put, List.setIfInBounds_toArray, List.set_cons_zero, List.set_cons_succ]
      refine wpAnyH_take (i := 4) (oi := ?oiq4) (v := ?vq4) ?hiq4 (by kernel_rfl) (by kernel_rfl) (by kernel_rfl) ?hQq4 ?hyq4 (by assumption) ?restq4
      case hiq4 => simp only [List.getElem?_toArray, List.getElem?_cons_zero, List.getElem?_cons_succ]; rfl
      case hQq4 => exact fun _ _ _ h => h
      case hyq4 => exact Or.inl ⟨by rfl, by intro w hSw; go_simp; with_reducible rfl⟩
      try simp only [Act.put, List.setIfInBounds_toArray, List.set_cons_zero, List.set_cons_succ]
      refine wpAnyH_take (i := 5) (oi := ?oiq5) (v := ?vq5) ?hiq5 (by kernel_rfl) (by kernel_rfl) (by kernel_rfl) ?hQq5 ?hyq5 (by assumption) ?restq5
      case hiq5 => simp only [List.getElem?_toArray, List.getElem?_cons_zero, List.getElem?_cons_succ]; rfl
      case hQq5 => exact fun _ _ _ h => h
      case hyq5 => exact Or.inl ⟨by rfl, by intro w hSw; go_simp; with_reducible rfl⟩
      try simp only [Act.put, List.setIfInBounds_toArray, List.set_cons_zero, List.set_cons_succ]
      refine wpAnyH_take (i := 6) (oi := ?oiq6) (v := ?vq6) ?hiq6 (by kernel_rfl) (by kernel_rfl) (by kernel_rfl) ?hQq6 ?hyq6 (by assumption) ?restq6
      case hiq6 => simp only [List.getElem?_toArray, List.getElem?_cons_zero, List.getElem?_cons_succ]; rfl
      case hQq6 => exact fun _ _ _ h => h
      case hyq6 => exact Or.inl ⟨by rfl, by intro w hSw; go_simp; with_reducible rfl⟩
      try simp only [Act.put, List.setIfInBounds_toArray, List.set_cons_zero, List.set_cons_succ]
      refine wpAnyH_take (i := 7) (oi := ?oiq7) (v := (.agg ((tEnt).enc xs[k]).toArray)) ?hiq7 (by kernel_rfl) (by kernel_rfl) (by kernel_rfl) ?hQq7 ?hyq7 (by assumption) ?restq7
      case hiq7 => simp only [List.getElem?_toArray, List.getElem?_cons_zero, List.getElem?_cons_succ]; rfl
      case hQq7 => exact fun _ _ _ h => h
      case hyq7 => refine yields_loadR g2 (o2 + k * 2) ((tEnt).enc xs[k]) (by rw [(tEnt).len _ HX0.out]; exact aggEntryI) HD2.out ?_ _ rfl rfl; rfl
      try simp only [Act.put, List.setIfInBounds_toArray, List.set_cons_zero, List.set_cons_succ]
      refine wpAnyH_ready (rs := [8]) (by kernel_rfl) (by simp) (AllReadyH.cons (o := ?o8) ?h8 (fun K hK => ?s8) AllReadyH.nil)
      case h8 => simp only [List.getElem?_toArray, List.getElem?_cons_zero, List.getElem?_cons_succ]; rfl
      go_simp
      refine (eqEntT_any xs[k] HX0.out _).mono ?_
      rintro e w1 ⟨rfl, hx⟩
      have hH2 := hHeld.trans hx
      refine hK.out _ _ hH2 (fun _ => ?_)
      clear hHeld hK K
      have hHeld := hH2
      clear hH2 hx
      try simp only [Act.put, List.setIfInBounds_toArray, List.set_cons_zero, List.set_cons_succ]
      refine wpAnyH_take (i := 9) (oi := ?oiq9) (v := ?vq9) ?hiq9 (by kernel_rfl) (by kernel_rfl) (by kernel_rfl) ?hQq9 ?hyq9 (by assumption) ?restq9
      case hiq9 => simp only [List.getElem?_toArray, List.getElem?_cons_zero, List.getElem?_cons_succ]; rfl
      case hQq9 => exact fun _ _ _ h => h
      case hyq9 => exact Or.inl ⟨by rfl, by intro w hSw; go_simp; with_reducible rfl⟩
      try simp only [Act.put, List.setIfInBounds_toArray, List.set_cons_zero, List.set_cons_succ]
      refine wpAnyH_done (by kernel_rfl) ?_ _
      have HX2 := Lib.hid (HX.out.trans hHeld)
      clear hHeld
      go_wp2
      go_roundw
      case rel => exact ⟨k + 1, by omega, by go_num, HX2.out⟩
      case measure => simp [intOf]; omega
    · go_wp2
      go_ret
      exact ⟨rfl, HX.out⟩

/-- how much the entries take -/
@[irreducible] def entsN (l : List En) : Nat := l.length + (l.map fun e => e.1.size + e.2.size).sum
theorem entsN_eq (l : List En) : entsN l = l.length + (l.map fun e => e.1.size + e.2.size).sum := by rw [entsN]
def sumN (l : List En) (k : Nat) : Nat := ((l.take k).map fun e => e.1.size + e.2.size).sum
theorem sumN_zero (l : List En) : sumN l 0 = 0 := by simp [sumN]
theorem sumN_succ (l : List En) (k : Nat) (h : k < l.length) : sumN l (k + 1) = sumN l k + (l[k].1.size + l[k].2.size) := by
  unfold sumN
  rw [List.take_succ_eq_append_getElem h, List.map_append, List.sum_append]; simp
theorem sumN_le (l : List En) (k : Nat) : sumN l k ≤ (l.map fun e => e.1.size + e.2.size).sum := by
  unfold sumN
  conv => rhs; rw [← List.take_append_drop k l, List.map_append, List.sum_append]
  omega
set_option maxHeartbeats 1000000 in
set_option maxRecDepth 100000 in
theorem szEntryS_u (v : Value) (xs : List En) (l : Int) (w : World) (S : Nat → Prop) (h : RdL tEnt w S v xs) (h0 : -1 ≤ l) (h1 : l ≤ 1048576) :
    Calls Try.prog 89 #[v, .int .i64 l] w fun e w' => e = .returned (.int .i64 (if l - (entsN xs : Nat) < 0 then -1 else l - (entsN xs : Nat))) ∧ Ext w w' := by
  rw [entsN_eq]
  obtain ⟨A, cap, rfl, hcap, hlen, hrd, hok⟩ := h
  have Hrd := Lib.hid hrd
  have Hok := Lib.hid hok
  obtain ⟨T, hT⟩ : ∃ T, (xs.map fun e => e.1.size + e.2.size).sum = T := ⟨_, rfl⟩
  have hle := fun k => sumN_le xs k
  rw [hT] at hle ⊢
  have HT := Lib.hid hT
  have HLE := Lib.hid hle
  clear hrd hok hT hle
  by_cases h2 : l - (xs.length : Int) < 0
  · rw [if_pos (by omega)]
    go_enter Try.func89, Try.ntmps89
    go_wp2
    go_ret
    exact ⟨rfl, Ext.refl _⟩
  · obtain ⟨z, hz⟩ : ∃ z : Int, (if l - ((xs.length + T : Nat) : Int) < 0 then -1 else l - ((xs.length + T : Nat) : Int)) = z := ⟨_, rfl⟩
    rw [hz]
    have HZ := Lib.hid hz
    clear hz
    go_enter Try.func89, Try.ntmps89
    go_wp2
    go_loopw [1, 5] (fun q i wr => ∃ k : Nat, k ≤ xs.length ∧ i = .int .i64 k ∧ q = .int .i64 (l - xs.length - (sumN xs k : Nat)) ∧ 0 ≤ l - (xs.length : Int) - (sumN xs k : Nat) ∧ Ext w wr) (fun _ i _ => xs.length - (intOf i).toNat)
    case atStart => exact ⟨0, by omega, rfl, by rw [sumN_zero]; simp, by rw [sumN_zero]; omega, Ext.refl _⟩
    case round =>
      obtain ⟨k, hk, rfl, rfl, hs, hx⟩ := hrel
      have HX := Lib.hid hx
      clear hx
      by_cases hlt : k < xs.length
      · obtain ⟨g, o, rfl, hs0, hc⟩ := Hrd.out.elem Hok.out k hlt
        have HX0 := Lib.hid (show tEnt.ok xs[k] from Hok.out _ (List.getElem_mem hlt))
        have HD0 := Lib.hid (show ∀ j u, (tEnt.enc xs[k])[j]? = some u → wr.cell? ⟨g, o + k * 2 + j, none⟩ = some u from fun j u hu => HX.out.cell (hc j u hu))
        have HSS := Lib.hid (sumN_succ xs k hlt)
        have hq := HLE.out (k + 1)
        rw [HSS.out] at hq
        clear hc
        have hi : (0 : Int) ≤ (k : Int) := by omega
        have hi2 : (k : Int) < (xs.length : Int) := by omega
        have hcz := fun W => szEntry_any xs[k].1 xs[k].2 HX0.out.1 HX0.out.2 (l - xs.length - (sumN xs k : Nat)) (by omega) (by omega) W
        by_cases h3 : l - (xs.length : Int) - (sumN xs k : Nat) - xs[k].1.size - xs[k].2.size < 0
        · simp only [if_pos h3] at hcz
          have HP := Lib.hid (show l - ((xs.length + T : Nat) : Int) < 0 by omega)
          go_wp2_with (refine wpl_load ⟨g, o + k * 2, none⟩ (tEnt.enc xs[k]) aggEntryL rfl _ rfl rfl (fun j u hu => by rw [Addr.add_lit]; exact HD0.out j u hu) ?_)
          refine (hcz _).mono ?_
          rintro e w1 ⟨rfl, hx⟩
          have HX2 := Lib.hid (HX.out.trans hx)
          clear hx
          go_wp2
          go_ret
          exact ⟨by rw [← HZ.out, if_pos HP.out]; rfl, HX2.out⟩
        · simp only [if_neg h3] at hcz
          go_wp2_with (refine wpl_load ⟨g, o + k * 2, none⟩ (tEnt.enc xs[k]) aggEntryL rfl _ rfl rfl (fun j u hu => by rw [Addr.add_lit]; exact HD0.out j u hu) ?_)
          refine (hcz _).mono ?_
          rintro e w1 ⟨rfl, hx⟩
          have HX2 := Lib.hid (HX.out.trans hx)
          clear hx hcz
          go_wp2
          go_roundw
          case rel => exact ⟨k + 1, by omega, by go_num, by rw [HSS.out]; go_num, by rw [HSS.out]; omega, HX2.out⟩
          case measure => simp [intOf]; omega
      · obtain rfl : k = xs.length := by omega
        have e : sumN xs xs.length = T := by rw [sumN, List.take_length]; exact HT.out
        have HE := Lib.hid e
        rw [e] at hs
        clear e
        have HP := Lib.hid (show ¬ l - ((xs.length + T : Nat) : Int) < 0 by omega)
        go_wp2
        go_ret
        exact ⟨by rw [← HZ.out, if_neg (Int.not_lt.2 HP.out), HE.out]; exact ret_int (by omega), HX.out⟩

end Go.Proofs.Yteegnbdgfedajaa
/- Texts in order; their comparison. No condition. -/
namespace Go.Proofs.Yteegnbdgfedajaa
open Go.RowKit
set_option linter.unusedVariables false
set_option linter.unusedSimpArgs false

theorem less_irrefl (a : List UInt8) : Op.bytesLess a a = false := by
  induction a with
  | nil => rfl
  | cons x r ih => simp [Op.bytesLess, ih]
theorem less_trans : ∀ (a b c : List UInt8), Op.bytesLess a b = true → Op.bytesLess b c = true → Op.bytesLess a c = true
  | [], [], _, h, _ => by simp [Op.bytesLess] at h
  | _ :: _, [], _, h, _ => by simp [Op.bytesLess] at h
  | _, _ :: _, [], _, h => by simp [Op.bytesLess] at h
  | [], _ :: _, _ :: _, _, _ => by simp [Op.bytesLess]
  | x :: a, y :: b, z :: c, h, k => by
    simp only [Op.bytesLess, Bool.or_eq_true, decide_eq_true_eq, Bool.and_eq_true, beq_iff_eq] at h k ⊢
    rcases h with h | ⟨rfl, h⟩
    · rcases k with k | ⟨rfl, k⟩
      · exact .inl (UInt8.lt_trans h k)
      · exact .inl h
    · rcases k with k | ⟨rfl, k⟩
      · exact .inl k
      · exact .inr ⟨rfl, less_trans a b c h k⟩
theorem less_total : ∀ (a b : List UInt8), Op.bytesLess a b = false → Op.bytesLess b a = false → a = b
  | [], [], _, _ => rfl
  | _ :: _, [], _, h => by simp [Op.bytesLess] at h
  | [], _ :: _, h, _ => by simp [Op.bytesLess] at h
  | x :: a, y :: b, h, k => by
    simp only [Op.bytesLess, Bool.or_eq_false_iff, decide_eq_false_iff_not, Bool.and_eq_false_iff, beq_eq_false_iff_ne] at h k
    have e : x = y := by
      have h1 := h.1
      have k1 := k.1
      exact UInt8.le_antisymm (UInt8.not_lt.1 k1) (UInt8.not_lt.1 h1)
    subst e
    rw [less_total a b (h.2.resolve_left (fun q => q rfl)) (k.2.resolve_left (fun q => q rfl))]
/-- a comes ahead of b -/
@[irreducible] def ltB (a b : ByteArray) : Bool := Op.bytesLess a.toList b.toList
theorem ltB_eq (a b : ByteArray) : Op.bytesLess a.toList b.toList = ltB a b := by rw [ltB]
theorem toList_inj {a b : ByteArray} (h : a.toList = b.toList) : a = b := by
  rw [ByteArray.toList_eq, ByteArray.toList_eq] at h
  exact ByteArray.ext (Array.toList_inj.1 h)
theorem ltB_irrefl (a : ByteArray) : ltB a a = false := by rw [ltB]; exact less_irrefl _
theorem ltB_trans {a b c : ByteArray} (h : ltB a b = true) (k : ltB b c = true) : ltB a c = true := by rw [ltB] at h k ⊢; exact less_trans _ _ _ h k
theorem ltB_total {a b : ByteArray} (h : ltB a b = false) (k : ltB b a = false) : a = b := by rw [ltB] at h k; exact toList_inj (less_total _ _ h k)
theorem ltB_asymm {a b : ByteArray} (h : ltB a b = true) : ltB b a = false := by
  cases k : ltB b a with
  | false => rfl
  | true => have := ltB_trans h k; rw [ltB_irrefl] at this; cases this
theorem ltB_ne {a b : ByteArray} (h : ltB a b = true) : a ≠ b := fun e => by subst e; rw [ltB_irrefl] at h; cases h
/-- the comparison of two texts -/
@[irreducible] def cmpS (a b : ByteArray) : Int := if ltB a b then -1 else if ltB b a then 1 else 0
theorem cmpS_eq (a b : ByteArray) : cmpS a b = if ltB a b then -1 else if ltB b a then 1 else 0 := by rw [cmpS]
theorem cmpS_lt (a b : ByteArray) : cmpS a b < 0 ↔ ltB a b = true := by
  rw [cmpS]
  split
  · simp [*]
  · split <;> simp [*]
theorem cmpS_zero (a b : ByteArray) : cmpS a b = 0 ↔ a = b := by
  rw [cmpS]
  constructor
  · intro h
    split at h
    · cases h
    · rename_i h1
      split at h
      · cases h
      · rename_i h2
        exact ltB_total (by simpa using h1) (by simpa using h2)
  · rintro rfl
    simp [ltB_irrefl]
end Go.Proofs.Yteegnbdgfedajaa
/- Which lists of entries are maps: the reference and the program. No condition. -/
namespace Go.Proofs.Yteegnbdgfedajaa
open Go.RowKit
set_option linter.unusedVariables false
set_option linter.unusedSimpArgs false

def gE (L : List En) (i : Nat) : En := L.getD i (⟨#[]⟩, ⟨#[]⟩)
theorem gE_lt {L : List En} {i : Nat} (h : i < L.length) : gE L i = L[i] := by simp [gE, List.getD_eq_getElem?_getD, h]
def incC (L : List En) (i : Nat) : Bool := entB (gE L i).1 (gE L i).2 && (i == 0 || ltB (gE L (i - 1)).1 (gE L i).1)
/-- the first n are valid and in order -/
@[irreducible] def incs (L : List En) (n : Nat) : Bool := (List.range n).all (incC L)
theorem incs_zero (L : List En) : incs L 0 = true := by rw [incs]; rfl
theorem incs_succ (L : List En) (n : Nat) : incs L (n + 1) = (incs L n && incC L n) := by rw [incs, incs, List.range_succ, List.all_append]; simp
theorem incs_bad (L : List En) (k n : Nat) (h : k < n) (hb : incC L k = false) : incs L n = false := by
  rw [incs, List.all_eq_false]
  exact ⟨k, List.mem_range.2 h, by simp [hb]⟩
/-- a map -/
@[irreducible] def okE (L : List En) : Bool := incs L L.length && decide (L.length ≤ 64)
theorem okE_eq (L : List En) : okE L = (incs L L.length && decide (L.length ≤ 64)) := by rw [okE]
end Go.Proofs.Yteegnbdgfedajaa
/- The tree of a map, plainly. No condition. -/
namespace Go.Proofs.Yteegnbdgfedajaa
open Go.RowKit
set_option linter.unusedVariables false
set_option linter.unusedSimpArgs false

inductive Tr where
  | leaf : Tr
  | node : Nd → Tr → Tr → Tr
def Tr.key : Tr → List Int
  | .leaf => emptyL
  | .node x _ _ => hashL 5 (nodeL x)
def Tr.all : Tr → List Nd
  | .leaf => []
  | .node x l r => x :: (l.all ++ r.all)
def Tr.ok : Tr → Prop
  | .leaf => True
  | .node x l r => x.ok ∧ entB x.n x.v = true ∧ x.l = l.key ∧ x.r = r.key ∧ l.ok ∧ r.ok
theorem Tr.key_ok (T : Tr) : K32 T.key := by
  cases T with
  | leaf => exact emptyL_ok
  | node x l r => exact hashL_ok _ _
theorem Tr.all_ok (T : Tr) (h : T.ok) : ∀ x ∈ T.all, x.ok ∧ entB x.n x.v = true := by
  induction T with
  | leaf => intro x hx; simp [Tr.all] at hx
  | node y l r il ir =>
    obtain ⟨h1, h2, _, _, h5, h6⟩ := h
    intro x hx
    simp only [Tr.all, List.mem_cons, List.mem_append] at hx
    rcases hx with rfl | hx | hx
    · exact ⟨h1, h2⟩
    · exact il h5 x hx
    · exact ir h6 x hx
/-- the place of the greatest of the first k priorities -/
def gK (ps : List (List Int)) (k : Nat) : List Int := ps.getD k []
theorem gK_lt {ps : List (List Int)} {k : Nat} (h : k < ps.length) : gK ps k = ps[k] := by simp [gK, List.getD_eq_getElem?_getD, h]
def topS (ps : List (List Int)) (k t : Nat) : Nat := if 0 < cmpL (gK ps k) (gK ps t) then k else t
def topI (ps : List (List Int)) : Nat → Nat
  | 0 => 0
  | k + 1 => topS ps k (topI ps k)
theorem topI_zero (ps : List (List Int)) : topI ps 0 = 0 := rfl
theorem topI_succ (ps : List (List Int)) (k : Nat) : topI ps (k + 1) = if 0 < cmpL (gK ps k) (gK ps (topI ps k)) then k else topI ps k := rfl
attribute [irreducible] topI
theorem topI_one (ps : List (List Int)) : topI ps 1 = 0 := by rw [topI_succ, topI_zero, cmpL_self]; simp
theorem topI_lt (ps : List (List Int)) (k : Nat) (h : 0 < k) : topI ps k < k := by
  induction k with
  | zero => omega
  | succ k ih =>
    rw [topI_succ]
    split
    · omega
    · rcases Nat.eq_zero_or_pos k with rfl | hk
      · rw [topI_zero]; omega
      · have := ih hk; omega
def prios (L : List En) : List (List Int) := L.map fun e => prioL e.1
theorem prios_length (L : List En) : (prios L).length = L.length := by simp [prios]
theorem prios_at (L : List En) (k : Nat) (h : k < L.length) : gK (prios L) k = prioL L[k].1 := by rw [gK_lt (by rw [prios_length]; exact h)]; simp [prios]
theorem prios_ok (L : List En) : ∀ p ∈ prios L, K32 p := by
  intro p hp
  simp only [prios, List.mem_map] at hp
  obtain ⟨e, _, rfl⟩ := hp
  exact prioL_ok _
theorem prios_take (L : List En) (k : Nat) : prios (L.take k) = (prios L).take k := by simp [prios]
theorem prios_drop (L : List En) (k : Nat) : prios (L.drop k) = (prios L).drop k := by simp [prios]
def topE (L : List En) : Nat := topI (prios L) L.length
theorem topE_lt {L : List En} (h : 0 < L.length) : topE L < L.length := topI_lt _ _ h
/-- the tree -/
def trS (L : List En) (l r : Tr) : Tr := if L.length = 0 then .leaf else .node ⟨l.key, r.key, (gE L (topE L)).1, (gE L (topE L)).2⟩ l r
def trF : Nat → List En → Tr
  | 0, _ => .leaf
  | f + 1, L => trS L (trF f (L.take (topE L))) (trF f (L.drop (topE L + 1)))
theorem trF_zero (L : List En) : trF 0 L = .leaf := rfl
theorem trF_succ (f : Nat) (L : List En) : trF (f + 1) L = trS L (trF f (L.take (topE L))) (trF f (L.drop (topE L + 1))) := rfl
attribute [irreducible] trF
theorem trF_nil (f : Nat) (L : List En) (h : L.length = 0) : trF f L = .leaf := by
  cases f with
  | zero => rw [trF_zero]
  | succ f => rw [trF_succ, trS, if_pos h]
theorem trF_cons (f : Nat) (L : List En) (h : ¬ L.length = 0) : trF (f + 1) L = .node ⟨(trF f (L.take (topE L))).key, (trF f (L.drop (topE L + 1))).key, (gE L (topE L)).1, (gE L (topE L)).2⟩ (trF f (L.take (topE L))) (trF f (L.drop (topE L + 1))) := by rw [trF_succ, trS, if_neg h]
/-- entries that a map may hold -/
def good (L : List En) : Prop := ∀ e ∈ L, tEnt.ok e ∧ entB e.1 e.2 = true
theorem good_of {L : List En} (h : okE L = true) (hok : ∀ e ∈ L, tEnt.ok e) : good L := by
  intro e he
  refine ⟨hok e he, ?_⟩
  rw [okE_eq, Bool.and_eq_true, incs, List.all_eq_true] at h
  obtain ⟨i, hi, rfl⟩ := List.getElem_of_mem he
  have := h.1 i (List.mem_range.2 hi)
  simp only [incC, Bool.and_eq_true] at this
  rw [gE_lt hi] at this
  exact this.1
theorem good.take {L : List En} (h : good L) (k : Nat) : good (L.take k) := fun e he => h e (List.mem_of_mem_take he)
theorem good.drop {L : List En} (h : good L) (k : Nat) : good (L.drop k) := fun e he => h e (List.mem_of_mem_drop he)
theorem good.at_ {L : List En} (h : good L) {k : Nat} (hk : k < L.length) : tEnt.ok (gE L k) ∧ entB (gE L k).1 (gE L k).2 = true := by rw [gE_lt hk]; exact h _ (List.getElem_mem hk)
theorem trF_ok (f : Nat) (L : List En) (h : good L) : (trF f L).ok := by
  induction f generalizing L with
  | zero => rw [trF_zero]; trivial
  | succ f ih =>
    by_cases h0 : L.length = 0
    · rw [trF_nil _ _ h0]; trivial
    · rw [trF_cons _ _ h0]
      have hg := h.at_ (topE_lt (L := L) (by omega))
      exact ⟨⟨Tr.key_ok _, Tr.key_ok _, hg.1.1, hg.1.2⟩, hg.2, rfl, rfl, ih _ (h.take _), ih _ (h.drop _)⟩
theorem trF_len (f : Nat) (L : List En) : (trF f L).all.length ≤ L.length := by
  induction f generalizing L with
  | zero => rw [trF_zero]; simp [Tr.all]
  | succ f ih =>
    by_cases h0 : L.length = 0
    · rw [trF_nil _ _ h0]; simp [Tr.all]
    · rw [trF_cons _ _ h0]
      have h1 := ih (L.take (topE L))
      have h2 := ih (L.drop (topE L + 1))
      have h3 := topE_lt (L := L) (by omega)
      simp only [Tr.all, List.length_cons, List.length_append]
      rw [List.length_take] at h1
      rw [List.length_drop] at h2
      omega
def tNd : Ty Nd := ⟨66, Nd.enc, Nd.ok, fun _ h => Nd.enc_length h, fun x => Nd.enc_one x⟩
theorem Rd.cutL {α : Type} {T : Ty α} {w : World} {S : Nat → Prop} {A : Option Addr} {xs : List α} (h : Rd w S T.sz A xs.length (xs.flatMap T.enc)) (hok : ∀ x ∈ xs, T.ok x) {k cap : Nat} (hk : k ≤ xs.length) (hc : xs.length ≤ cap) :
    Rd w S T.sz (if cap = k then A else A.map (·.add (k * T.sz))) (xs.drop k).length ((xs.drop k).flatMap T.enc) := by
  have h1 := h.cut hk hc
  have e : (xs.flatMap T.enc).drop (k * T.sz) = (xs.drop k).flatMap T.enc := by
    conv => lhs; rw [← List.take_append_drop k xs, List.flatMap_append]
    rw [List.drop_append_of_le_length (by rw [flat_length T _ (fun x hx => hok x (List.mem_of_mem_take hx)), List.length_take, Nat.min_eq_left hk]; exact Nat.le_refl _), List.drop_eq_nil_of_le (by rw [flat_length T _ (fun x hx => hok x (List.mem_of_mem_take hx)), List.length_take, Nat.min_eq_left hk]; exact Nat.le_refl _), List.nil_append]
  rw [e, ← List.length_drop] at h1
  exact h1
theorem Rd.headL {α : Type} {T : Ty α} {w : World} {S : Nat → Prop} {A : Option Addr} {xs : List α} (h : Rd w S T.sz A xs.length (xs.flatMap T.enc)) (hok : ∀ x ∈ xs, T.ok x) {k : Nat} (hk : k ≤ xs.length) :
    Rd w S T.sz A (xs.take k).length ((xs.take k).flatMap T.enc) := by
  have h1 := h.head hk
  have e : (xs.flatMap T.enc).take (k * T.sz) = (xs.take k).flatMap T.enc := by
    conv => lhs; rw [← List.take_append_drop k xs, List.flatMap_append]
    rw [List.take_append_of_le_length (by rw [flat_length T _ (fun x hx => hok x (List.mem_of_mem_take hx)), List.length_take, Nat.min_eq_left hk]; exact Nat.le_refl _), List.take_of_length_le (by rw [flat_length T _ (fun x hx => hok x (List.mem_of_mem_take hx)), List.length_take, Nat.min_eq_left hk]; exact Nat.le_refl _)]
  have hl : (xs.take k).length = k := by rw [List.length_take]; omega
  rw [e] at h1
  rw [hl]
  exact h1
/-- the first k of a list that is read -/
theorem RdL.head {α : Type} {T : Ty α} {w : World} {S : Nat → Prop} {A : Option Addr} {xs : List α} {cap : Nat} (h : RdL T w S (.slice A xs.length cap) xs) {k : Nat} (hk : k ≤ xs.length) : RdL T w S (.slice A k cap) (xs.take k) := by
  obtain ⟨A', cap', e, h1, h2, h3, h4⟩ := h
  injection e with e1 _ e3
  subst e1 e3
  have hl : (xs.take k).length = k := by rw [List.length_take]; omega
  exact ⟨A, cap, by rw [hl], by omega, by omega, h3.headL h4 hk, fun x hx => h4 x (List.mem_of_mem_take hx)⟩
theorem RdL.cut {α : Type} {T : Ty α} {w : World} {S : Nat → Prop} {A : Option Addr} {xs : List α} {cap : Nat} (h : RdL T w S (.slice A xs.length cap) xs) {k : Nat} (hk : k ≤ xs.length) :
    RdL T w S (.slice (if cap = k then A else A.map (·.add (k * T.sz))) (xs.length - k) (cap - k)) (xs.drop k) := by
  obtain ⟨A', cap', e, h1, h2, h3, h4⟩ := h
  injection e with e1 _ e3
  subst e1 e3
  exact ⟨_, cap - k, by rw [List.length_drop], by rw [List.length_drop]; omega, by rw [List.length_drop]; omega, h3.cutL h4 hk h1, fun x hx => h4 x (List.mem_of_mem_drop hx)⟩
end Go.Proofs.Yteegnbdgfedajaa
/- A name's place in a map: the reference and the program. No condition. -/
namespace Go.Proofs.Yteegnbdgfedajaa
open Go.RowKit
set_option linter.unusedVariables false
set_option linter.unusedSimpArgs false

theorem incs_get {L : List En} {n : Nat} (h : incs L n = true) (k : Nat) (hk : k < n) : incC L k = true := by
  rw [incs, List.all_eq_true] at h
  exact h k (List.mem_range.2 hk)
theorem incs_lt {L : List En} {n : Nat} (h : incs L n = true) (p q : Nat) (hpq : p < q) (hq : q < n) : ltB (gE L p).1 (gE L q).1 = true := by
  induction q with
  | zero => omega
  | succ q ih =>
    have h1 := incs_get h (q + 1) hq
    rw [incC] at h1
    simp only [Bool.and_eq_true, Bool.or_eq_true, Nat.add_sub_cancel] at h1
    have h2 : ltB (gE L q).1 (gE L (q + 1)).1 = true := by
      rcases h1.2 with h | h
      · simp at h
      · exact h
    by_cases e : p = q
    · subst e; exact h2
    · exact ltB_trans (ih (by omega) (by omega)) h2
/-- how many names come ahead -/
@[irreducible] def posE (L : List En) (s : ByteArray) : Nat := (L.takeWhile fun e => ltB e.1 s).length
theorem posE_eq (L : List En) (s : ByteArray) (i : Nat) (hi : i ≤ L.length) (h1 : ∀ p, p < i → ltB (gE L p).1 s = true) (h2 : i < L.length → ltB (gE L i).1 s = false) : posE L s = i := by
  rw [posE]
  induction L generalizing i with
  | nil => simp at hi; simp [hi]
  | cons e r ih =>
    cases i with
    | zero =>
      have := h2 (by simp)
      simp only [gE, List.getD_cons_zero] at this
      simp [List.takeWhile_cons, this]
    | succ i =>
      have h0 := h1 0 (by omega)
      simp only [gE, List.getD_cons_zero] at h0
      rw [List.takeWhile_cons, if_pos h0, List.length_cons, ih i (by simpa using hi) (fun p hp => by have := h1 (p + 1) (by omega); simpa [gE] using this) (fun h => by have := h2 (by simpa using h); simpa [gE] using this)]
theorem posE_of {L : List En} {s : ByteArray} (h : incs L L.length = true) (i : Nat) (hi : i ≤ L.length) (h1 : i = 0 ∨ ltB (gE L (i - 1)).1 s = true) (h2 : i = L.length ∨ ltB (gE L i).1 s = false) : posE L s = i := by
  refine posE_eq L s i hi (fun p hp => ?_) (fun hlt => ?_)
  · rcases h1 with rfl | h1
    · omega
    · by_cases e : p = i - 1
      · rw [e]; exact h1
      · exact ltB_trans (incs_lt h p (i - 1) (by omega) (by omega)) h1
  · rcases h2 with rfl | h2
    · omega
    · exact h2
theorem posE_hit {L : List En} {s : ByteArray} (h : incs L L.length = true) (k : Nat) (hk : k < L.length) (e : (gE L k).1 = s) : posE L s = k := by
  refine posE_eq L s k (by omega) (fun p hp => ?_) (fun _ => by rw [e]; exact ltB_irrefl s)
  rw [← e]
  exact incs_lt h p k hp hk
/-- is the name there? -/
@[irreducible] def hasE (L : List En) (s : ByteArray) : Bool := decide (posE L s < L.length ∧ (gE L (posE L s)).1 = s)
theorem hasE_eq (L : List En) (s : ByteArray) : hasE L s = decide (posE L s < L.length ∧ (gE L (posE L s)).1 = s) := by rw [hasE]
@[irreducible] def findI (L : List En) (s : ByteArray) : Int := if hasE L s then posE L s else -1
theorem findI_eq (L : List En) (s : ByteArray) : findI L s = if hasE L s then (posE L s : Int) else -1 := by rw [findI]
theorem findI_hit {L : List En} {s : ByteArray} (h : incs L L.length = true) (k : Nat) (hk : k < L.length) (e : (gE L k).1 = s) : findI L s = k := by
  have hp := posE_hit h k hk e
  rw [findI, hasE_eq, hp, decide_eq_true ⟨hk, e⟩]; rfl
theorem findI_miss {L : List En} {s : ByteArray} (h : ∀ p, p < L.length → (gE L p).1 ≠ s) : findI L s = -1 := by
  rw [findI, hasE_eq, decide_eq_false (fun q => h _ q.1 q.2)]; rfl
end Go.Proofs.Yteegnbdgfedajaa
/- The entries of a range: the reference. No condition. -/
namespace Go.Proofs.Yteegnbdgfedajaa
open Go.RowKit
set_option linter.unusedVariables false
set_option linter.unusedSimpArgs false

theorem rowEnt : Row Try.prog tEnt 94 124 32 := Row.mk' Try.underlying94 (.agg #[.string ⟨#[]⟩, .string ⟨#[]⟩]) (by kernel_rfl) rfl (by decide) (by decide)
@[irreducible] def inR (lo hi : ByteArray) (e : En) : Bool := !ltB e.1 lo && ltB e.1 hi
theorem inR_eq (lo hi : ByteArray) (e : En) : inR lo hi e = (!ltB e.1 lo && ltB e.1 hi) := by rw [inR]
def rangeR (L : List En) (lo hi : ByteArray) : List En × Int := if okE L then (L.filter (inR lo hi), 0) else ([], 1)
theorem okE_incs' {L : List En} (h : okE L = true) : incs L L.length = true ∧ L.length ≤ 64 := by
  rw [okE_eq] at h
  simpa using h
theorem rd_ent (w : World) (e : En) (t : TypeId) : Rd (w.alloc (.cells #[.string e.1, .string e.2] t)) (fun g => g = w.heap.size) tEnt.sz (some ⟨w.heap.size, 0, none⟩) [e].length ([e].flatMap tEnt.enc) := by
  refine ⟨rfl, fun _ => ⟨_, 0, rfl, rfl, fun j u hu => ?_⟩⟩
  rw [Nat.zero_add, (Blk.new w t _).cell]
  simpa [tEnt] using hu
theorem filter_next (p : En → Bool) (L : List En) (k : Nat) (h : k < L.length) : (L.take (k + 1)).filter p = (L.take k).filter p ++ (if p L[k] then [L[k]] else []) := by
  rw [List.take_succ_eq_append_getElem h, List.filter_append]
  cases hp : p L[k] <;> simp [hp]
end Go.Proofs.Yteegnbdgfedajaa
/- Rows of entries, entry by entry: read out of an owned row, written, shut again. No condition. -/
namespace Go.Proofs.Yteegnbdgfedajaa
open Go.RowKit
set_option linter.unusedVariables false
set_option linter.unusedSimpArgs false

def AtE (cur : Array Value) (i : Nat) (e : En) : Prop := cur[i * 2]? = some (.string e.1) ∧ cur[i * 2 + 1]? = some (.string e.2)
theorem flat_ent (xs : List En) (i : Nat) (hi : i < xs.length) : (xs.flatMap tEnt.enc)[i * 2]? = some (.string xs[i].1) ∧ (xs.flatMap tEnt.enc)[i * 2 + 1]? = some (.string xs[i].2) := by
  induction xs generalizing i with
  | nil => simp at hi
  | cons x r ih =>
    cases i with
    | zero => exact ⟨rfl, rfl⟩
    | succ i =>
      simp only [List.length_cons] at hi
      have := ih i (by omega)
      rw [show (i + 1) * 2 = i * 2 + 1 + 1 by omega]
      exact this
theorem flat_len (xs : List En) : (xs.flatMap tEnt.enc).length = xs.length * 2 := by
  induction xs with
  | nil => rfl
  | cons x r ih => rw [List.flatMap_cons, List.length_append, ih, List.length_cons]; show 2 + _ = _; omega
theorem own_of_at {w : World} {g t cap base : Nat} {cur : Array Value} {xs : List En} (hb : Blk w g t cur) (hg : base ≤ g) (hs : cur.size = cap * 2) (hn : xs.length ≤ cap) (hc : cap ≤ maxLen) (hl : xs.length ≤ 140737488355328) (hok : ∀ x ∈ xs, tEnt.ok x) (hat : ∀ i (hi : i < xs.length), AtE cur i xs[i]) :
    Own tEnt t w base (.slice (some ⟨g, 0, none⟩) xs.length cap) xs := by
  refine ⟨⟨flat_len xs, .inr ⟨g, cap, cur, rfl, hg, hb, hn, hc, hs, ?_⟩⟩, hl, hok⟩
  apply List.ext_getElem?
  intro q
  show (List.take (xs.length * 2) cur.toList)[q]? = _
  by_cases hq : q < xs.length * 2
  · rw [List.getElem?_take_of_lt hq, Array.getElem?_toList]
    have hi : q / 2 < xs.length := by omega
    have h1 := hat _ hi
    have h2 := flat_ent xs _ hi
    rcases Nat.mod_two_eq_zero_or_one q with h0 | h0
    · rw [show q = q / 2 * 2 by omega, h1.1, h2.1]
    · rw [show q = q / 2 * 2 + 1 by omega, h1.2, h2.2]
  · rw [List.getElem?_eq_none (by simp; omega), List.getElem?_eq_none (by rw [flat_len]; omega)]
theorem at_of_own {w : World} {t base : Nat} {v : Value} {xs : List En} (h : Own tEnt t w base v xs) (h0 : 0 < xs.length) :
    ∃ g cap cur, v = .slice (some ⟨g, 0, none⟩) xs.length cap ∧ base ≤ g ∧ g < w.heap.size ∧ Blk w g t cur ∧ cur.size = cap * 2 ∧ xs.length ≤ cap ∧ cap ≤ maxLen ∧ ∀ i (hi : i < xs.length), AtE cur i xs[i] := by
  have hbl := h.base_le
  obtain ⟨⟨hl, hx⟩, h2, h3⟩ := h
  rcases hx with ⟨rfl, hz⟩ | ⟨g, cap, cur, rfl, hb, hg, hc, hm, hs, ht⟩
  · omega
  · refine ⟨g, cap, cur, rfl, hb, (hbl g rfl).2, hg, hs, hc, hm, fun i hi => ?_⟩
    have h2 := flat_ent xs i hi
    rw [← ht] at h2
    have hz : i * 2 + 1 < xs.length * tEnt.sz := by show i * 2 + 1 < xs.length * 2; omega
    rw [List.getElem?_take_of_lt (by omega), List.getElem?_take_of_lt hz, Array.getElem?_toList, Array.getElem?_toList] at h2
    exact h2
theorem splice_size (cur : Array Value) (o : Nat) (vs : List Value) (h : o + vs.length ≤ cur.size) : (splice cur o vs).size = cur.size := by
  unfold splice
  simp
  omega
theorem splice_out (cur : Array Value) (o : Nat) (vs : List Value) (h : o + vs.length ≤ cur.size) (q : Nat) (hq : q < o ∨ o + vs.length ≤ q) : (splice cur o vs)[q]? = cur[q]? := by
  unfold splice
  rw [List.getElem?_toArray, List.append_assoc]
  rcases hq with hq | hq
  · rw [List.getElem?_append_left (by simp; omega), List.getElem?_take_of_lt hq, Array.getElem?_toList]
  · rw [List.getElem?_append_right (by simp; omega), List.getElem?_append_right (by simp; omega), List.getElem?_drop, Array.getElem?_toList]
    congr 1
    simp
    omega
theorem splice_in (cur : Array Value) (o : Nat) (vs : List Value) (h : o + vs.length ≤ cur.size) (q : Nat) (hq : q < vs.length) : (splice cur o vs)[o + q]? = vs[q]? := by
  unfold splice
  rw [List.getElem?_toArray, List.append_assoc, List.getElem?_append_right (by simp; omega), List.getElem?_append_left (by simp; omega)]
  congr 1
  simp
  omega
theorem at_put (cur : Array Value) (i : Nat) (e : En) (h : i * 2 + 2 ≤ cur.size) : AtE (splice cur (i * 2) [.string e.1, .string e.2]) i e :=
  ⟨splice_in cur (i * 2) [.string e.1, .string e.2] h 0 (by simp), splice_in cur (i * 2) [.string e.1, .string e.2] h 1 (by simp)⟩
theorem at_far {cur : Array Value} {i p : Nat} {e f : En} (h : i * 2 + 2 ≤ cur.size) (hp : p ≠ i) (ha : AtE cur p f) : AtE (splice cur (i * 2) [.string e.1, .string e.2]) p f :=
  ⟨by rw [splice_out _ _ _ h _ (by simp; omega)]; exact ha.1, by rw [splice_out _ _ _ h _ (by simp; omega)]; exact ha.2⟩
theorem grown_row {w w' : World} {g : Nat} (h : w.grownBy w' (some g)) (cs : Array Value) : w.grownBy (w'.setRow g cs) (some g) :=
  grown_trans h ⟨rfl, rfl, rfl, by simp, fun k hk hne => setRow_other w' g k cs (fun e => hne (by rw [e]))⟩
theorem grown_cell {w w' : World} {g p : Nat} {u : Value} (h : w.grownBy w' (some g)) (hp : p ≠ g) (hc : w.cell? ⟨p, 0, none⟩ = some u) : w'.cell? ⟨p, 0, none⟩ = some u := by
  rw [← hc]
  exact World.cell?_of_block (h.block p (World.block_lt_of_cell? w _ hc) (fun e => hp (Option.some.inj e)))
/-- entries of one's own are made empty -/
theorem run_clearE {w : World} {g off n : Nat} {cur : Array Value} {t : TypeId} (hn : 0 < n) (hb : Blk w g t cur) (h : off + n * 2 ≤ cur.size) :
    ∃ cs, cs.size = cur.size ∧ (∀ q, q < off → cs[q]? = cur[q]?) ∧ ∀ ty c, (Builtin.clear_ #[94] ty #[.slice (some ⟨g, off, none⟩) n c]).run Try.prog w = .ok (.tuple #[]) (w.setRow g cs) := by
  have hz : ∀ W : World, (zeroValue 124).run Try.prog W = .ok (.agg #[.string ⟨#[]⟩, .string ⟨#[]⟩]) W := by
    intro W
    have hi : (Try.prog.info? 124).map (·.zero) = some (some (.agg #[.string ⟨#[]⟩, .string ⟨#[]⟩])) := by kernel_rfl
    cases hq : Try.prog.info? 124 with
    | none => simp [hq] at hi
    | some i =>
      have hz : i.zero = some (.agg #[.string ⟨#[]⟩, .string ⟨#[]⟩]) := by simpa [hq] using hi
      simp [zeroValue, typeInfo, hq, hz]
  obtain ⟨m, rfl⟩ : ∃ m, n = m + 1 := ⟨n - 1, by omega⟩
  have hl : (Builtin.zeroCells #[.string ⟨#[]⟩, .string ⟨#[]⟩] (m + 1)).toList.length = (m + 1) * 2 := by simp [size_zeroCells]
  have h1 : ∀ u ∈ (Builtin.zeroCells #[.string ⟨#[]⟩, .string ⟨#[]⟩] (m + 1)).toList, u.oneCell' = true := by
    intro u hu
    simp only [Builtin.zeroCells, Array.toList_map, List.mem_map] at hu
    obtain ⟨i, _, rfl⟩ := hu
    rcases Nat.mod_two_eq_zero_or_one i with h0 | h0
    · simp only [List.size_toArray, List.length_cons, List.length_nil, h0]; rfl
    · simp only [List.size_toArray, List.length_cons, List.length_nil, h0]; rfl
  have hst := run_storeCells_at Try.prog g off t (Builtin.zeroCells #[.string ⟨#[]⟩, .string ⟨#[]⟩] (m + 1)).toList 0 cur w hb (by rw [hl]; omega) h1
  simp only [Nat.add_zero] at hst
  refine ⟨splice cur off (Builtin.zeroCells #[.string ⟨#[]⟩, .string ⟨#[]⟩] (m + 1)).toList, splice_size _ _ _ (by rw [hl]; omega), fun q hq => splice_out _ _ _ (by rw [hl]; omega) _ (.inl hq), fun ty c => ?_⟩
  simp [Builtin.clear_, run_underlying Try.underlying94, hz, Value.cells, hst, splice]
end Go.Proofs.Yteegnbdgfedajaa
/- Steps of regions that make and fill variables; structs built of parts. No condition. -/
namespace Go.Proofs.Yteegnbdgfedajaa
open Go.RowKit
set_option linter.unusedVariables false
set_option linter.unusedSimpArgs false

section
variable {P : Program} {ops : Array Oper} {o : Oper} {a : Act} {w : World} {K : Act → World → Prop} {Q : Exit → Act → World → Prop} {E : Prop}
/-- a new variable: one step of a region -/
theorem stp_alloc {t : TypeId} (z : Array Value) (hz : (P.info? t).map (·.zero) = some (some (.agg z))) (hgd : o.guard = none) (ho : o.op = .alloc t)
    (h : K (a.put o.dst (.pointer (some ⟨w.heap.size, 0, none⟩))) (w.alloc (.cells z t))) : if Region.wanted o (yielded ops a.tmps) = true then Oper.wp P o a w K Q else E := by
  have hw : Region.wanted o (yielded ops a.tmps) = true := by simp [Region.wanted, hgd]
  rw [if_pos hw]
  cases hq : P.info? t with
  | none => simp [hq] at hz
  | some i =>
    have hz' : i.zero = some (.agg z) := by simpa [hq] using hz
    have hrun : (Instr.alloc t true (.tuple #[])).run P w = .ok (.pointer (some ⟨w.heap.size, 0, none⟩)) (w.alloc (.cells z t)) := by
      simp [Instr.alloc, zeroValue, typeInfo, hq, hz', newVar, newRow, Value.cells]
    unfold Oper.wp execOp
    simp only [ho, Sem.run_bind, hrun, Result.andThen_ok, Sem.run_pure]
    exact h
/-- a variable of a struct's type, made full: one step of a region -/
theorem stp_box {t : TypeId} {cs : Array Value} (hgd : o.guard = none) (x : Operand) (ho : o.op = .box t x) (hx : a.eval x = .agg cs)
    (h : K (a.put o.dst (.pointer (some ⟨w.heap.size, 0, none⟩))) (w.alloc (.cells cs t))) : if Region.wanted o (yielded ops a.tmps) = true then Oper.wp P o a w K Q else E := by
  have hw : Region.wanted o (yielded ops a.tmps) = true := by simp [Region.wanted, hgd]
  rw [if_pos hw]
  have hrun : (Instr.box t (.agg cs)).run P w = .ok (.pointer (some ⟨w.heap.size, 0, none⟩)) (w.alloc (.cells cs t)) := by
    simp [Instr.box, newVar, newRow, Value.cells]
  unfold Oper.wp execOp
  simp only [ho, hx, Sem.run_bind, hrun, Result.andThen_ok, Sem.run_pure]
  exact h
/-- a struct is stored: one step of a region -/
theorem stp_storeP {t g e n off : Nat} {cs cur : Array Value} (hb : Blk w g e cur) (ht : Agg P t n) (hs : St n cs) (hl : off + n ≤ cur.size) (hgd : o.guard = none) (x y : Operand) (ho : o.op = .store t x y)
    (hx : a.eval x = .pointer (some ⟨g, off, none⟩)) (hy : a.eval y = .agg cs) (hd : o.dst = none) (h : K a (w.setRow g (splice cur off cs.toList))) :
    if Region.wanted o (yielded ops a.tmps) = true then Oper.wp P o a w K Q else E := by
  have hw : Region.wanted o (yielded ops a.tmps) = true := by simp [Region.wanted, hgd]
  rw [if_pos hw]
  have hsz : cs.toList.length = n := by rw [Array.length_toList, hs.size]
  have hrun := run_storeCells_at P g off e cs.toList 0 cur w hb (by rw [hsz]; simpa using hl) hs.one
  simp only [Nat.add_zero] at hrun
  have ht2 := ht.2
  cases hq : P.info? t with
  | none => simp [hq] at ht2
  | some i =>
    have hs' : i.size = cs.toList.length := by rw [hsz]; simpa [hq] using ht2
    unfold Oper.wp execOp
    simp only [ho, hx, hy, Instr.storeAt, Instr.sureAddr, Sem.run_bind, Sem.run_pure, Result.andThen_ok]
    have hst : (storeVar t ⟨g, off, none⟩ (.agg cs)).run P w = .ok () (w.setRow g (splice cur off cs.toList)) := by
      simp only [storeVar, Sem.run_bind, sizeOf, typeInfo]
      simp only [Array.length_toList] at hs'
      simp [hq, hs', Value.cells, hrun, splice]
    rw [hst]
    simp only [Result.andThen_ok, Sem.run_pure]
    simpa [hd, Act.put, Oper.upon] using h
theorem yields_build {S : World → Prop} {t : TypeId} {parts : Array (Nat × Operand)} {cells : Array Value} (hw : Region.wanted o (yielded ops a.tmps) = true) (ho : o.op = .build t parts)
    (hb : P.built t (parts.toList.map fun p => (p.1, a.eval p.2)) = some cells) : YieldsIf P ops S o (.agg cells) a := Or.inl ⟨hw, fun W hW => by
  replace hb : P.built t (parts.map fun (i, x) => (i, a.eval x)).toList = some cells := by rw [Array.toList_map]; exact hb
  unfold execOp
  simp only [ho, Sem.run_bind, run_build (P := P) W t _ cells hb, Result.andThen_ok, Sem.run_pure]⟩
theorem wpl_buildN {rest : List Oper} {t : TypeId} {parts : Array (Nat × Operand)} {cells : Array Value} (hgd : o.guard = none) (ho : o.op = .build t parts)
    (hb : P.built t (parts.toList.map fun p => (p.1, a.eval p.2)) = some cells) (h : wpList P ops Q rest (a.put o.dst (.agg cells)) w) : wpList P ops Q (o :: rest) a w := by
  replace hb : P.built t (parts.map fun (i, x) => (i, a.eval x)).toList = some cells := by rw [Array.toList_map]; exact hb
  refine wpList_plain hgd fun K hK => ?_
  refine wp_build t parts ho (by rw [hb]; rfl) ?_
  rw [hb]
  exact hK _ _ h
end
theorem fill_at (l : List Value) (n off : Nat) (Z : Array Value) (h : off + n + l.length ≤ Z.size) : ((l.zipIdx n).foldl (fun cs x => cs.setIfInBounds (off + x.2) x.1) Z) = splice Z (off + n) l := by
  induction l generalizing n Z with
  | nil =>
    simp only [List.zipIdx_nil, List.foldl_nil, splice, List.length_nil, Nat.add_zero, List.append_nil, List.take_append_drop, Array.toArray_toList]
  | cons x r ih =>
    simp only [List.length_cons] at h
    simp only [List.zipIdx_cons, List.foldl_cons]
    rw [ih (n + 1) _ (by simp; omega)]
    have e := list_seg_step Z.toList (off + n) x r (by simp; omega)
    unfold splice
    rw [Array.toList_setIfInBounds, List.length_cons]
    rw [show off + (n + 1) = off + n + 1 by omega, e]
theorem fill_one (place : Nat → Option (Nat × Nat)) (Z : Array Value) (i off n : Nat) (v : Value) (rest : List (Nat × Value)) (hp : place i = some (off, n)) (hv : v.cells.size = n) (hl : off + n ≤ Z.size) :
    Instr.fill place Z ((i, v) :: rest) = Instr.fill place (splice Z off v.cells.toList) rest := by
  have hf := fill_at v.cells.toList 0 off Z (by rw [Array.length_toList, hv]; omega)
  have hz : v.cells.zipIdx.foldl (fun cs x => cs.setIfInBounds (off + x.2) x.1) Z = splice Z off v.cells.toList := by
    rw [← Array.foldl_toList, Array.toList_zipIdx]
    simpa using hf
  rw [Instr.fill, hp]
  simp only [hv]
  rw [if_neg (by simp; omega)]
  exact congrArg (fun z => Instr.fill place z rest) hz
def zNd : List Value := List.replicate 64 (Value.int .u8 0) ++ [Value.string ⟨#[]⟩, Value.string ⟨#[]⟩]
theorem fold_fillA (cs Z : Array Value) (n : Nat) (hn : cs.size = n) (h : Z.size = n) : Array.foldl (fun cs x => cs.setIfInBounds x.2 x.1) Z cs.zipIdx 0 n = cs := by
  subst hn
  have e := fold_fill cs.toList Z (by simpa using h)
  rw [← Array.toList_zipIdx, Array.foldl_toList] at e
  simpa using e
/-- a node, built of its parts -/
theorem built_node (x : Nd) (hx : x.ok) : Try.prog.built 129 [(0, .agg (numsA .u8 x.l)), (1, .agg (numsA .u8 x.r)), (2, .agg #[.string x.n, .string x.v])] = some x.enc.toArray := by
  have hb : ∀ parts, Try.prog.built 129 parts = Instr.fill (fun i => #[(0, 32), (32, 32), (64, 2)][i]?) zNd.toArray parts := fun parts => by kernel_rfl
  have hnl : (nums .u8 x.l).length = 32 := by rw [nums_length, hx.1.1]
  have hnr : (nums .u8 x.r).length = 32 := by rw [nums_length, hx.2.1.1]
  have e1 : splice zNd.toArray 0 (nums .u8 x.l) = (nums .u8 x.l ++ zNd.drop 32).toArray := by
    have := splice_next [] zNd (nums .u8 x.l) (o := 0) rfl
    rw [hnl] at this
    simpa using this
  have e2 : splice (nums .u8 x.l ++ zNd.drop 32).toArray 32 (nums .u8 x.r) = (nums .u8 x.l ++ nums .u8 x.r ++ zNd.drop 64).toArray := by
    have := splice_next (nums .u8 x.l) (zNd.drop 32) (nums .u8 x.r) (o := 32) hnl
    rw [hnr, List.drop_drop] at this
    exact this
  have e3 : splice (nums .u8 x.l ++ nums .u8 x.r ++ zNd.drop 64).toArray 64 [.string x.n, .string x.v] = x.enc.toArray := by
    have := splice_next (nums .u8 x.l ++ nums .u8 x.r) (zNd.drop 64) [.string x.n, .string x.v] (o := 64) (by rw [List.length_append, hnl, hnr])
    rw [show (zNd.drop 64).drop ([Value.string x.n, Value.string x.v]).length = [] from rfl, List.append_nil] at this
    exact this
  have c1 : (Value.agg (numsA .u8 x.l)).cells.toList = nums .u8 x.l := rfl
  have c2 : (Value.agg (numsA .u8 x.r)).cells.toList = nums .u8 x.r := rfl
  have c3 : (Value.agg #[.string x.n, .string x.v]).cells.toList = [.string x.n, .string x.v] := rfl
  have z1 : zNd.length = 66 := rfl
  rw [hb, fill_one _ _ 0 0 32 _ _ rfl (by rw [← Array.length_toList, c1, hnl]) (by rw [List.size_toArray, z1]; decide), c1, e1,
    fill_one _ _ 1 32 32 _ _ rfl (by rw [← Array.length_toList, c2, hnr]) (by rw [List.size_toArray, List.length_append, hnl]; decide), c2, e2,
    fill_one _ _ 2 64 2 _ _ rfl rfl (by rw [List.size_toArray, List.length_append, List.length_append, hnl, hnr]; decide), c3, e3, Instr.fill]
/-- a number and a whole array in a variable are the results -/
theorem results_tb {P : Program} {w : World} {fn : Func} {c d : Tmp} {t g e n : Nat} {cs : Array Value} (hr : fn.results = #[.tmp d, .cell c t]) (tmps : Array Value) (hp : tmps.getD c undef = .pointer (some ⟨g, 0, none⟩)) (ht : Agg P t n) (hn : cs.size = n) (hb : Blk w g e cs) {v : Value} (hv : tmps.getD d undef = v) :
    (results fn tmps).run P w = .ok (.tuple #[v, .agg cs]) w := by
  have hl := run_loadB (P := P) hb ht hn
  have hp' : tmps[c]?.getD undef = .pointer (some ⟨g, 0, none⟩) := by simpa using hp
  have hv' : tmps[d]?.getD undef = v := by simpa using hv
  simp [results, hr, hp', hv', asAddr, hl]
theorem rd_nd {w : World} {S : Nat → Prop} {A : Option Addr} {c n : Nat} {xs : List Nd} (h : RdL tNd w S (.slice A n c) xs) : Rd w S tNd.sz A xs.length (xs.flatMap tNd.enc) := by
  obtain ⟨A', cap, e, h1, h2, h3, h4⟩ := h
  injection e with e1 e2 e3
  subst e1
  exact h3
theorem ok_nd {w : World} {S : Nat → Prop} {v : Value} {xs : List Nd} (h : RdL tNd w S v xs) : ∀ y ∈ xs, tNd.ok y := by
  obtain ⟨A', cap, e, h1, h2, h3, h4⟩ := h
  exact h4
end Go.Proofs.Yteegnbdgfedajaa
/- Blobs: what the laws, the reference and the program say of one. No condition. -/
namespace Go.Proofs.Yteegnbdgfedajaa
open Go.RowKit
set_option linter.unusedVariables false
set_option linter.unusedSimpArgs false

set_option maxHeartbeats 400000 in
theorem l01Bytes_any (v u : Value) (xs ys : List Int) (w : World) (S S' : Nat → Prop) (h : RdL tByte w S v xs) (h' : RdL tByte w S' u ys) :
    Calls Try.prog 54 #[v, u] w fun e w' => e = .returned (.bool (xs == ys)) ∧ Drawn w w' := by
  obtain ⟨A, cap, rfl, hcap, hlen, hrd, hok⟩ := h
  obtain ⟨A', cap', rfl, hcap', hlen', hrd', hok'⟩ := h'
  have Hrd := Lib.hid (show Rd w S 1 A xs.length (nums .u8 xs) by rw [← flat_bytes]; exact hrd)
  have Hrd' := Lib.hid (show Rd w S' 1 A' ys.length (nums .u8 ys) by rw [← flat_bytes]; exact hrd')
  clear hrd hrd'
  by_cases hl : xs.length = ys.length
  · have Hl := Lib.hid hl
    have hl1 : ((xs.length : Int) != (ys.length : Int)) = false := by simp [hl]
    clear hl
    go_enter Try.func54, Try.ntmps54
    go_wp2
    go_loopw [5] (fun i wr => ∃ k : Nat, k ≤ xs.length ∧ i = .int .i64 k ∧ xs.take k = ys.take k ∧ Drawn w wr)
      (fun i _ => xs.length - (intOf i).toNat)
    case atStart => exact ⟨0, by omega, rfl, by simp, Drawn.refl _⟩
    case round =>
      obtain ⟨k, hk, rfl, ht, hD⟩ := hrel
      have Ht := Lib.hid ht
      have HD := Lib.hid hD
      clear ht hl1 hD
      by_cases hlt : k < xs.length
      · have hlt' : k < ys.length := by rw [← Hl.out]; exact hlt
        obtain ⟨g, o, rfl, hs, hc⟩ := (Hrd.out).byte k hlt
        obtain ⟨g', o', rfl, hs', hc'⟩ := (Hrd'.out).byte k hlt'
        have hd := HD.out.ext.cell hc
        have hd' := HD.out.ext.cell hc'
        clear hc hc'
        by_cases he : gI xs k = gI ys k
        · have He := Lib.hid he
          have hne : (gI xs k != gI ys k) = false := by simpa using he
          clear he
          go_wp2
          go_quiet (fail)
          go_wp2
          go_roundw
          case rel => exact ⟨k + 1, by omega, by go_num, take_eq_step hlt hlt' Ht.out He.out, HD.out.drewN _⟩
          case measure => simp [intOf]; omega
        · have He := Lib.hid he
          have hne : (gI xs k != gI ys k) = true := by simpa using he
          clear he
          go_wp2
          go_quiet (fail)
          go_wp2
          go_ret
          exact ⟨by rw [beq_eq_false_iff_ne.2 (fun h => He.out (by rw [h]))]; rfl, HD.out.drewN _⟩
      · go_wp2
        go_ret
        obtain rfl : k = xs.length := by omega
        refine ⟨?_, HD.out⟩
        have e := Ht.out
        rw [List.take_of_length_le (by omega), List.take_of_length_le (by rw [Hl.out]; omega)] at e
        subst e; simp
  · have Hl := Lib.hid hl
    have hl1 : ((xs.length : Int) != (ys.length : Int)) = true := by simp; omega
    clear hl
    go_enter Try.func54, Try.ntmps54
    go_wp2
    go_ret
    exact ⟨by rw [beq_eq_false_iff_ne.2 (fun h => Hl.out (by rw [h]))]; rfl, Drawn.refl _⟩



set_option maxHeartbeats 400000 in
theorem szBlob_any (t : Int) (A : Option Addr) (n c : Nat) (l : Int) (hn : (n : Int) ≤ 140737488355328) (h0 : -1 ≤ l) (h1 : l ≤ 1048576) (w : World) :
    Calls Try.prog 34 #[.agg #[.int .u8 t, .slice A n c], .int .i64 l] w fun e w' => e = .returned (.int .i64 (if l - n < 0 then -1 else l - n)) ∧ Ext w w' := by
  have hc := fun W => szByteS_any A n c l hn h0 h1 W
  by_cases h : l - (n : Int) < 0
  · simp only [if_pos h] at hc ⊢
    go_enter Try.func34, Try.ntmps34
    go_wp2_with (go_at_call 72; refine (hc _).mono ?_; rintro e w' ⟨rfl, rfl⟩)
    go_ret
    exact ⟨rfl, ext_alloc _ _⟩
  · simp only [if_neg h] at hc ⊢
    go_enter Try.func34, Try.ntmps34
    go_wp2_with (go_at_call 72; refine (hc _).mono ?_; rintro e w' ⟨rfl, rfl⟩)
    go_ret
    exact ⟨rfl, ext_alloc _ _⟩

set_option maxHeartbeats 400000 in
theorem toBlob_any (t : Int) (v : Value) (xs : List Int) (w : World) (S : Nat → Prop) (h : RdL tByte w S v xs) :
    Calls Try.prog 36 #[.agg #[.int .u8 t, v]] w fun e w' => ∃ v', e = .returned (.agg #[.int .u8 t, v']) ∧ Own tByte 5 w' w.heap.size v' xs ∧ Ext w w' := by
  go_enter Try.func36, Try.ntmps36
  go_wp2_with fail
  refine (toByteS_any v xs _ S (h.ext (by decide) (((ext_alloc w _).alloc _).alloc _))).mono ?_
  rintro e w1 ⟨v', rfl, ho, hx⟩
  obtain ⟨A', c', rfl⟩ := ho.shape
  have c0 : w1.cell? ⟨w.heap.size + 1 + 1, 0, none⟩ = some (.int .u8 t) := hx.cell (by go_simp)
  have c1 : w1.cell? ⟨w.heap.size + 1 + 1, 1, none⟩ = some (.slice none 0 0) := hx.cell (by go_simp)
  have f1 : w1.frozen? ⟨w.heap.size + 1 + 1, 1, none⟩ = false := hx.free (by simp) (by go_simp)
  have d0 : w1.cell? ⟨w.heap.size + 1, 0, none⟩ = some (.int .u8 0) := hx.cell (by go_simp)
  have d1 : w1.cell? ⟨w.heap.size + 1, 1, none⟩ = some (.slice none 0 0) := hx.cell (by go_simp)
  have e0 : w1.frozen? ⟨w.heap.size + 1, 0, none⟩ = false := hx.free (by simp) (by go_simp)
  have e1 : w1.frozen? ⟨w.heap.size + 1, 1, none⟩ = false := hx.free (by simp) (by go_simp)
  have Ho := Lib.hid ho
  have Hx := Lib.hid hx
  clear ho hx
  go_wp2_with fail
  refine bodyPost_ret (v := .agg #[.int .u8 t, .slice A' xs.length c']) (by simp [results, Try.results36, go_sem, c0, c1, d0, d1, f1, e0, e1]) rfl ?_
  exact ⟨_, rfl, (((Ho.out.set_below (by simp) _).set_below (by simp) _).set_below (by simp) _).le (by simp; omega),
    (((((ext_alloc w _).alloc _).alloc _).trans Hx.out).set (by simp; omega) _ |>.set (by simp) _).set (by simp) _⟩

set_option maxHeartbeats 400000 in
theorem eqBlob_any (t u : Int) (v v' : Value) (xs ys : List Int) (w : World) (S S' : Nat → Prop) (h : RdL tByte w S v xs) (h' : RdL tByte w S' v' ys) :
    Calls Try.prog 39 #[.agg #[.int .u8 t, v], .agg #[.int .u8 u, v']] w fun e w' => e = .returned (.bool (t == u && xs == ys)) ∧ Ext w w' := by
  obtain ⟨A, cap, rfl, _, _⟩ := id h
  obtain ⟨A', cap', rfl, _, _⟩ := id h'
  have H := Lib.hid h
  have H' := Lib.hid h'
  clear h h'
  have hc := fun a b => eqByteS_any _ _ xs ys ((w.alloc a).alloc b) S S' (H.out.ext (by decide) ((ext_alloc w a).alloc b)) (H'.out.ext (by decide) ((ext_alloc w a).alloc b))
  generalize (xs == ys) = q at hc ⊢
  have HC := Lib.hid hc
  clear hc
  by_cases ht : t = u
  · subst ht
    have hne : (t != t) = false := by simp
    have hp : (t == t && q) = q := by simp
    rw [hp]
    clear hp
    go_enter Try.func39, Try.ntmps39
    go_wp2_with fail
    refine (HC.out _ _).mono ?_
    rintro e w1 ⟨rfl, hD⟩
    have HD := Lib.hid hD
    clear hD
    cases q
    all_goals
      go_wp2_with fail
      go_ret
      exact ⟨rfl, ((ext_alloc w _).alloc _).trans HD.out.ext⟩
  · have hne : (t != u) = true := by simpa using ht
    have hp : (t == u && q) = false := by simp [ht]
    rw [hp]
    clear hp ht
    go_enter Try.func39, Try.ntmps39
    go_wp2_with fail
    go_ret
    exact ⟨rfl, (ext_alloc w _).alloc _⟩

/-! ### a valid blob -/
set_option maxHeartbeats 400000 in
theorem implValidBlob_any (t : Int) (A : Option Addr) (n c : Nat) (w : World) :
    Calls Try.prog 75 #[.agg #[.int .u8 t, .slice A n c]] w fun e w' => e = .returned (.bool (decide (n ≤ 1024))) ∧ Ext w w' := by
  go_enter Try.func75, Try.ntmps75
  go_wp2
  go_ret
  exact ⟨ret_bool (by simp; omega), ext_alloc _ _⟩

end Go.Proofs.Yteegnbdgfedajaa
/- Whether two blobs are equal: the reference and the program. No condition. -/
namespace Go.Proofs.Yteegnbdgfedajaa
open Go.RowKit
set_option linter.unusedVariables false
set_option linter.unusedSimpArgs false

theorem strOf_eq {xs ys : List Int} (hx : B8 xs) (hy : B8 ys) : ((strOfNums xs).toList == (strOfNums ys).toList) = (xs == ys) := by
  rw [ByteArray.toList_eq, ByteArray.toList_eq, Bool.eq_iff_iff, beq_iff_eq, beq_iff_eq]
  constructor
  · intro h
    have h1 : xs.map (fun n => UInt8.ofNat n.toNat) = ys.map (fun n => UInt8.ofNat n.toNat) := h
    clear h
    induction xs generalizing ys with
    | nil => cases ys with
      | nil => rfl
      | cons y r => simp at h1
    | cons x r ih =>
      cases ys with
      | nil => simp at h1
      | cons y q =>
        simp only [List.map_cons, List.cons.injEq] at h1
        have a := hx x (by simp)
        have b := hy y (by simp)
        have e := congrArg UInt8.toNat h1.1
        simp only [UInt8.toNat_ofNat'] at e
        have : x = y := by omega
        rw [this, ih (fun z hz => hx z (by simp [hz])) (fun z hz => hy z (by simp [hz])) h1.2]
  · rintro rfl
    rfl
theorem conv_str {v : Value} {xs : List Int} {w : World} {S : Nat → Prop} (h : RdL tByte w S v xs) : (convert 22 9 v).run Try.prog w = .ok (.string (strOfNums xs)) w := by
  obtain ⟨A, cap, rfl, hcap, hlen, hrd, hok⟩ := h
  rw [flat_bytes] at hrd
  rcases Nat.eq_zero_or_pos xs.length with h0 | h0
  · obtain rfl : xs = [] := List.eq_nil_of_length_eq_zero h0
    rw [run_convert_bytes_string w _ _ _ A _ cap Try.underlying22 Try.underlying5 Try.underlying9]
    cases A <;> simp [Conv.bytesToString, loadCells] <;> rfl
  · obtain ⟨g, o, rfl, _, hc⟩ := hrd.2 h0
    exact run_convert_bytes_arg w _ _ Try.underlying22 Try.underlying5 g o xs.length cap xs rfl (fun i hi => hc i _ (nums_at _ _ _ hi)) _ Try.underlying9

set_option maxHeartbeats 400000 in
theorem bytesEqual_any (v u : Value) (xs ys : List Int) (w : World) (S S' : Nat → Prop) (h : RdL tByte w S v xs) (h' : RdL tByte w S' u ys) :
    Calls Try.prog 81 #[v, u] w fun e w' => e = .returned (.bool (xs == ys)) ∧ w = w' := by
  have e1 := conv_str h
  have e2 := conv_str h'
  obtain ⟨A, cap, rfl, _, _, _, hok⟩ := h
  obtain ⟨A', cap', rfl, _, _, _, hok'⟩ := h'
  have he := Lib.hid (strOf_eq hok hok')
  go_enter Try.func81, Try.ntmps81
  go_wp2
  go_ret
  exact ⟨by rw [← he.out]; rfl, rfl⟩

set_option maxHeartbeats 1000000 in
theorem l05SameBlob_any (g o g' o' : Nat) (t u : Int) (v v' : Value) (xs ys : List Int) (w : World) (S S' : Nat → Prop) (h : RdL tByte w S v xs) (h' : RdL tByte w S' v' ys)
    (ha0 : w.cell? ⟨g, o, none⟩ = some (.int .u8 t)) (ha1 : w.cell? ⟨g, o + 1, none⟩ = some v) (hb0 : w.cell? ⟨g', o', none⟩ = some (.int .u8 u)) (hb1 : w.cell? ⟨g', o' + 1, none⟩ = some v') :
    Calls Try.prog 46 #[.pointer (some ⟨g, o, none⟩), .pointer (some ⟨g', o', none⟩)] w fun e w' => e = .returned (.bool (t == u && xs == ys)) ∧ Drawn w w' := by
  obtain ⟨A, cap, rfl, _, _⟩ := id h
  obtain ⟨A', cap', rfl, _, _⟩ := id h'
  have hc := fun n => l01Bytes_any _ _ xs ys (w.drewN n) S S' (h.ext (by decide) ((Ext.refl _).drewN n)) (h'.ext (by decide) ((Ext.refl _).drewN n))
  generalize (xs == ys) = q at hc ⊢
  have HC := Lib.hid hc
  clear hc h h'
  by_cases ht : t = u
  · subst ht
    have hne : (t == t) = true := by simp
    have hp : (t == t && q) = q := by simp
    rw [hp]
    clear hp
    go_enter Try.func46, Try.ntmps46
    go_wp2_with fail
    go_quiet ((go_at_call 54; exact Calls.quiet_of (HC.out _)))
    go_wp2_with fail
    go_ret
    exact ⟨rfl, ⟨_, rfl⟩⟩
  · have hne : (t == u) = false := by simpa using ht
    have hp : (t == u && q) = false := by simp [ht]
    rw [hp]
    clear hp ht
    go_enter Try.func46, Try.ntmps46
    go_wp2_with fail
    go_quiet (fail)
    go_wp2_with fail
    go_ret
    exact ⟨rfl, ⟨_, rfl⟩⟩

set_option maxHeartbeats 1000000 in
theorem implSameBlob_any (t u : Int) (v v' : Value) (xs ys : List Int) (w : World) (S S' : Nat → Prop) (h : RdL tByte w S v xs) (h' : RdL tByte w S' v' ys) :
    Calls Try.prog 49 #[.agg #[.int .u8 t, v], .agg #[.int .u8 u, v']] w fun e w' => e = .returned (.bool (t == u && xs == ys)) ∧ Ext w w' := by
  obtain ⟨A, cap, rfl, _, _⟩ := id h
  obtain ⟨A', cap', rfl, _, _⟩ := id h'
  have hc := fun a b => bytesEqual_any _ _ xs ys ((w.alloc a).alloc b) S S' (h.ext (by decide) ((ext_alloc w a).alloc b)) (h'.ext (by decide) ((ext_alloc w a).alloc b))
  generalize (xs == ys) = q at hc ⊢
  have HC := Lib.hid hc
  clear hc h h'
  by_cases ht : t = u
  · subst ht
    have hne : (t == t) = true := by simp
    have hp : (t == t && q) = q := by simp
    rw [hp]
    clear hp
    go_enter Try.func49, Try.ntmps49
    go_wp2_with (go_at_call 81; refine (HC.out _ _).mono ?_; rintro e w' ⟨rfl, rfl⟩)
    go_ret
    exact ⟨rfl, (ext_alloc _ _).alloc _⟩
  · have hne : (t == u) = false := by simpa using ht
    have hp : (t == u && q) = false := by simp [ht]
    rw [hp]
    clear hp ht
    go_enter Try.func49, Try.ntmps49
    go_wp2_with fail
    go_ret
    exact ⟨rfl, (ext_alloc _ _).alloc _⟩

end Go.Proofs.Yteegnbdgfedajaa
/- Slices whose elements hold slices themselves: how they read. No condition. -/
namespace Go.Proofs.Yteegnbdgfedajaa
open Go.RowKit
set_option linter.unusedVariables false
set_option linter.unusedSimpArgs false

/-- how the cells of an element read -/
structure NR (α : Type) where
  sz : Nat
  R : World → (Nat → Prop) → Array Value → α → Prop
  pos : 0 < sz
  keep : ∀ {w w' : World} {S : Nat → Prop} {cs : Array Value} {x : α}, R w S cs x → (∀ g, S g → w'.heap[g]? = w.heap[g]?) → R w' S cs x
  ext : ∀ {w w' : World} {S : Nat → Prop} {cs : Array Value} {x : α}, R w S cs x → Ext w w' → R w' S cs x
  mono : ∀ {w : World} {S S' : Nat → Prop} {cs : Array Value} {x : α}, R w S cs x → (∀ g, S g → S' g) → R w S' cs x
  st : ∀ {w : World} {S : Nat → Prop} {cs : Array Value} {x : α}, R w S cs x → St sz cs
/-- the value v is a slice whose elements read as xs -/
def RdN {α : Type} (N : NR α) (w : World) (S : Nat → Prop) (v : Value) (xs : List α) : Prop :=
  ∃ A cap, v = .slice A xs.length cap ∧ xs.length ≤ cap ∧ xs.length ≤ 140737488355328 ∧
    (0 < xs.length → ∃ g o, A = some ⟨g, o, none⟩ ∧ S g ∧ ∀ i (h : i < xs.length), ∃ es : List Value, es.length = N.sz ∧ (∀ j u, es[j]? = some u → w.cell? ⟨g, o + i * N.sz + j, none⟩ = some u) ∧ N.R w S es.toArray xs[i])
section
variable {α : Type} {N : NR α} {w w' : World} {S S' : Nat → Prop} {v : Value} {xs : List α}
theorem RdN.ext (h : RdN N w S v xs) (e : Ext w w') : RdN N w' S v xs := by
  obtain ⟨A, cap, h1, h2, h3, h4⟩ := h
  refine ⟨A, cap, h1, h2, h3, fun hn => ?_⟩
  obtain ⟨g, o, h5, h6, h7⟩ := h4 hn
  refine ⟨g, o, h5, h6, fun i hi => ?_⟩
  obtain ⟨es, h8, h9, h10⟩ := h7 i hi
  exact ⟨es, h8, fun j u hu => e.cell (h9 j u hu), N.ext h10 e⟩
theorem RdN.keep (h : RdN N w S v xs) (e : ∀ g, S g → w'.heap[g]? = w.heap[g]?) : RdN N w' S v xs := by
  obtain ⟨A, cap, h1, h2, h3, h4⟩ := h
  refine ⟨A, cap, h1, h2, h3, fun hn => ?_⟩
  obtain ⟨g, o, h5, h6, h7⟩ := h4 hn
  refine ⟨g, o, h5, h6, fun i hi => ?_⟩
  obtain ⟨es, h8, h9, h10⟩ := h7 i hi
  exact ⟨es, h8, fun j u hu => (World.cell?_of_block (w := w) (e g h6)).trans (h9 j u hu), N.keep h10 e⟩
theorem RdN.far (h : RdN N w S v xs) {p : Addr} (hp : ∀ g, S g → g ≠ p.block) (u : Value) : RdN N (w.setCell p u) S v xs := h.keep fun g hg => Below.heap_setCell w p u g (hp g hg)
theorem RdN.mono (h : RdN N w S v xs) (e : ∀ g, S g → S' g) : RdN N w S' v xs := by
  obtain ⟨A, cap, h1, h2, h3, h4⟩ := h
  refine ⟨A, cap, h1, h2, h3, fun hn => ?_⟩
  obtain ⟨g, o, h5, h6, h7⟩ := h4 hn
  refine ⟨g, o, h5, e g h6, fun i hi => ?_⟩
  obtain ⟨es, h8, h9, h10⟩ := h7 i hi
  exact ⟨es, h8, h9, N.mono h10 e⟩
theorem RdN.shape (h : RdN N w S v xs) : ∃ A cap, v = .slice A xs.length cap ∧ xs.length ≤ cap ∧ xs.length ≤ 140737488355328 := by
  obtain ⟨A, cap, h1, h2, h3, _⟩ := h
  exact ⟨A, cap, h1, h2, h3⟩
/-- element i -/
theorem RdN.elem {A : Option Addr} {cap : Nat} (h : RdN N w S (.slice A xs.length cap) xs) (i : Nat) (hi : i < xs.length) :
    ∃ g o, A = some ⟨g, o, none⟩ ∧ S g ∧ ∃ es : List Value, es.length = N.sz ∧ (∀ j u, es[j]? = some u → w.cell? ⟨g, o + i * N.sz + j, none⟩ = some u) ∧ N.R w S es.toArray xs[i] := by
  obtain ⟨A', cap', h1, h2, h3, h4⟩ := h
  injection h1 with h1 _ _
  subst h1
  obtain ⟨g, o, h5, h6, h7⟩ := h4 (by omega)
  exact ⟨g, o, h5, h6, h7 i hi⟩
theorem RdN.nil (N : NR α) (w : World) (S : Nat → Prop) : RdN N w S (.slice none 0 0) [] := ⟨none, 0, rfl, Nat.le_refl _, by simp, fun h => absurd h (by simp)⟩
end
theorem flatN_at {sz : Nat} (CS : List (List Value)) (h : ∀ es ∈ CS, es.length = sz) (i : Nat) (es : List Value) (hi : CS[i]? = some es) (j : Nat) (hj : j < sz) : CS.flatten[i * sz + j]? = es[j]? := by
  induction CS generalizing i with
  | nil => simp at hi
  | cons x r ih =>
    have hl := h x (by simp)
    cases i with
    | zero =>
      simp at hi
      subst hi
      simp only [Nat.zero_mul, Nat.zero_add, List.flatten_cons]
      rw [List.getElem?_append_left (by omega)]
    | succ i =>
      simp only [List.flatten_cons]
      rw [List.getElem?_append_right (by rw [hl, Nat.add_mul]; omega), hl, ← ih (fun y hy => h y (by simp [hy])) i (by simpa using hi)]
      congr 1
      rw [Nat.add_mul]
      omega
theorem flatN_length {sz : Nat} (CS : List (List Value)) (h : ∀ es ∈ CS, es.length = sz) : CS.flatten.length = CS.length * sz := by
  induction CS with
  | nil => simp
  | cons x r ih =>
    simp only [List.flatten_cons, List.length_append, List.length_cons, h x (by simp), ih (fun y hy => h y (by simp [hy])), Nat.add_mul]
    omega
/-- the first of the elements of a row have been filled in -/
structure FillN {α : Type} (N : NR α) (w : World) (g e : Nat) (S : Nat → Prop) (xs : List α) (CS : List (List Value)) (m : Nat) : Prop where
  fill : Fill w g e CS.flatten m
  rel : ∀ (i : Nat) (es : List Value) (x : α), CS[i]? = some es → xs[i]? = some x → es.length = N.sz ∧ N.R w S es.toArray x
  lens : ∀ es ∈ CS, es.length = N.sz
section
variable {α : Type} {N : NR α} {w w' : World} {g e m : Nat} {S : Nat → Prop} {xs : List α} {CS : List (List Value)}
theorem FillN.ext (h : FillN N w g e S xs CS m) (x : Ext w w') : FillN N w' g e S xs CS m := ⟨h.fill.ext x, fun i es y h1 h2 => ⟨(h.rel i es y h1 h2).1, N.ext (h.rel i es y h1 h2).2 x⟩, h.lens⟩
theorem FillN.next (h : FillN N w g e S xs CS m) {cs : Array Value} {x : α} {m' : Nat} (hx : xs[CS.length]? = some x) (hR : N.R w S cs x) (hS : ∀ q, S q → q ≠ g) (row : Array Value) (hf : Fill (w.setRow g row) g e (CS.flatten ++ cs.toList) m') : FillN N (w.setRow g row) g e S xs (CS ++ [cs.toList]) m' := by
  have keep : ∀ q, S q → (w.setRow g row).heap[q]? = w.heap[q]? := fun q hq => setRow_other w g q row (hS q hq)
  have hsz := (N.st hR).size
  refine ⟨by simpa using hf, fun i es y h1 h2 => ?_, fun es hes => ?_⟩
  · rcases Nat.lt_trichotomy i CS.length with hlt | rfl | hgt
    · rw [List.getElem?_append_left hlt] at h1
      obtain ⟨h3, h4⟩ := h.rel i es y h1 h2
      exact ⟨h3, N.keep h4 keep⟩
    · rw [hx] at h2
      injection h2 with h2
      subst h2
      rw [List.getElem?_append_right (Nat.le_refl _), Nat.sub_self] at h1
      simp at h1
      subst h1
      exact ⟨by rw [Array.length_toList, hsz], by simpa using N.keep hR keep⟩
    · rw [List.getElem?_eq_none (by simp; omega)] at h1
      cases h1
  · rcases List.mem_append.1 hes with hes | hes
    · exact h.lens es hes
    · simp at hes; subst hes; rw [Array.length_toList, hsz]
theorem FillN.done (h : FillN N w g e S xs CS 0) (hl : CS.length = xs.length) (h47 : xs.length ≤ 140737488355328) (S' : Nat → Prop) (hS : ∀ q, S q → S' q) (hg : S' g) : RdN N w S' (.slice (some ⟨g, 0, none⟩) xs.length xs.length) xs := by
  refine ⟨_, _, rfl, Nat.le_refl _, h47, fun hn => ⟨g, 0, rfl, hg, fun i hi => ?_⟩⟩
  have hi' : i < CS.length := by omega
  obtain ⟨h1, h2⟩ := h.rel i CS[i] xs[i] (List.getElem?_eq_getElem hi') (List.getElem?_eq_getElem hi)
  refine ⟨CS[i], h1, fun j u hu => ?_, N.mono h2 hS⟩
  have hj : j < N.sz := by rw [← h1]; exact (List.getElem?_eq_some_iff.1 hu).1
  rw [Nat.zero_add, h.fill.done.cell, List.getElem?_toArray, flatN_at CS h.lens i _ (List.getElem?_eq_getElem hi') j hj, hu]
end
/-- a whole struct or array is stored into the variable that has just been made, its place as the walk shows it -/
theorem wpl_storeNewG {P : Program} {ops : Array Oper} {rest : List Oper} {o : Oper} {a : Act} {w : World} {Q : Exit → Act → World → Prop} {t e n g : Nat} {cs cur : Array Value} (hg : w.heap.size = g) (ht : Agg P t n) (hs : St n cs) (hl : cur.size = n) (hgd : o.guard = none) (x y : Operand) (ho : o.op = .store t x y) (hx : a.eval x = .pointer (some ⟨g, 0, none⟩))
    (hy : a.eval y = .agg cs) (hd : o.dst = none) (h : wpList P ops Q rest a (w.alloc (.cells cs e))) : wpList P ops Q (o :: rest) a (w.alloc (.cells cur e)) := by
  subst hg
  exact wpl_storeNewB ht hs hl hgd x y ho hx hy hd h
/-- all elements of two lists are the same -/
def allSame {α : Type} (f : α → α → Bool) : List α → List α → Bool
  | [], [] => true
  | x :: xs, y :: ys => f x y && allSame f xs ys
  | _, _ => false
theorem allSame_len {α : Type} {f : α → α → Bool} : ∀ {xs ys : List α}, xs.length ≠ ys.length → allSame f xs ys = false
  | [], [], h => absurd rfl h
  | [], y :: ys, _ => rfl
  | x :: xs, [], _ => rfl
  | x :: xs, y :: ys, h => by
    rw [allSame, allSame_len (fun e => h (by simp [e]))]
    simp
theorem allSame_yes {α : Type} {f : α → α → Bool} : ∀ {xs ys : List α}, xs.length = ys.length → (∀ i (h : i < xs.length) (h' : i < ys.length), f xs[i] ys[i] = true) → allSame f xs ys = true
  | [], [], _, _ => rfl
  | x :: xs, y :: ys, h, k => by
    rw [allSame, allSame_yes (by simpa using h) (fun i h1 h2 => by have := k (i + 1) (by simpa using h1) (by simpa using h2); simpa using this)]
    have := k 0 (by simp) (by simp)
    simpa using this
theorem allSame_no {α : Type} {f : α → α → Bool} : ∀ {xs ys : List α} (i : Nat) (h : i < xs.length) (h' : i < ys.length), f xs[i] ys[i] = false → allSame f xs ys = false
  | x :: xs, y :: ys, 0, _, _, k => by
    rw [allSame]
    have : f x y = false := by simpa using k
    rw [this]
    rfl
  | x :: xs, y :: ys, i + 1, h, h', k => by
    rw [allSame, allSame_no i (by simpa using h) (by simpa using h') (by simpa using k)]
    simp
/-- what the elements weigh, the first k of them -/
def sumW {α : Type} (f : α → Nat) (l : List α) (k : Nat) : Nat := ((l.take k).map f).sum
theorem sumW_zero {α : Type} (f : α → Nat) (l : List α) : sumW f l 0 = 0 := by simp [sumW]
theorem sumW_succ {α : Type} (f : α → Nat) (l : List α) (k : Nat) (h : k < l.length) : sumW f l (k + 1) = sumW f l k + f l[k] := by
  unfold sumW
  rw [List.take_succ_eq_append_getElem h, List.map_append, List.sum_append]; simp
theorem sumW_le {α : Type} (f : α → Nat) (l : List α) (k : Nat) : sumW f l k ≤ (l.map f).sum := by
  unfold sumW
  conv => rhs; rw [← List.take_append_drop k l, List.map_append, List.sum_append]
  omega
theorem sumW_mem {α : Type} (f : α → Nat) (l : List α) (x : α) (h : x ∈ l) : f x ≤ (l.map f).sum := by
  induction l with
  | nil => cases h
  | cons y r ih =>
    simp only [List.map_cons, List.sum_cons]
    rcases List.mem_cons.1 h with rfl | h
    · omega
    · have := ih h; omega
/-- how much a list takes -/
@[irreducible] def szW {α : Type} (f : α → Nat) (l : List α) : Nat := l.length + (l.map f).sum
theorem szW_eq {α : Type} (f : α → Nat) (l : List α) : szW f l = l.length + (l.map f).sum := by rw [szW]
theorem szW_mem {α : Type} (f : α → Nat) (l : List α) (x : α) (h : x ∈ l) : f x ≤ szW f l := by rw [szW_eq]; have := sumW_mem f l x h; omega
end Go.Proofs.Yteegnbdgfedajaa
/- What a program of a delta makes, as a list of bytes. No condition. -/
namespace Go.Proofs.Yteegnbdgfedajaa
open Go.RowKit
set_option linter.unusedVariables false
set_option linter.unusedSimpArgs false

/-- what is left of a program, and what has been made: the data, and the code -/
def applyL (base p out : List Int) : List Int × Int :=
  if h : p.length = 0 then (if 1024 < out.length then ([], 3) else (out, 0))
  else if gI p 0 = 0 ∧ 1 < p.length ∧ 0 < gI p 1 ∧ 2 + (gI p 1).toNat ≤ p.length then
    applyL base (p.drop (2 + (gI p 1).toNat)) (out ++ (p.drop 2).take (gI p 1).toNat)
  else if gI p 0 = 1 ∧ 3 < p.length ∧ 0 < gI p 3 ∧ (gI p 1 + 256 * gI p 2).toNat + (gI p 3).toNat ≤ base.length then
    applyL base (p.drop 4) (out ++ (base.drop (gI p 1 + 256 * gI p 2).toNat).take (gI p 3).toNat)
  else ([], 5)
termination_by p.length
decreasing_by
  · simp; omega
  · simp; omega
theorem gI_drop (xs : List Int) (i j : Nat) : gI (xs.drop i) j = gI xs (i + j) := by simp [gI, List.getD_eq_getElem?_getD]
theorem applyL_end (base out : List Int) : applyL base [] out = if 1024 < out.length then ([], 3) else (out, 0) := by
  rw [applyL]; simp
theorem applyL_lit (base p out : List Int) (h0 : gI p 0 = 0) (h1 : 1 < p.length) (h2 : 0 < gI p 1) (h3 : 2 + (gI p 1).toNat ≤ p.length) :
    applyL base p out = applyL base (p.drop (2 + (gI p 1).toNat)) (out ++ (p.drop 2).take (gI p 1).toNat) := by
  rw [applyL, dif_neg (by omega), if_pos ⟨h0, h1, h2, h3⟩]
theorem applyL_copy (base p out : List Int) (h0 : gI p 0 = 1) (h1 : 3 < p.length) (h2 : 0 < gI p 3) (h3 : (gI p 1 + 256 * gI p 2).toNat + (gI p 3).toNat ≤ base.length) :
    applyL base p out = applyL base (p.drop 4) (out ++ (base.drop (gI p 1 + 256 * gI p 2).toNat).take (gI p 3).toNat) := by
  rw [applyL, dif_neg (by omega), if_neg (by omega), if_pos ⟨h0, h1, h2, h3⟩]
theorem applyL_bad (base p out : List Int) (h : p.length ≠ 0) (h0 : ¬ (gI p 0 = 0 ∧ 1 < p.length ∧ 0 < gI p 1 ∧ 2 + (gI p 1).toNat ≤ p.length))
    (h1 : ¬ (gI p 0 = 1 ∧ 3 < p.length ∧ 0 < gI p 3 ∧ (gI p 1 + 256 * gI p 2).toNat + (gI p 3).toNat ≤ base.length)) : applyL base p out = ([], 5) := by
  rw [applyL, dif_neg h, if_neg h0, if_neg h1]
/-- the function ApplyDelta -/
def applyR (base p : List Int) : List Int × Int := if 1024 < base.length ∨ 1024 < p.length then ([], 3) else applyL base p []

end Go.Proofs.Yteegnbdgfedajaa
/- The program of a delta, as a list of bytes. No condition. -/
namespace Go.Proofs.Yteegnbdgfedajaa
open Go.RowKit
set_option linter.unusedVariables false
set_option linter.unusedSimpArgs false

/-- how many numbers two lists have in common at the beginning, at most f -/
def mat : Nat → List Int → List Int → Nat
  | 0, _, _ => 0
  | _ + 1, [], _ => 0
  | _ + 1, _ :: _, [] => 0
  | f + 1, x :: a, y :: b => if x = y then mat f a b + 1 else 0
theorem mat_le (f : Nat) : ∀ a b, mat f a b ≤ f ∧ mat f a b ≤ a.length ∧ mat f a b ≤ b.length := by
  induction f with
  | zero => intro a b; simp [mat]
  | succ f ih =>
    intro a b
    match a, b with
    | [], b => simp [mat]
    | x :: a, [] => simp [mat]
    | x :: a, y :: b =>
      rw [mat]
      have := ih a b
      split
      · simp only [List.length_cons]; omega
      · simp
theorem gI_cons0 (x : Int) (a : List Int) : gI (x :: a) 0 = x := rfl
theorem gI_consS (x : Int) (a : List Int) (n : Nat) : gI (x :: a) (n + 1) = gI a n := by simp [gI]
theorem mat_is (f : Nat) : ∀ (a b : List Int) (n : Nat), n ≤ f → n ≤ a.length → n ≤ b.length → (∀ j, j < n → gI a j = gI b j) → (n = f ∨ n = a.length ∨ n = b.length ∨ gI a n ≠ gI b n) → mat f a b = n := by
  induction f with
  | zero => intro a b n h1 _ _ _ _; simp only [mat]; omega
  | succ f ih =>
    intro a b n h1 h2 h3 h4 h5
    match a, b with
    | [], b => simp only [mat]; simp at h2; omega
    | x :: a, [] => simp only [mat]; simp at h3; omega
    | x :: a, y :: b =>
      rw [mat]
      match n with
      | 0 =>
        rw [if_neg]
        rcases h5 with h | h | h | h
        · omega
        · simp at h
        · simp at h
        · simpa [gI_cons0] using h
      | n + 1 =>
        have e : x = y := by have := h4 0 (by omega); simpa [gI_cons0] using this
        rw [if_pos e, ih a b n (by omega) (by simpa using h2) (by simpa using h3) (fun j hj => by have := h4 (j + 1) (by omega); simpa [gI_consS] using this)]
        rcases h5 with h | h | h | h
        · exact .inl (by omega)
        · exact .inr (.inl (by simpa using h))
        · exact .inr (.inr (.inl (by simpa using h)))
        · exact .inr (.inr (.inr (by simpa [gI_consS] using h)))
theorem mat_eq (f : Nat) : ∀ (a b : List Int), a.take (mat f a b) = b.take (mat f a b) := by
  induction f with
  | zero => intro a b; simp [mat]
  | succ f ih =>
    intro a b
    match a, b with
    | [], b => simp [mat]
    | x :: a, [] => simp [mat]
    | x :: a, y :: b =>
      rw [mat]
      split
      · rename_i e
        rw [List.take_succ_cons, List.take_succ_cons, ih a b, e]
      · simp
theorem mat_self (f : Nat) : ∀ (a : List Int), mat f a a = min f a.length := by
  induction f with
  | zero => intro a; simp [mat]
  | succ f ih =>
    intro a
    match a with
    | [] => simp [mat]
    | x :: a =>
      rw [mat, if_pos rfl, ih a, List.length_cons]
      omega
/-- the first of the first k places of a base with the longest match, and how long it is -/
def bestK (B D : List Int) : Nat → Nat × Nat
  | 0 => (0, 0)
  | k + 1 => if (bestK B D k).2 < mat 255 (B.drop k) D then (k, mat 255 (B.drop k) D) else bestK B D k
theorem bestK_ok (B D : List Int) (k : Nat) (hk : k ≤ B.length) : (bestK B D k).2 = 0 ∧ (bestK B D k).1 = 0 ∨ 0 < (bestK B D k).2 ∧ (bestK B D k).1 < k ∧ (bestK B D k).2 = mat 255 (B.drop (bestK B D k).1) D := by
  induction k with
  | zero => exact .inl ⟨rfl, rfl⟩
  | succ k ih =>
    rw [bestK]
    split
    · rename_i h
      exact .inr ⟨by show 0 < mat 255 (B.drop k) D; omega, Nat.lt_succ_self k, rfl⟩
    · rcases ih (by omega) with h | h
      · exact .inl h
      · exact .inr ⟨h.1, by omega, h.2.2⟩
theorem bestK_top (B D : List Int) (k : Nat) : ∀ i, i < k → mat 255 (B.drop i) D ≤ (bestK B D k).2 := by
  induction k with
  | zero => intro i h; omega
  | succ k ih =>
    intro i hi
    rw [bestK]
    by_cases e : i = k
    · subst e
      split
      · exact Nat.le_refl _
      · omega
    · have := ih i (by omega)
      split
      · show _ ≤ mat 255 (B.drop k) D; omega
      · exact this
/-- plain bytes, in pieces of at most 255 -/
def chk : Nat → List Int → List Int
  | 0, _ => []
  | f + 1, H => if H.length = 0 then [] else (0 : Int) :: ((min 255 H.length : Nat) : Int) :: (H.take (min 255 H.length) ++ chk f (H.drop (min 255 H.length)))
theorem chk_nil (f : Nat) : chk f [] = [] := by cases f <;> rfl
theorem chk_cons (f : Nat) (H : List Int) (h : 0 < H.length) : chk (f + 1) H = (0 : Int) :: ((min 255 H.length : Nat) : Int) :: (H.take (min 255 H.length) ++ chk f (H.drop (min 255 H.length))) := by
  rw [chk, if_neg (by omega)]
theorem chk_fuel (f : Nat) : ∀ (g : Nat) (H : List Int), H.length ≤ f → H.length ≤ g → chk f H = chk g H := by
  induction f with
  | zero =>
    intro g H h _
    obtain rfl : H = [] := List.eq_nil_of_length_eq_zero (by omega)
    rw [chk_nil, chk_nil]
  | succ f ih =>
    intro g H h h2
    by_cases h0 : H.length = 0
    · obtain rfl : H = [] := List.eq_nil_of_length_eq_zero h0
      rw [chk_nil, chk_nil]
    · match g with
      | 0 => omega
      | g + 1 => rw [chk_cons f H (by omega), chk_cons g H (by omega), ih g _ (by simp; omega) (by simp; omega)]
theorem chk_step (H : List Int) (n : Nat) (h : 0 < H.length) (hn : min 255 H.length = n) : chk H.length H = [(0 : Int), (n : Int)] ++ (H.take n ++ chk (H.drop n).length (H.drop n)) := by
  obtain ⟨f, hf⟩ : ∃ f, H.length = f + 1 := ⟨H.length - 1, by omega⟩
  subst hn
  rw [hf, chk_cons f H h, chk_fuel f (H.drop (min 255 H.length)).length _ (by simp; omega) (Nat.le_refl _), hf]
  rfl
theorem chk_len (f : Nat) : ∀ H : List Int, (chk f H).length ≤ 3 * H.length := by
  induction f with
  | zero => intro H; simp [chk]
  | succ f ih =>
    intro H
    by_cases h0 : H.length = 0
    · obtain rfl : H = [] := List.eq_nil_of_length_eq_zero h0
      rw [chk_nil]; simp
    · rw [chk_cons f H (by omega)]
      have := ih (H.drop (min 255 H.length))
      simp only [List.length_cons, List.length_append, List.length_take, List.length_drop] at *
      omega
theorem chk_ok (f : Nat) : ∀ H : List Int, B8 H → B8 (chk f H) := by
  induction f with
  | zero => intro H _ x hx; simp [chk] at hx
  | succ f ih =>
    intro H hH
    by_cases h0 : H.length = 0
    · obtain rfl : H = [] := List.eq_nil_of_length_eq_zero h0
      rw [chk_nil]; intro x hx; simp at hx
    · rw [chk_cons f H (by omega)]
      intro x hx
      simp only [List.mem_cons, List.mem_append] at hx
      rcases hx with rfl | rfl | hx | hx
      · decide
      · omega
      · exact hH x (List.mem_of_mem_take hx)
      · exact ih _ (fun y hy => hH y (List.mem_of_mem_drop hy)) x hx
/-- what is still to be told, what is held back, what has been told: the whole program -/
def dlt (B : List Int) : Nat → List Int → List Int → List Int → List Int
  | 0, _, H, O => O ++ chk H.length H
  | f + 1, D, H, O => if D.length = 0 then O ++ chk H.length H else
    if (bestK B D B.length).2 < 8 then dlt B f (D.drop 1) (H ++ [gI D 0]) O
    else dlt B f (D.drop (bestK B D B.length).2) [] (O ++ chk H.length H ++ [(1 : Int), (((bestK B D B.length).1 % 256 : Nat) : Int), (((bestK B D B.length).1 / 256 : Nat) : Int), ((bestK B D B.length).2 : Int)])
theorem dlt_end (B : List Int) (f : Nat) (H O : List Int) : dlt B f [] H O = O ++ chk H.length H := by cases f <;> rfl
theorem dlt_hold (B : List Int) (f : Nat) (D H O : List Int) (h : 0 < D.length) (hb : (bestK B D B.length).2 < 8) : dlt B (f + 1) D H O = dlt B f (D.drop 1) (H ++ [gI D 0]) O := by
  rw [dlt, if_neg (by omega), if_pos hb]
theorem dlt_copy (B : List Int) (f : Nat) (D H O : List Int) (h : 0 < D.length) (hb : ¬ (bestK B D B.length).2 < 8) : dlt B (f + 1) D H O = dlt B f (D.drop (bestK B D B.length).2) [] (O ++ chk H.length H ++ [(1 : Int), (((bestK B D B.length).1 % 256 : Nat) : Int), (((bestK B D B.length).1 / 256 : Nat) : Int), ((bestK B D B.length).2 : Int)]) := by
  rw [dlt, if_neg (by omega), if_neg hb]
def dltL (B D : List Int) : List Int := dlt B D.length D [] []
theorem dlt_ok (B : List Int) (hB : B.length ≤ 1024) (f : Nat) : ∀ (D H O : List Int), B8 D → B8 H → B8 O → B8 (dlt B f D H O) := by
  induction f with
  | zero =>
    intro D H O _ hH hO x hx
    rw [dlt] at hx
    rcases List.mem_append.1 hx with hx | hx
    · exact hO x hx
    · exact chk_ok _ H hH x hx
  | succ f ih =>
    intro D H O hD hH hO
    by_cases h0 : D.length = 0
    · obtain rfl : D = [] := List.eq_nil_of_length_eq_zero h0
      rw [dlt_end]
      intro x hx
      rcases List.mem_append.1 hx with hx | hx
      · exact hO x hx
      · exact chk_ok _ H hH x hx
    · by_cases hb : (bestK B D B.length).2 < 8
      · rw [dlt_hold B f D H O (by omega) hb]
        refine ih _ _ _ (fun x hx => hD x (List.mem_of_mem_drop hx)) (fun x hx => ?_) hO
        rcases List.mem_append.1 hx with hx | hx
        · exact hH x hx
        · simp at hx; subst hx; exact hD.get 0
      · rw [dlt_copy B f D H O (by omega) hb]
        refine ih _ _ _ (fun x hx => hD x (List.mem_of_mem_drop hx)) (fun x hx => by simp at hx) (fun x hx => ?_)
        rcases List.mem_append.1 hx with hx | hx
        · rcases List.mem_append.1 hx with hx | hx
          · exact hO x hx
          · exact chk_ok _ H hH x hx
        · have h1 := bestK_ok B D B.length (Nat.le_refl _)
          have h2 := mat_le 255 (B.drop (bestK B D B.length).1) D
          simp only [List.mem_cons, List.not_mem_nil, or_false] at hx
          rcases hx with rfl | rfl | rfl | rfl <;> omega
/-- DeltaOf -/
def deltaR (B D : List Int) : List Int × Int := if 1024 < B.length ∨ 1024 < D.length then ([], 3) else if 1024 < (dltL B D).length then ([], 3) else (dltL B D, 0)
end Go.Proofs.Yteegnbdgfedajaa
/- A row of bytes of one's own that begins within its block: append, cut. No condition. -/
namespace Go.Proofs.Yteegnbdgfedajaa
open Go.RowKit
set_option linter.unusedVariables false
set_option linter.unusedSimpArgs false

/-- v is a slice of bytes in a block from base on, not nil -/
def OwnT (w : World) (base : Nat) (v : Value) (xs : List Int) : Prop :=
  ∃ g o cap cur, v = .slice (some ⟨g, o, none⟩) xs.length cap ∧ base ≤ g ∧ Blk w g 5 cur ∧ xs.length ≤ cap ∧ cap ≤ maxLen ∧ o + cap ≤ cur.size ∧ (cur.toList.drop o).take xs.length = nums .u8 xs ∧ B8 xs
theorem OwnT.empty (w : World) (base : Nat) (hb : base ≤ w.heap.size) : OwnT (w.alloc (.cells #[] 5)) base (.slice (some ⟨w.heap.size, 0, none⟩) 0 0) [] :=
  ⟨_, 0, 0, _, rfl, hb, Blk.new _ _ _, Nat.le_refl _, by decide, by simp, by simp [nums], fun x h => by simp at h⟩
theorem OwnT.ext {w w' : World} {base : Nat} {v : Value} {xs : List Int} (h : OwnT w base v xs) (k : Ext w w') : OwnT w' base v xs := by
  obtain ⟨g, o, cap, cur, e, h1, h2, h3⟩ := h
  exact ⟨g, o, cap, cur, e, h1, h2.ext k, h3⟩
theorem OwnT.grown {w w' : World} {base : Nat} {v : Value} {xs : List Int} (h : OwnT w base v xs) {row : Option Nat} (k : w.grownBy w' row) (hr : v.ownBlock ≠ row) : OwnT w' base v xs := by
  obtain ⟨g, o, cap, cur, rfl, h1, h2, h3⟩ := h
  exact ⟨g, o, cap, cur, rfl, h1, h2.grown k hr, h3⟩
theorem OwnT.block {w : World} {base : Nat} {v : Value} {xs : List Int} (h : OwnT w base v xs) : ∃ g, v.ownBlock = some g ∧ base ≤ g ∧ g < w.heap.size ∧ ∃ cur, Blk w g 5 cur := by
  obtain ⟨g, o, cap, cur, rfl, h1, h2, _⟩ := h
  exact ⟨g, rfl, h1, h2.lt, _, h2⟩
theorem OwnT.shape {w : World} {base : Nat} {v : Value} {xs : List Int} (h : OwnT w base v xs) : ∃ g o cap, v = .slice (some ⟨g, o, none⟩) xs.length cap := by
  obtain ⟨g, o, cap, _, e, _⟩ := h
  exact ⟨g, o, cap, e⟩
theorem OwnT.rd {w : World} {base : Nat} {g o n cap : Nat} {xs : List Int} (h : OwnT w base (.slice (some ⟨g, o, none⟩) n cap) xs) : n = xs.length ∧ xs.length ≤ cap ∧ base ≤ g ∧ B8 xs ∧ Rd w (fun k => k = g) 1 (some ⟨g, o, none⟩) xs.length (nums .u8 xs) := by
  obtain ⟨g', o', cap', cur, e, h1, h2, h3, h4, h5, h6, h7⟩ := h
  injection e with e1 e2 e3
  injection e1 with e1
  injection e1 with e1 e4
  subst e1 e2 e3 e4
  refine ⟨rfl, h3, h1, h7, by rw [nums_length]; omega, fun hn => ⟨_, _, rfl, rfl, fun j u hu => ?_⟩⟩
  rw [h2.cell]
  rw [← h6, List.getElem?_take] at hu
  split at hu
  · simpa using hu
  · cases hu
theorem OwnT.cut {w : World} {base : Nat} {g o n cap : Nat} {xs : List Int} (h : OwnT w base (.slice (some ⟨g, o, none⟩) n cap) xs) (k : Nat) (hk : k ≤ xs.length) :
    OwnT w base (.slice (if cap = k then some ⟨g, o, none⟩ else some ⟨g, o + k, none⟩) (n - k) (cap - k)) (xs.drop k) := by
  obtain ⟨g', o', cap', cur, e, h1, h2, h3, h4, h5, h6, h7⟩ := h
  injection e with e1 e2 e3
  injection e1 with e1
  injection e1 with e1 e4
  subst e1 e2 e3 e4
  have hB : B8 (xs.drop k) := fun x hx => h7 x (List.mem_of_mem_drop hx)
  by_cases hc : cap = k
  · rw [if_pos hc]
    refine ⟨g, o, cap - k, cur, by rw [List.length_drop], h1, h2, by rw [List.length_drop]; omega, by omega, by omega, ?_, hB⟩
    obtain e : xs.drop k = [] := List.drop_eq_nil_of_le (by omega)
    rw [e]; simp [nums]
  · rw [if_neg hc]
    refine ⟨g, o + k, cap - k, cur, by rw [List.length_drop], h1, h2, by rw [List.length_drop]; omega, by omega, by omega, ?_, hB⟩
    have : nums .u8 (xs.drop k) = (nums .u8 xs).drop k := by simp [nums]
    rw [this, ← h6, List.drop_take, List.drop_drop, List.length_drop]
/-- one byte is appended -/
theorem run_appendT {w : World} {base : Nat} {v : Value} {xs : List Int} (h : OwnT w base v xs) (ty : TypeId) (x : Int) (hx : 0 ≤ x ∧ x ≤ 255) {ad : Addr} (hc : w.cell? ad = some (.int .u8 x)) (hl : xs.length + 1 ≤ 140737488355328) (hb : base ≤ w.heap.size) :
    ∃ v' w', (Builtin.append_ #[22, 22] ty #[v, .slice (some ad) 1 1]).run Try.prog w = .ok v' w' ∧ OwnT w' base v' (xs ++ [x]) ∧ w.grownBy w' v.ownBlock ∧ (v'.ownBlock = v.ownBlock ∨ v'.ownBlock = some w.heap.size) := by
  obtain ⟨g, o, cap, cur, rfl, h1, h2, h3, h4, h5, h6, h7⟩ := h
  obtain ⟨i, z, hi, hz, hs, hby, hzs⟩ := rowByte.info
  have hs1 : i.size = 1 := hs
  have hcells : ∀ j u, [Value.int .u8 x][j]? = some u → w.cell? (ad.add j) = some u := by
    intro j u hu
    match j, hu with
    | 0, hu =>
      simp at hu
      subst hu
      have : ad.add 0 = ad := by unfold Addr.add; split <;> simp_all
      rw [this]; exact hc
  have hB : B8 (xs ++ [x]) := by
    intro y hy
    rcases List.mem_append.1 hy with hy | hy
    · exact h7 y hy
    · simp at hy; subst hy; exact hx
  by_cases hroom : xs.length + 1 ≤ cap
  · have hst := run_storeCells_at Try.prog g (o + xs.length) 5 [.int .u8 x] 0 cur w h2 (by simp; omega) (by simp [Value.oneCell'])
    have hf := run_firstCells_some (P := Try.prog) w i.size 1 ad 1 1 [.int .u8 x] (by simp [hs1]) hcells
    simp only [Nat.add_zero] at hst
    refine ⟨.slice (some ⟨g, o, none⟩) (xs.length + 1) cap, w.setRow g (cur.toList.take (o + xs.length) ++ [Value.int .u8 x] ++ cur.toList.drop (o + xs.length + [Value.int .u8 x].length)).toArray, ?_, ⟨g, o, cap, (cur.toList.take (o + xs.length) ++ [Value.int .u8 x] ++ cur.toList.drop (o + xs.length + [Value.int .u8 x].length)).toArray, by rw [List.length_append]; rfl, h1, setRow_heap w g cur _ _ _ h2, by simp; omega, h4, by simp; omega, ?_, hB⟩, ⟨rfl, rfl, rfl, by simp, fun k _ hk => setRow_other w g k _ (fun e => hk (by simp [Value.ownBlock, e]))⟩, .inl rfl⟩
    · rw [hs1] at hf
      simp [Builtin.append_, run_underlying rowByte.ht, sizeOf, typeInfo, hi, Builtin.lenOf, hroom, hf, hs1, Addr.add_lit, hst]
    · have hz : (cur.toList.take (o + xs.length)).length = o + xs.length := by simp; omega
      simp only [List.append_assoc]
      rw [List.drop_append_of_le_length (by omega), List.drop_take]
      rw [show o + xs.length - o = xs.length by omega, h6, nums_append, List.length_append]
      rw [← List.append_assoc]
      rw [List.take_append_of_le_length (by simp [nums_length])]
      rw [List.take_of_length_le (by simp [nums_length])]
      rfl
  · have holds : ∀ j u, (nums .u8 xs)[j]? = some u → w.cell? ((⟨g, o, none⟩ : Addr).add j) = some u := by
      intro j u hu
      rw [Addr.add_lit, h2.cell]
      rw [← h6, List.getElem?_take] at hu
      split at hu
      · simpa using hu
      · cases hu
    have hr := run_append_grow (P := Try.prog) w 22 ty 5 i z rowByte.ht hi hz ⟨g, o, none⟩ xs.length cap (nums .u8 xs) (by rw [nums_length, hs1, Nat.mul_one]) holds ad 1 1 [.int .u8 x] (by simp [hs1]) hcells (by omega) (by omega) (growslice_fits (by omega) (by rw [hby]; omega))
    have hge := grownCap_ge w (xs.length + 1) cap 5
    have hcm : grownCap w (xs.length + 1) cap 5 ≤ maxLen := grownCap_le_maxLen w (xs.length + 1) cap 5 (by simp only [maxLen]; omega)
    refine ⟨_, _, hr, ⟨w.heap.size, 0, _, _, by rw [List.length_append]; rfl, hb, heap_alloc_new w.drew _, by rw [List.length_append]; exact hge, hcm, ?_, ?_, hB⟩, ⟨rfl, rfl, rfl, by simp, fun k hk _ => heap_alloc_old w.drew _ hk⟩, .inr rfl⟩
    · simp only [Array.size_append, List.size_toArray, size_zeroCells, hzs, nums_length]
      show 0 + _ ≤ xs.length + 1 + (_ - (xs.length + 1)) * 1
      omega
    · simp only [Array.toList_append, List.append_assoc, List.drop_zero]
      rw [nums_append, ← List.append_assoc, show (xs ++ [x]).length = (nums .u8 xs ++ [Value.int .u8 x]).length by simp [nums_length]]
      exact List.take_left
theorem wpl_appendT {ops : Array Oper} {rest : List Oper} {o : Oper} {a : Act} {w : World} {Q : Exit → Act → World → Prop} (hgd : o.guard = none) (s y : Operand)
    (hop : o.op = .call { callee := .builtin .append, args := #[s, y], argTypes := #[22, 22] })
    {base : Nat} {v : Value} {xs : List Int} (hs : a.eval s = v) (ho : OwnT w base v xs) (x : Int) (hx : 0 ≤ x ∧ x ≤ 255) {ad : Addr} (hy : a.eval y = .slice (some ad) 1 1) (hc : w.cell? ad = some (.int .u8 x)) (hl : xs.length + 1 ≤ 140737488355328) (hb : base ≤ w.heap.size)
    (h : ∀ v' w', OwnT w' base v' (xs ++ [x]) → w.grownBy w' v.ownBlock → (v'.ownBlock = v.ownBlock ∨ v'.ownBlock = some w.heap.size) → wpList Try.prog ops Q rest (a.put o.dst v') w') : wpList Try.prog ops Q (o :: rest) a w := by
  obtain ⟨v', w', hrun, h1, h2, h3⟩ := run_appendT ho o.type x hx hc hl hb
  refine wpList_plain hgd fun K hK => ?_
  unfold Oper.wp execOp
  simp only [hop, resolve, invoke, builtin, Sem.run_bind, Sem.run_pure, Result.andThen_ok, List.map_toArray, List.map_cons, List.map_nil, hs, hy, hrun]
  exact hK _ _ (h v' w' h1 h2 h3)
end Go.Proofs.Yteegnbdgfedajaa
/- The program of a delta: the reference's parts. No condition. -/
namespace Go.Proofs.Yteegnbdgfedajaa
open Go.RowKit
set_option linter.unusedVariables false
set_option linter.unusedSimpArgs false

set_option maxHeartbeats 1000000 in
set_option maxRecDepth 100000 in
theorem l06Match_any (v u : Value) (a b : List Int) (w : World) (S S' : Nat → Prop) (h : RdL tByte w S v a) (h' : RdL tByte w S' u b) :
    Calls Try.prog 77 #[v, u] w fun e w' => e = .returned (.int .i64 (mat 255 a b : Nat)) ∧ Drawn w w' := by
  obtain ⟨A, cap, rfl, hcap, hlen, hrd, hok⟩ := h
  obtain ⟨A', cap', rfl, hcap', hlen', hrd', hok'⟩ := h'
  have Hrd := Lib.hid (show Rd w S 1 A a.length (nums .u8 a) by rw [← flat_bytes]; exact hrd)
  have Hrd' := Lib.hid (show Rd w S' 1 A' b.length (nums .u8 b) by rw [← flat_bytes]; exact hrd')
  clear hrd hrd'
  go_enter Try.func77, Try.ntmps77
  go_wp2
  go_loopw [5] (fun i wr => ∃ k : Nat, k ≤ 255 ∧ k ≤ a.length ∧ k ≤ b.length ∧ i = .int .i64 k ∧ (∀ j, j < k → gI a j = gI b j) ∧ Drawn w wr) (fun i _ => 255 - (intOf i).toNat)
  case atStart => exact ⟨0, by omega, by omega, by omega, rfl, fun j hj => by omega, Drawn.refl _⟩
  case round =>
    obtain ⟨k, hk, hka, hkb, rfl, hm, hD⟩ := hrel
    have HM := Lib.hid hm
    have HD := Lib.hid hD
    clear hm hD
    have HE := Lib.hid (fun h => mat_is 255 a b k hk hka hkb HM.out h)
    by_cases h1 : k < a.length
    rotate_left
    · have h1' : ¬ (k : Int) < (a.length : Int) := by omega
      have HR := Lib.hid (HE.out (.inr (.inl (by omega))))
      go_wp2
      go_quiet (fail)
      go_wp2
      go_ret
      exact ⟨by rw [HR.out]; rfl, HD.out.drewN _⟩
    by_cases h2 : k < b.length
    rotate_left
    · have h2' : ¬ (k : Int) < (b.length : Int) := by omega
      have HR := Lib.hid (HE.out (.inr (.inr (.inl (by omega)))))
      go_wp2
      go_quiet (fail)
      go_wp2
      go_ret
      exact ⟨by rw [HR.out]; rfl, HD.out.drewN _⟩
    by_cases h3 : k < 255
    rotate_left
    · have h3' : decide ((k : Int) < 255) = false := by rw [decide_eq_false_iff_not]; omega
      have HR := Lib.hid (HE.out (.inl (by omega)))
      go_wp2
      go_quiet (fail)
      go_wp2
      go_ret
      exact ⟨by rw [HR.out]; rfl, HD.out.drewN _⟩
    have h3' : decide ((k : Int) < 255) = true := by rw [decide_eq_true_iff]; omega
    obtain ⟨g, o, rfl, hs, hc⟩ := (Hrd.out).byte k h1
    obtain ⟨g', o', rfl, hs', hc'⟩ := (Hrd'.out).byte k h2
    have hd := HD.out.ext.cell hc
    have hd' := HD.out.ext.cell hc'
    clear hc hc'
    have hi : (0 : Int) ≤ (k : Int) := by omega
    by_cases he : gI a k = gI b k
    · have He := Lib.hid he
      have heq : (gI a k == gI b k) = true := by simpa using he
      clear he HE
      go_wp2
      go_quiet (fail)
      go_wp2
      go_roundw
      case rel => exact ⟨k + 1, by omega, by omega, by omega, by go_num, fun j hj => by
        by_cases e : j = k
        · subst e; exact He.out
        · exact HM.out j (by omega), HD.out.drewN _⟩
      case measure => simp [intOf]; omega
    · have heq : (gI a k == gI b k) = false := by simpa using he
      have HR := Lib.hid (HE.out (.inr (.inr (.inr he))))
      clear he HE
      go_wp2
      go_quiet (fail)
      go_wp2
      go_ret
      exact ⟨by rw [HR.out]; rfl, HD.out.drewN _⟩
/-- a row of one's own has been appended to -/
structure Go1 (w w' : World) (v v' : Value) : Prop where
  g : w.grownBy w' v.ownBlock
  at_ : v'.ownBlock = v.ownBlock ∨ ∃ k, v'.ownBlock = some k ∧ w.heap.size ≤ k
theorem Go1.refl (w : World) (v : Value) : Go1 w w v v := ⟨grown_refl _ _, .inl rfl⟩
theorem Go1.trans {a b c : World} {u v z : Value} (h : Go1 a b u v) (k : Go1 b c v z) : Go1 a c u z := by
  refine ⟨⟨k.g.os.trans h.g.os, k.g.tape.trans h.g.tape, k.g.output.trans h.g.output, Nat.le_trans h.g.size k.g.size, fun i hi hn => (k.g.block i (Nat.lt_of_lt_of_le hi h.g.size) ?_).trans (h.g.block i hi hn)⟩, ?_⟩
  · rcases h.at_ with e | ⟨q, e, hq⟩
    · rw [e]; exact hn
    · rw [e]; intro e2; injection e2 with e2; omega
  · rcases k.at_ with e | ⟨q, e, hq⟩
    · rw [e]; exact h.at_
    · exact .inr ⟨q, e, Nat.le_trans h.g.size hq⟩
theorem Go1.ext {a b : World} {u v : Value} (h : Ext a b) (e : v = u) : Go1 a b u v := by subst e; exact ⟨ext_grown _ h, .inl rfl⟩
theorem Go1.app {a b : World} {u v : Value} (h : a.grownBy b u.ownBlock) (e : v.ownBlock = u.ownBlock ∨ v.ownBlock = some a.heap.size) : Go1 a b u v := ⟨h, by
  rcases e with e | e
  · exact .inl e
  · exact .inr ⟨_, e, Nat.le_refl _⟩⟩
theorem rd_two (w : World) (x y : Int) (t : TypeId) : Rd (w.alloc (.cells #[.int .u8 x, .int .u8 y] t)) (fun _ => True) tByte.sz (some ⟨w.heap.size, 0, none⟩) [x, y].length ([x, y].flatMap tByte.enc) := by
  refine ⟨rfl, fun _ => ⟨_, 0, rfl, trivial, fun j u hu => ?_⟩⟩
  rw [Nat.zero_add, (Blk.new w t _).cell]
  have e : ([x, y].flatMap tByte.enc) = [.int .u8 x, .int .u8 y] := rfl
  rw [e] at hu
  simpa using hu
theorem ok2 {x y : Int} (hx : 0 ≤ x ∧ x ≤ 255) (hy : 0 ≤ y ∧ y ≤ 255) : ∀ z ∈ [x, y], tByte.ok z := by
  intro z hz
  simp at hz
  rcases hz with rfl | rfl <;> assumption
theorem Rd.head8 {w : World} {S : Nat → Prop} {A : Option Addr} {n : Nat} {q : List Int} (h : Rd w S 1 A n (nums .u8 q)) (k : Nat) (hk : k ≤ q.length) : Rd w S tByte.sz A (q.take k).length ((q.take k).flatMap tByte.enc) := by
  have hn : q.length = n := by have := h.1; rw [nums_length] at this; omega
  have h1 := h.head (k := k) (by omega)
  have e : (nums .u8 q).take (k * 1) = nums .u8 (q.take k) := by simp [nums]
  rw [e] at h1
  rw [flat_bytes, show (q.take k).length = k by simp; omega]
  exact h1
set_option maxHeartbeats 4000000 in
set_option maxRecDepth 100000 in
theorem l06Plain_any (v u : Value) (out H : List Int) (w : World) (b : Nat) (S : Nat → Prop) (ho : Own tByte 5 w b v out) (hh : RdL tByte w S u H) (hS : ∀ g, S g → some g ≠ v.ownBlock ∧ g < w.heap.size) (hb : b ≤ w.heap.size) (hl : out.length ≤ 100000) (hHl : H.length ≤ 100000) :
    Calls Try.prog 78 #[v, u] w fun e w' => ∃ v', e = .returned v' ∧ Own tByte 5 w' b v' (out ++ chk H.length H) ∧ Go1 w w' v v' := by
  obtain ⟨A, cap, rfl, hcap, hlen, hrd, hok⟩ := hh
  obtain ⟨B, bn, bc, rfl⟩ := ho.shape3
  have HO := Lib.hid ho
  have Hrd := Lib.hid (show Rd w S 1 A H.length (nums .u8 H) by rw [← flat_bytes]; exact hrd)
  have Hok := Lib.hid (show B8 H from hok)
  have HS := Lib.hid hS
  clear hrd hok ho hS
  go_enter Try.func78, Try.ntmps78
  go_wp2_with fail
  go_loopw [0, 1] (fun o i wr => ∃ (q out' : List Int) (A1 : Option Addr) (c1 : Nat), q.length ≤ H.length ∧ i = .slice A1 q.length c1 ∧ q.length ≤ c1 ∧ out ++ chk H.length H = out' ++ chk q.length q ∧ out'.length + 3 * q.length ≤ out.length + 3 * H.length ∧ B8 q ∧ Rd w S 1 A1 q.length (nums .u8 q) ∧ Own tByte 5 wr b o out' ∧ Go1 w wr (.slice B bn bc) o)
    (fun _ i _ => lenV i)
  case atStart => exact ⟨H, out, A, cap, by omega, rfl, hcap, rfl, by omega, Hok.out, Hrd.out, HO.out, Go1.refl _ _⟩
  case round =>
    obtain ⟨q, out', A1, c1, hqp, rfl, hqc, hF, hol, hBq, hRq, hO, hG⟩ := hrel
    have HF := Lib.hid hF
    have HO2 := Lib.hid hO
    have HG := Lib.hid hG
    have HBq := Lib.hid hBq
    have HRq := Lib.hid hRq
    obtain ⟨C, cn, cc, rfl⟩ := hO.shape3
    clear hF hO hG hBq hRq HO
    by_cases hq : q.length = 0
    · obtain rfl : q = [] := List.eq_nil_of_length_eq_zero hq
      go_wp2_with fail
      go_ret
      refine ⟨_, rfl, ?_, HG.out⟩
      rw [HF.out, chk_nil, List.append_nil]
      exact HO2.out
    obtain ⟨g, o, rfl, hs, hcq⟩ := HRq.out.2 (by omega)
    have HST := Lib.hid (HS.out g hs)
    have HRw := Lib.hid (show ∀ W, w.grownBy W (Value.slice B bn bc).ownBlock → Rd W S 1 (some ⟨g, o, none⟩) q.length (nums .u8 q) from fun W hW => HRq.out.keep fun g' hg' => hW.block g' (HS.out g' hg').2 (HS.out g' hg').1)
    clear hcq
    have hbw : b ≤ wr.heap.size := Nat.le_trans hb HG.out.g.size
    by_cases hbig : 255 < q.length
    · have hbigI : (255 : Int) < (q.length : Int) := by omega
      have hN : min 255 q.length = 255 := by omega
      have HSTEP := Lib.hid (chk_step q 255 (by omega) hN)
      have HCut := Lib.hid (HRq.out.cut8 255 c1 (by omega) hqc)
      clear hN
      by_cases hcn : c1 = 255
      · exact absurd hcn (by omega)
      · have HC := Lib.hid (show Rd w S 1 (some ⟨g, o + 255, none⟩) (q.drop 255).length (nums .u8 (q.drop 255)) by have := HCut.out; rwa [if_neg hcn] at this)
        clear HCut
        go_wp2_with (first
            | (at_builtin; refine wpl_append rowByte rfl _ _ rfl (v := .slice C cn cc) rfl (HO2.out.alloc _) _ _ rfl (A := some ⟨wr.heap.size, 0, none⟩) (ys := [0, 255]) rfl (rd_two wr 0 255 _) (ok2 (by omega) (by omega)) (by simp; omega) (by simp; omega) ?_; intro v1 w1 ho1 hg1 hat1; have HO1 := Lib.hid ho1; have HG1 := Lib.hid (HG.out.trans ((Go1.ext (ext_alloc _ _) rfl).trans (Go1.app hg1 hat1))); obtain ⟨C1, cn1, cc1, rfl⟩ := ho1.shape3; clear ho1 hg1 hat1)
            | (at_builtin; refine wpl_append rowByte rfl _ _ rfl (v := .slice C1 cn1 cc1) rfl HO1.out _ _ rfl (ys := q.take 255) (S := S) (by simp only [List.length_take]; omega) ((HRw.out _ HG1.out.g).head8 _ (by omega)) (fun x hx => HBq.out x (List.mem_of_mem_take hx)) (by simp only [List.length_append, List.length_take, List.length_cons, List.length_nil]; omega) (Nat.le_trans hb HG1.out.g.size) ?_; intro v2 w2 ho2 hg2 hat2; have HO3 := Lib.hid ho2; have HG2 := Lib.hid (HG1.out.trans (Go1.app hg2 hat2)); obtain ⟨C2, cn2, cc2, rfl⟩ := ho2.shape3; clear ho2 hg2 hat2))
        go_roundw
        case rel => exact ⟨q.drop 255, _, some ⟨g, o + 255, none⟩, c1 - 255, by rw [List.length_drop]; omega, by simp, by rw [List.length_drop]; omega, by rw [HF.out, HSTEP.out]; (try simp only [List.append_assoc]); (try rfl), by simp only [List.length_append, List.length_take, List.length_drop, List.length_cons, List.length_nil]; omega, HBq.out.drop _, HC.out, HO3.out, HG2.out⟩
        case measure => simp [lenV] <;> omega
    · have hbigI : ¬ (255 : Int) < (q.length : Int) := by omega
      have hW : IntKind.u8.wrap (q.length : Int) = (q.length : Int) := by simp [IntKind.wrap, IntKind.min, IntKind.max, IntKind.bits, IntKind.signed]; omega
      have hN : min 255 q.length = q.length := by omega
      have HSTEP := Lib.hid (chk_step q q.length (by omega) hN)
      have HCut := Lib.hid (HRq.out.cut8 q.length c1 (by omega) hqc)
      clear hN
      by_cases hcn : c1 = q.length
      · have HC := Lib.hid (show Rd w S 1 (some ⟨g, o, none⟩) (q.drop q.length).length (nums .u8 (q.drop q.length)) by have := HCut.out; rwa [if_pos hcn] at this)
        subst hcn
        clear HCut
        go_wp2_with (first
            | (at_builtin; refine wpl_append rowByte rfl _ _ rfl (v := .slice C cn cc) rfl (HO2.out.alloc _) _ _ rfl (A := some ⟨wr.heap.size, 0, none⟩) (ys := [0, (q.length : Int)]) rfl (rd_two wr 0 (q.length : Int) _) (ok2 (by omega) (by omega)) (by simp; omega) (by simp; omega) ?_; intro v1 w1 ho1 hg1 hat1; have HO1 := Lib.hid ho1; have HG1 := Lib.hid (HG.out.trans ((Go1.ext (ext_alloc _ _) rfl).trans (Go1.app hg1 hat1))); obtain ⟨C1, cn1, cc1, rfl⟩ := ho1.shape3; clear ho1 hg1 hat1)
            | (at_builtin; refine wpl_append rowByte rfl _ _ rfl (v := .slice C1 cn1 cc1) rfl HO1.out _ _ rfl (ys := q.take q.length) (S := S) (by simp only [List.length_take]; omega) ((HRw.out _ HG1.out.g).head8 _ (by omega)) (fun x hx => HBq.out x (List.mem_of_mem_take hx)) (by simp only [List.length_append, List.length_take, List.length_cons, List.length_nil]; omega) (Nat.le_trans hb HG1.out.g.size) ?_; intro v2 w2 ho2 hg2 hat2; have HO3 := Lib.hid ho2; have HG2 := Lib.hid (HG1.out.trans (Go1.app hg2 hat2)); obtain ⟨C2, cn2, cc2, rfl⟩ := ho2.shape3; clear ho2 hg2 hat2))
        go_roundw
        case rel => exact ⟨q.drop q.length, _, some ⟨g, o, none⟩, q.length - q.length, by rw [List.length_drop]; omega, by simp, by rw [List.length_drop]; omega, by rw [HF.out, HSTEP.out]; (try simp only [List.append_assoc]); (try rfl), by simp only [List.length_append, List.length_take, List.length_drop, List.length_cons, List.length_nil]; omega, HBq.out.drop _, HC.out, HO3.out, HG2.out⟩
        case measure => simp [lenV] <;> omega
      · have HC := Lib.hid (show Rd w S 1 (some ⟨g, o + q.length, none⟩) (q.drop q.length).length (nums .u8 (q.drop q.length)) by have := HCut.out; rwa [if_neg hcn] at this)
        clear HCut
        go_wp2_with (first
            | (at_builtin; refine wpl_append rowByte rfl _ _ rfl (v := .slice C cn cc) rfl (HO2.out.alloc _) _ _ rfl (A := some ⟨wr.heap.size, 0, none⟩) (ys := [0, (q.length : Int)]) rfl (rd_two wr 0 (q.length : Int) _) (ok2 (by omega) (by omega)) (by simp; omega) (by simp; omega) ?_; intro v1 w1 ho1 hg1 hat1; have HO1 := Lib.hid ho1; have HG1 := Lib.hid (HG.out.trans ((Go1.ext (ext_alloc _ _) rfl).trans (Go1.app hg1 hat1))); obtain ⟨C1, cn1, cc1, rfl⟩ := ho1.shape3; clear ho1 hg1 hat1)
            | (at_builtin; refine wpl_append rowByte rfl _ _ rfl (v := .slice C1 cn1 cc1) rfl HO1.out _ _ rfl (ys := q.take q.length) (S := S) (by simp only [List.length_take]; omega) ((HRw.out _ HG1.out.g).head8 _ (by omega)) (fun x hx => HBq.out x (List.mem_of_mem_take hx)) (by simp only [List.length_append, List.length_take, List.length_cons, List.length_nil]; omega) (Nat.le_trans hb HG1.out.g.size) ?_; intro v2 w2 ho2 hg2 hat2; have HO3 := Lib.hid ho2; have HG2 := Lib.hid (HG1.out.trans (Go1.app hg2 hat2)); obtain ⟨C2, cn2, cc2, rfl⟩ := ho2.shape3; clear ho2 hg2 hat2))
        go_roundw
        case rel => exact ⟨q.drop q.length, _, some ⟨g, o + q.length, none⟩, c1 - q.length, by rw [List.length_drop]; omega, by simp, by rw [List.length_drop]; omega, by rw [HF.out, HSTEP.out]; (try simp only [List.append_assoc]); (try rfl), by simp only [List.length_append, List.length_take, List.length_drop, List.length_cons, List.length_nil]; omega, HBq.out.drop _, HC.out, HO3.out, HG2.out⟩
        case measure => simp [lenV] <;> omega
end Go.Proofs.Yteegnbdgfedajaa
