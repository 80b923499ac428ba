/- What the walk of the law FnExactClashOfName needs, part 2 of 8. No condition. -/
import Derived.Lib.ConvBytes
import Derived.Laws.BytesArg
import Derived.Deep.OwnRows
import Derived.Test.YtmndkbheehcoaaaPFnExactClashOfName1
/- Functions that are one key of bytes. No condition. -/
namespace Go.Proofs.Ytmndkbheehcoaaa
open Go.RowKit
set_option linter.unusedVariables false
set_option linter.unusedSimpArgs false

theorem rd_none (w : World) (S : Nat → Prop) : RdL tByte w S (.slice none 0 0) [] := ⟨none, 0, rfl, Nat.le_refl _, by simp, Rd.nil _ _ _ _, by simp⟩
theorem Own.empty' {α : Type} (T : Ty α) {g : Nat} {w : World} (hg : g = w.heap.size) (e base : Nat) (hb : base ≤ w.heap.size) : Own T e (w.alloc (.cells #[] e)) base (.slice (some ⟨g, 0, none⟩) 0 0) ([] : List α) := by
  subst hg
  exact Own.empty T w e base hb
/-- the key of the empty map -/
def emptyL : List Int := hashL 5 []
theorem emptyL_ok : K32 emptyL := hashL_ok _ _
set_option maxHeartbeats 1000000 in
set_option maxRecDepth 100000 in
theorem l04Empty_any (w : World) : Calls Try.prog 124 #[] w fun e w' => e = .returned (.agg (numsA .u8 emptyL)) ∧ Ext w w' := by
  have hk := emptyL_ok.1
  go_enter Try.func124, Try.ntmps124
  go_wp2_with fail
  refine (l01Hash_any 5 (by decide) _ [] _ _ (Own.empty' tByte (by simp) 5 0 (Nat.zero_le _)).rd (by simp)).mono ?_
  rintro e w1 ⟨rfl, hx⟩
  have HB := Lib.hid (((Blk.new w 27 _).alloc _).ext hx)
  have HX := Lib.hid (((ext_alloc w _).alloc _).trans hx)
  clear hx
  go_wp2_with (refine wpl_storeN HB.out aggKey hk rfl rfl _ _ rfl rfl rfl rfl ?_)
  refine bodyPost_ret (results_blk rfl _ rfl aggKey hk (HB.out.setRow _)) rfl ?_
  exact ⟨rfl, HX.out.setRow (Nat.le_refl _) _⟩

/-- functions whose whole result is one key -/
theorem ret_key {fn : Func} {c : Tmp} {t g : Nat} {xs : List Int} {w : World} {cur : Array Value} {P : Program} (hr : fn.results = #[.cell c t]) (tmps : Array Value) (hp : tmps.getD c undef = .pointer (some ⟨g, 0, none⟩)) (ht : Agg P t 32) (hn : xs.length = 32) (hb : Blk w g t cur) :
    (results fn tmps).run P (w.setRow g (numsA .u8 xs)) = .ok (.agg (numsA .u8 xs)) (w.setRow g (numsA .u8 xs)) := results_blk hr tmps hp ht hn (hb.setRow _)
set_option maxHeartbeats 1000000 in
set_option maxRecDepth 100000 in
theorem specEmptyMapKey_any (w : World) : Calls Try.prog 62 #[] w fun e w' => e = .returned (.agg (numsA .u8 emptyL)) ∧ Ext w w' := by
  have hk := emptyL_ok.1
  go_enter Try.func62, Try.ntmps62
  go_wp2_with fail
  refine (l04Empty_any _).mono ?_
  rintro e w1 ⟨rfl, hx⟩
  have HB := Lib.hid ((Blk.new w 27 _).ext hx)
  have HX := Lib.hid ((ext_alloc w _).trans hx)
  clear hx
  go_wp2_with (refine wpl_storeN HB.out aggKey hk rfl rfl _ _ rfl rfl rfl rfl ?_)
  refine bodyPost_ret (results_blk rfl _ rfl aggKey hk (HB.out.setRow _)) rfl ?_
  exact ⟨rfl, HX.out.setRow (Nat.le_refl _) _⟩
set_option maxHeartbeats 1000000 in
set_option maxRecDepth 100000 in
theorem implEmptyMapKey_any (w : World) : Calls Try.prog 40 #[] w fun e w' => e = .returned (.agg (numsA .u8 emptyL)) ∧ Ext w w' := by
  have hk := emptyL_ok.1
  go_enter Try.func40, Try.ntmps40
  go_wp2_with fail
  refine (hash_any 5 (by decide) _ [] _ _ (rd_none _ (fun _ => True)) (by simp)).mono ?_
  rintro e w1 ⟨rfl, hx⟩
  have HB := Lib.hid ((Blk.new w 27 _).ext hx)
  have HX := Lib.hid ((ext_alloc w _).trans hx)
  clear hx
  go_wp2_with (refine wpl_storeN HB.out aggKey hk rfl rfl _ _ rfl rfl rfl rfl ?_)
  refine bodyPost_ret (results_blk rfl _ rfl aggKey hk (HB.out.setRow _)) rfl ?_
  exact ⟨rfl, HX.out.setRow (Nat.le_refl _) _⟩

end Go.Proofs.Ytmndkbheehcoaaa
/- Names and valid entries. No condition. -/
namespace Go.Proofs.Ytmndkbheehcoaaa
open Go.RowKit
set_option linter.unusedVariables false
set_option linter.unusedSimpArgs false

/-- a text that is a name -/
@[irreducible] def nameB (s : ByteArray) : Bool := decide (1 ≤ (s.size : Int)) && decide ((s.size : Int) ≤ 24)
theorem nameB_eq (s : ByteArray) : nameB s = (decide (1 ≤ (s.size : Int)) && decide ((s.size : Int) ≤ 24)) := by rw [nameB]
set_option maxHeartbeats 1000000 in
set_option maxRecDepth 100000 in
theorem l04Name_any (s : ByteArray) (hs : s.size ≤ 140737488351232) (w : World) : Calls Try.prog 77 #[.string s] w fun e w' => e = .returned (.bool (nameB s)) ∧ w = w' := by
  have H := Lib.hid (nameB_eq s)
  go_enter Try.func77, Try.ntmps77
  go_wp2_with fail
  refine (l00In_any s.size 1 24 _).mono ?_
  rintro e w' ⟨rfl, rfl⟩
  rw [← H.out]
  go_wp2
  go_ret
  exact ⟨rfl, rfl⟩
set_option maxHeartbeats 1000000 in
set_option maxRecDepth 100000 in
theorem isName_any (s : ByteArray) (hs : s.size ≤ 140737488351232) (w : World) : Calls Try.prog 85 #[.string s] w fun e w' => e = .returned (.bool (nameB s)) ∧ w = w' := by
  have H := Lib.hid (nameB_eq s)
  go_enter Try.func85, Try.ntmps85
  go_wp2_with fail
  refine (within_any s.size 1 24 _).mono ?_
  rintro e w' ⟨rfl, rfl⟩
  rw [← H.out]
  go_wp2
  go_ret
  exact ⟨rfl, rfl⟩
/-- a valid entry -/
@[irreducible] def entB (n v : ByteArray) : Bool := nameB n && decide (v.size ≤ 64)
theorem entB_eq (n v : ByteArray) : entB n v = (nameB n && decide (v.size ≤ 64)) := by rw [entB]
theorem nameB_le {n : ByteArray} (h : nameB n = true) : 1 ≤ n.size ∧ n.size ≤ 24 := by
  rw [nameB_eq] at h
  simp at h
  omega
theorem entB_le {n v : ByteArray} (h : entB n v = true) : 1 ≤ n.size ∧ n.size ≤ 24 ∧ v.size ≤ 64 := by
  rw [entB_eq] at h
  simp at h
  have := nameB_le h.1
  omega
set_option maxHeartbeats 1000000 in
set_option maxRecDepth 100000 in
theorem l04Entry_any (n v : ByteArray) (hn : n.size ≤ 140737488351232) (hv : v.size ≤ 140737488351232) (g off : Nat) (w : World) (c0 : w.cell? ⟨g, off, none⟩ = some (.string n)) (c1 : w.cell? ⟨g, off + 1, none⟩ = some (.string v)) :
    Calls Try.prog 123 #[.pointer (some ⟨g, off, none⟩)] w fun e w' => e = .returned (.bool (entB n v)) ∧ w = w' := by
  rw [entB_eq]
  have hc := l04Name_any n hn
  cases hb : nameB n with
  | true =>
    simp only [hb] at hc
    clear hb
    go_enter Try.func123, Try.ntmps123
    go_wp2_with fail
    refine (hc _).mono ?_
    rintro e w' ⟨rfl, rfl⟩
    go_wp2
    go_ret
    exact ⟨ret_bool (by simp; omega), rfl⟩
  | false =>
    simp only [hb] at hc
    clear hb
    go_enter Try.func123, Try.ntmps123
    go_wp2_with fail
    refine (hc _).mono ?_
    rintro e w' ⟨rfl, rfl⟩
    go_wp2
    go_ret
    exact ⟨rfl, rfl⟩
set_option maxHeartbeats 1000000 in
set_option maxRecDepth 100000 in
theorem validEntry_any (n v : ByteArray) (hn : n.size ≤ 140737488351232) (hv : v.size ≤ 140737488351232) (w : World) :
    Calls Try.prog 70 #[.agg #[.string n, .string v]] w fun e w' => e = .returned (.bool (entB n v)) ∧ Ext w w' := by
  rw [entB_eq]
  have hc := isName_any n hn
  cases hb : nameB n with
  | true =>
    simp only [hb] at hc
    clear hb
    go_enter Try.func70, Try.ntmps70
    go_wp2_with fail
    refine (hc _).mono ?_
    rintro e w' ⟨rfl, rfl⟩
    go_wp2
    go_ret
    exact ⟨ret_bool (by simp; omega), ext_alloc _ _⟩
  | false =>
    simp only [hb] at hc
    clear hb
    go_enter Try.func70, Try.ntmps70
    go_wp2_with fail
    refine (hc _).mono ?_
    rintro e w' ⟨rfl, rfl⟩
    go_wp2
    go_ret
    exact ⟨rfl, ext_alloc _ _⟩


end Go.Proofs.Ytmndkbheehcoaaa
/- Texts and their bytes. No condition. -/
namespace Go.Proofs.Ytmndkbheehcoaaa
open Go.RowKit
set_option linter.unusedVariables false
set_option linter.unusedSimpArgs false

/-- the bytes of a text -/
@[irreducible] def strL (s : ByteArray) : List Int := s.data.toList.map fun b => (b.toNat : Int)
theorem strL_length (s : ByteArray) : (strL s).length = s.size := by unfold strL; simp
theorem strL_ok (s : ByteArray) : B8 (strL s) := by
  intro x hx
  unfold strL at hx
  obtain ⟨b, _, rfl⟩ := List.mem_map.1 hx
  have := b.toNat_lt
  omega
theorem strL_inj {s t : ByteArray} (h : strL s = strL t) : s = t := by
  unfold strL at h
  apply ByteArray.ext
  apply Array.toList_inj.1
  exact (List.map_inj_right (fun a b h => UInt8.toNat_inj.1 (Int.ofNat.inj h))).1 h
theorem strL_at (s : ByteArray) (i : Nat) (h : i < s.size) : gI (strL s) i = (s.data.toList.getD i 0).toNat := by
  rw [gI_lt (by rw [strL_length]; exact h)]
  unfold strL
  simp [List.getD, h]
theorem bytesWorld_ext (w : World) (e : TypeId) (s : ByteArray) : Ext w (Lib.bytesWorld w e s) :=
  ⟨rfl, rfl, rfl, by rw [Lib.bytesWorld_size]; omega, fun i hi => Lib.bytesWorld_at_old w e s i hi⟩
theorem bytesWorld_rd (w : World) (e : TypeId) (s : ByteArray) (hl : s.size ≤ 140737488351232) : RdL tByte (Lib.bytesWorld w e s) (fun g => w.heap.size ≤ g ∧ g < (Lib.bytesWorld w e s).heap.size) (.slice (some ⟨w.heap.size, 0, none⟩) s.size (grownCap w s.size 0 e)) (strL s) := by
  have hn := strL_length s
  refine ⟨_, _, by rw [hn], ?_, by omega, ⟨?_, fun _ => ⟨_, 0, rfl, ⟨Nat.le_refl _, by rw [Lib.bytesWorld_size]; omega⟩, fun j u hu => ?_⟩⟩, fun x hx => strL_ok s x hx⟩
  · rw [hn]; exact grownCap_ge w s.size 0 e
  · rw [flat_bytes, nums_length]; exact (Nat.mul_one _).symm
  · rw [flat_bytes] at hu
    have hj : j < s.size := by
      have := (List.getElem?_eq_some_iff.1 hu).1
      rwa [nums_length, hn] at this
    rw [nums_at _ _ _ (by rw [hn]; exact hj)] at hu
    rw [Nat.zero_add, Lib.bytesWorld_cell w e s j hj, ← hu, strL_at s j hj]
/-- the bytes of a text, in new memory -/
theorem wpl_conv {P : Program} {ops : Array Oper} {rest : List Oper} {o : Oper} {a : Act} {w : World} {Q : Exit → Act → World → Prop} {src dst e : TypeId} {s : ByteArray}
    (hs : P.underlying src = some .string) (hd : P.underlying dst = some (.slice e)) (he : P.underlying e = some (.int .u8)) (hgd : o.guard = none) (x : Operand) (ho : o.op = .convert src dst x) (hx : a.eval x = .string s) (hl : s.size ≤ 140737488351232)
    (h : ∀ A c w', RdL tByte w' (fun g => w.heap.size ≤ g ∧ g < w'.heap.size) (.slice A s.size c) (strL s) → Ext w w' → wpList P ops Q rest (a.put o.dst (.slice A s.size c)) w') : wpList P ops Q (o :: rest) a w := by
  refine wpList_plain hgd fun K hK => ?_
  unfold Oper.wp execOp
  simp only [ho, hx, Sem.run_bind, Sem.run_pure, Result.andThen_ok, Lib.run_convert_string_bytes w src dst e s hs hd he]
  exact hK _ _ (h _ _ _ (bytesWorld_rd w e s hl) (bytesWorld_ext w e s))

end Go.Proofs.Ytmndkbheehcoaaa
/- Names, and their priorities. No condition. -/
namespace Go.Proofs.Ytmndkbheehcoaaa
open Go.RowKit
set_option linter.unusedVariables false
set_option linter.unusedSimpArgs false

def prioL (s : ByteArray) : List Int := hashL 4 (strL s)
theorem prioL_ok (s : ByteArray) : K32 (prioL s) := hashL_ok _ _
theorem prioL_eq (s : ByteArray) : prioL s = hashL 4 (strL s) := rfl
attribute [irreducible] prioL
set_option maxHeartbeats 1000000 in
set_option maxRecDepth 100000 in
theorem l04Priority_any (s : ByteArray) (hs : s.size ≤ 1048576) (w : World) : Calls Try.prog 112 #[.string s] w fun e w' => e = .returned (.agg (numsA .u8 (prioL s))) ∧ Ext w w' := by
  have hk := (prioL_ok s).1
  go_enter Try.func112, Try.ntmps112
  go_wp2_with (refine wpl_conv Try.underlying9 Try.underlying56 Try.underlying5 rfl _ rfl rfl (by omega) ?_; intro A1 c1 w1 hr hx; have HR := Lib.hid hr; have HX := Lib.hid hx; clear hr hx)
  refine (l01Hash_any 4 (by decide) _ (strL s) _ _ HR.out (by rw [strL_length]; omega)).mono ?_
  rw [← prioL_eq]
  rintro e w2 ⟨rfl, hx⟩
  have HB := Lib.hid (((Blk.new w 27 _).ext HX.out).ext hx)
  have HX2 := Lib.hid (((ext_alloc w _).trans HX.out).trans hx)
  clear hx
  go_wp2_with (refine wpl_storeN HB.out aggKey hk rfl rfl _ _ rfl rfl rfl rfl ?_)
  refine bodyPost_ret (results_blk rfl _ rfl aggKey hk (HB.out.setRow _)) rfl ?_
  exact ⟨rfl, HX2.out.setRow (Nat.le_refl _) _⟩
/-- the priority and the code -/
def prioR (s : ByteArray) : List Int × Int := if nameB s then (prioL s, 0) else (List.replicate 32 0, 1)
theorem zero_ok : K32 (List.replicate 32 0) := ⟨by simp, replicate_ok _⟩
theorem prioR_ok (s : ByteArray) : K32 (prioR s).1 := by unfold prioR; split; exact prioL_ok s; exact zero_ok
set_option maxHeartbeats 1000000 in
set_option maxRecDepth 100000 in
theorem specPriorityOf_any (s : ByteArray) (hs : s.size ≤ 1048576) (w : World) : Calls Try.prog 51 #[.string s] w fun e w' => e = .returned (.tuple #[.agg (numsA .u8 (prioR s).1), .int .i64 (prioR s).2]) ∧ Ext w w' := by
  have hk := (prioL_ok s).1
  have hn := l04Name_any s (by omega)
  cases hb : nameB s with
  | true =>
    simp only [hb] at hn
    simp only [prioR, hb, if_true]
    clear hb
    go_enter Try.func51, Try.ntmps51
    go_wp2_with fail
    refine (hn _).mono ?_
    rintro e w' ⟨rfl, rfl⟩
    go_wp2_with fail
    refine (l04Priority_any s hs _).mono ?_
    rintro e w1 ⟨rfl, hx⟩
    have HB := Lib.hid ((Blk.new w 27 _).ext hx)
    have HX := Lib.hid ((ext_alloc w _).trans hx)
    clear hx
    go_wp2_with (refine wpl_storeN HB.out aggKey hk rfl rfl _ _ rfl rfl rfl rfl ?_)
    refine bodyPost_ret (results_blk2 rfl _ rfl aggKey hk (HB.out.setRow _) rfl) rfl ?_
    exact ⟨rfl, HX.out.setRow (Nat.le_refl _) _⟩
  | false =>
    simp only [hb] at hn
    simp only [prioR, hb, Bool.false_eq_true, if_false]
    clear hb
    go_enter Try.func51, Try.ntmps51
    go_wp2_with fail
    refine (hn _).mono ?_
    rintro e w' ⟨rfl, rfl⟩
    go_wp2_with (refine wpl_storeNew (xs := List.replicate 32 0) aggKey rfl rfl rfl _ _ rfl rfl rfl rfl ?_)
    refine bodyPost_ret (results_blk2 rfl _ rfl aggKey rfl (Blk.new w _ _) rfl) rfl ?_
    exact ⟨rfl, ext_alloc _ _⟩
set_option maxHeartbeats 1000000 in
set_option maxRecDepth 100000 in
theorem implPriorityOf_any (s : ByteArray) (hs : s.size ≤ 1048576) (w : World) : Calls Try.prog 42 #[.string s] w fun e w' => e = .returned (.tuple #[.agg (numsA .u8 (prioR s).1), .int .i64 (prioR s).2]) ∧ Ext w w' := by
  have hk := (prioL_ok s).1
  have hn := isName_any s (by omega)
  cases hb : nameB s with
  | true =>
    simp only [hb] at hn
    simp only [prioR, hb, if_true]
    clear hb
    go_enter Try.func42, Try.ntmps42
    go_wp2_with fail
    refine (hn _).mono ?_
    rintro e w' ⟨rfl, rfl⟩
    go_wp2_with (refine wpl_conv Try.underlying9 Try.underlying56 Try.underlying5 rfl _ rfl rfl (by omega) ?_; intro A1 c1 w1 hr hx; have HR := Lib.hid hr; have HX := Lib.hid hx; clear hr hx)
    refine (hash_any 4 (by decide) _ (strL s) _ _ HR.out (by rw [strL_length]; omega)).mono ?_
    rw [← prioL_eq]
    rintro e w2 ⟨rfl, hx⟩
    have HB := Lib.hid (((Blk.new w 27 _).ext HX.out).ext hx)
    have HX2 := Lib.hid (((ext_alloc w _).trans HX.out).trans hx)
    clear hx
    go_wp2_with (refine wpl_storeN HB.out aggKey hk rfl rfl _ _ rfl rfl rfl rfl ?_)
    refine bodyPost_ret (results_blk2 rfl _ rfl aggKey hk (HB.out.setRow _) rfl) rfl ?_
    exact ⟨rfl, HX2.out.setRow (Nat.le_refl _) _⟩
  | false =>
    simp only [hb] at hn
    simp only [prioR, hb, Bool.false_eq_true, if_false]
    clear hb
    go_enter Try.func42, Try.ntmps42
    go_wp2_with fail
    refine (hn _).mono ?_
    rintro e w' ⟨rfl, rfl⟩
    go_wp2_with (refine wpl_storeNew (xs := List.replicate 32 0) aggKey rfl rfl rfl _ _ rfl rfl rfl rfl ?_)
    refine bodyPost_ret (results_blk2 rfl _ rfl aggKey rfl (Blk.new w _ _) rfl) rfl ?_
    exact ⟨rfl, ext_alloc _ _⟩

end Go.Proofs.Ytmndkbheehcoaaa
/- Keys and entries: copied, counted. No condition. -/
namespace Go.Proofs.Ytmndkbheehcoaaa
open Go.RowKit
set_option linter.unusedVariables false
set_option linter.unusedSimpArgs false

section
variable {P : Program} {ops : Array Oper} {rest : List Oper} {o : Oper} {a : Act} {w : World} {Q : Exit → Act → World → Prop}
/-- a part of a variable is loaded -/
theorem wpl_loadP {t g e n off : Nat} {cs sub : Array Value} (hb : Blk w g e cs) (ht : Agg P t n) (hn : sub.size = n) (hp : ∀ j u, sub[j]? = some u → cs[off + j]? = some u) (hgd : o.guard = none) (x : Operand) (ho : o.op = .load t x) (hx : a.eval x = .pointer (some ⟨g, off, none⟩))
    (h : wpList P ops Q rest (a.put o.dst (.agg sub)) w) : wpList P ops Q (o :: rest) a w := by
  have h2 := wpl_load (P := P) (ops := ops) (rest := rest) (o := o) (a := a) (w := w) (Q := Q) (t := t) ⟨g, off, none⟩ sub.toList (by simpa [hn] using ht) hgd x ho hx (fun j u hu => by
    rw [Addr.add_lit, hb.cell]
    exact hp j u (by simpa using hu)) (by simpa using h)
  exact h2
/-- a part of a variable is written -/
theorem wpl_storeP {t g e n off : Nat} {cs cur : Array Value} (hb : Blk w g e cur) (ht : Agg P t n) (hs : St n cs) (hl : off + n ≤ cur.size) (hgd : o.guard = none) (x y : Operand) (ho : o.op = .store t x y) (hx : a.eval x = .pointer (some ⟨g, off, none⟩))
    (hy : a.eval y = .agg cs) (hd : o.dst = none) (h : wpList P ops Q rest a (w.setRow g (splice cur off cs.toList))) : wpList P ops Q (o :: rest) a w := by
  refine wpl_store g off e cur cs.toList (by rw [Array.length_toList, hs.size]; exact ht.2) hgd x y ho hx (by rw [hy]; simp [Value.cells]) hb (by rw [Array.length_toList, hs.size]; omega) hs.one hd ?_
  simpa using h
end
theorem aggB32K : Agg Try.prog 26 32 := aggB32
set_option maxHeartbeats 1000000 in
set_option maxRecDepth 100000 in
theorem toKey_any (a : List Int) (ha : K32 a) (w : World) :
    Calls Try.prog 22 #[.agg (numsA .u8 a)] w fun e w' => e = .returned (.agg (numsA .u8 a)) ∧ Ext w w' := by
  have HA := Lib.hid ha.1
  go_enter Try.func22, Try.ntmps22
  go_wp2
  go_loopw [4] (fun i wr => ∃ k : Nat, k ≤ 32 ∧ i = .int .i64 k ∧ Blk wr w.heap.size 26 (numsA .u8 a) ∧ (∃ z, Blk wr (w.heap.size + 1) 27 z ∧ z.size = 32) ∧ (∃ ys, Blk wr (w.heap.size + 2) 27 (numsA .u8 ys) ∧ ys.length = 32 ∧ ys.take k = a.take k) ∧ Ext w wr)
    (fun i _ => 32 - (intOf i).toNat)
  case atStart => exact ⟨0, by omega, rfl, ((Blk.new w _ _).alloc _).alloc _, ⟨_, (Blk.new' (by simp) _ _).alloc _, rfl⟩, ⟨List.replicate 32 0, by rw [← zero32]; exact Blk.new' (by simp) _ _, by simp, by simp⟩, ((ext_alloc _ _).alloc _).alloc _⟩
  case round =>
    obtain ⟨k, hk, rfl, h1, ⟨z, h2, hz⟩, ⟨ys, h3, hyl, hyt⟩, hx⟩ := hrel
    have HX := Lib.hid hx
    have H1 := Lib.hid h1
    have H2 := Lib.hid h2
    have H3 := Lib.hid h3
    have HYL := Lib.hid hyl
    have HYT := Lib.hid hyt
    have HZ := Lib.hid hz
    clear h1 h2 h3 hx hyl hyt hz
    by_cases hlt : k < 32
    · have hd := H1.out.num k (by rw [HA.out]; exact hlt)
      have hd2 := H3.out.num k (by rw [HYL.out]; exact hlt)
      have hf := H3.out.free k
      go_wp2
      go_roundw
      case rel => exact ⟨k + 1, by omega, by go_num, H1.out.far (by simp <;> omega) _, ⟨z, H2.out.far (by simp <;> omega) _, HZ.out⟩, ⟨ys.set k (gI a k), by rw [← numsA_set]; exact H3.out.set k _, by simp [HYL.out], set_take_step (by rw [HA.out]; exact hlt) (by rw [HYL.out, HA.out]) HYT.out⟩, HX.out.set (by simp <;> omega) _⟩
      case measure => simp [intOf]; omega
    · obtain rfl : k = 32 := by omega
      have e := HYT.out
      rw [List.take_of_length_le (by rw [HYL.out]; omega), List.take_of_length_le (by rw [HA.out]; omega)] at e
      subst e
      have hn := sizeN (k := .u8) HA.out
      have hs : St 32 (numsA .u8 ys) := St.nums HA.out
      have HS := Lib.hid hs
      have hzz := HZ.out
      clear hs
      go_wp2_with (first | (refine wpl_loadB H3.out aggKey hn rfl _ rfl rfl ?_) | (refine wpl_storeB H2.out aggKey HS.out hzz rfl _ _ rfl rfl rfl rfl ?_))
      refine bodyPost_ret (results_blk rfl _ rfl aggKey HA.out (H2.out.setRow _)) rfl ?_
      exact ⟨rfl, HX.out.setRow (by simp) _⟩
set_option maxHeartbeats 1000000 in
set_option maxRecDepth 100000 in
theorem toEntry_any (n v : ByteArray) (w : World) :
    Calls Try.prog 83 #[.agg #[.string n, .string v]] w fun e w' => e = .returned (.agg #[.string n, .string v]) ∧ Ext w w' := by
  go_enter Try.func83, Try.ntmps83
  go_wp2
  refine bodyPost_ret (v := .agg #[.string n, .string v]) (by simp [results, Try.results83, go_sem]) rfl ?_
  exact ⟨rfl, ((ext_alloc w _).alloc _).alloc _⟩
set_option maxHeartbeats 1000000 in
set_option maxRecDepth 100000 in
theorem szEntry_any (n v : ByteArray) (hn : n.size ≤ 140737488351232) (hv : v.size ≤ 140737488351232) (l : Int) (h0 : -1 ≤ l) (h1 : l ≤ 1048576) (w : World) :
    Calls Try.prog 74 #[.agg #[.string n, .string v], .int .i64 l] w fun e w' => e = .returned (.int .i64 (if l - n.size - v.size < 0 then -1 else l - n.size - v.size)) ∧ Ext w w' := by
  by_cases h2 : l - (n.size : Int) < 0
  · rw [if_pos (by omega)]
    go_enter Try.func74, Try.ntmps74
    go_wp2
    go_ret
    exact ⟨rfl, ext_alloc _ _⟩
  · by_cases h3 : l - (n.size : Int) - (v.size : Int) < 0
    · rw [if_pos (by omega)]
      go_enter Try.func74, Try.ntmps74
      go_wp2
      go_ret
      exact ⟨rfl, ext_alloc _ _⟩
    · rw [if_neg (by omega)]
      go_enter Try.func74, Try.ntmps74
      go_wp2
      go_ret
      exact ⟨rfl, ext_alloc _ _⟩

end Go.Proofs.Ytmndkbheehcoaaa
/- A struct that is filled field by field. No condition. -/
namespace Go.Proofs.Ytmndkbheehcoaaa
open Go.RowKit
set_option linter.unusedVariables false
set_option linter.unusedSimpArgs false

/-- block g holds the cells A, and m more -/
def Fill (w : World) (g e : Nat) (A : List Value) (m : Nat) : Prop := ∃ R, R.length = m ∧ Blk w g e (A ++ R).toArray
section
variable {w w' : World} {g e m : Nat} {A : List Value}
theorem Fill.ext (h : Fill w g e A m) (x : Ext w w') : Fill w' g e A m := by
  obtain ⟨R, h1, h2⟩ := h
  exact ⟨R, h1, h2.ext x⟩
theorem Fill.start {Z : Array Value} (h : Blk w g e Z) : Fill w g e [] Z.size := ⟨Z.toList, by simp, by simpa using h⟩
theorem Fill.start' {Z : Array Value} {n : Nat} (h : Blk w g e Z) (hn : Z.size = n) : Fill w g e [] n := hn ▸ Fill.start h
theorem Fill.done (h : Fill w g e A 0) : Blk w g e A.toArray := by
  obtain ⟨R, h1, h2⟩ := h
  obtain rfl : R = [] := List.eq_nil_of_length_eq_zero h1
  simpa using h2
theorem Fill.cell (h : Fill w g e A (m + 1)) {off : Nat} (ho : A.length = off) : (∃ u, w.cell? ⟨g, off, none⟩ = some u) ∧ w.frozen? ⟨g, off, none⟩ = false := by
  obtain ⟨R, h1, h2⟩ := h
  refine ⟨?_, h2.free off⟩
  rw [h2.cell]
  have : off < (A ++ R).toArray.size := by simp; omega
  exact ⟨_, Array.getElem?_eq_getElem this⟩
theorem Fill.one (h : Fill w g e A (m + 1)) {off : Nat} (ho : A.length = off) (v : Value) : Fill (w.setCell ⟨g, off, none⟩ v) g e (A ++ [v]) m := by
  obtain ⟨R, h1, h2⟩ := h
  match R, h1 with
  | r :: R', h1 =>
    refine ⟨R', by simpa using h1, ?_⟩
    have := h2.set off v
    subst ho
    simpa using this
theorem Fill.far (h : Fill w g e A m) {p : Addr} (hp : g ≠ p.block) (u : Value) : Fill (w.setCell p u) g e A m := by
  obtain ⟨R, h1, h2⟩ := h
  exact ⟨R, h1, h2.far hp u⟩
end
theorem splice_next (A R vs : List Value) {o : Nat} (h : A.length = o) : splice (A ++ R).toArray o vs = (A ++ vs ++ R.drop vs.length).toArray := by
  subst h
  unfold splice
  congr 1
  rw [List.take_left', List.drop_append, List.drop_eq_nil_of_le (by omega), List.nil_append, show A.length + vs.length - A.length = vs.length by omega]
  rfl
/-- the next cells are written, all at once -/
theorem wpl_fill {P : Program} {ops : Array Oper} {rest : List Oper} {o : Oper} {a : Act} {w : World} {Q : Exit → Act → World → Prop} {t g e n m off : Nat} {cs : Array Value} {A : List Value} (hb : Fill w g e A (n + m)) (hA : A.length = off) (ht : Agg P t n) (hs : St n cs) (hgd : o.guard = none) (x y : Operand) (ho : o.op = .store t x y) (hx : a.eval x = .pointer (some ⟨g, off, none⟩))
    (hy : a.eval y = .agg cs) (hd : o.dst = none) (h : ∀ row, Fill (w.setRow g row) g e (A ++ cs.toList) m → wpList P ops Q rest a (w.setRow g row)) : wpList P ops Q (o :: rest) a w := by
  obtain ⟨R, h1, h2⟩ := hb
  have hl : cs.toList.length = n := by rw [Array.length_toList, hs.size]
  refine wpl_storeP h2 ht hs (by simp; omega) hgd x y ho hx hy hd (h _ ⟨R.drop n, by rw [List.length_drop]; omega, ?_⟩)
  have := h2.setRow (splice (A ++ R).toArray off cs.toList)
  rw [splice_next A R _ hA, hl] at this
  rw [splice_next A R _ hA, hl]
  exact this

/-- a whole variable is the result -/
theorem results_blkB {P : Program} {w : World} {fn : Func} {c : Tmp} {t g e n : Nat} {cs : Array Value} (hr : fn.results = #[.cell c t]) (tmps : Array Value) (hp : tmps.getD c undef = .pointer (some ⟨g, 0, none⟩)) (ht : Agg P t n) (hn : cs.size = n) (hb : Blk w g e cs) :
    (results fn tmps).run P w = .ok (.agg cs) w := by
  have hl := run_loadB (P := P) hb ht hn
  have hp' : tmps[c]?.getD undef = .pointer (some ⟨g, 0, none⟩) := by simpa using hp
  simp [results, hr, hp', asAddr, hl]
/-- a whole variable and a number are the results -/
theorem results_blkB2 {P : Program} {w : World} {fn : Func} {c d : Tmp} {t g e n : Nat} {cs : Array Value} (hr : fn.results = #[.cell c t, .tmp d]) (tmps : Array Value) (hp : tmps.getD c undef = .pointer (some ⟨g, 0, none⟩)) (ht : Agg P t n) (hn : cs.size = n) (hb : Blk w g e cs) {v : Value} (hv : tmps.getD d undef = v) :
    (results fn tmps).run P w = .ok (.tuple #[.agg cs, v]) w := by
  have hl := run_loadB (P := P) hb ht hn
  have hp' : tmps[c]?.getD undef = .pointer (some ⟨g, 0, none⟩) := by simpa using hp
  have hv' : tmps[d]?.getD undef = v := by simpa using hv
  simp [results, hr, hp', hv', asAddr, hl]

/-! ### nodes -/
structure Nd where
  l : List Int
  r : List Int
  n : ByteArray
  v : ByteArray
def Nd.enc (x : Nd) : List Value := nums .u8 x.l ++ nums .u8 x.r ++ [.string x.n, .string x.v]
def Nd.ok (x : Nd) : Prop := K32 x.l ∧ K32 x.r ∧ x.n.size ≤ 140737488351232 ∧ x.v.size ≤ 140737488351232
theorem Nd.enc_length {x : Nd} (h : x.ok) : x.enc.length = 66 := by simp [Nd.enc, nums_length, h.1.1, h.2.1.1]
theorem Nd.enc_one (x : Nd) : ∀ u ∈ x.enc, u.oneCell' = true := by
  intro u hu
  unfold Nd.enc at hu
  rcases List.mem_append.1 hu with hu | hu
  · rcases List.mem_append.1 hu with hu | hu
    · exact one_nums _ _ u hu
    · exact one_nums _ _ u hu
  · simp at hu; rcases hu with rfl | rfl <;> rfl
def tNode : Ty Nd := ⟨66, Nd.enc, Nd.ok, fun x h => Nd.enc_length h, Nd.enc_one⟩
theorem Nd.left {x : Nd} (h : x.ok) (j : Nat) (u : Value) (hu : (numsA .u8 x.l)[j]? = some u) : x.enc.toArray[0 + j]? = some u := by
  have hj : j < x.l.length := by have := (Array.getElem?_eq_some_iff.1 hu).1; simpa [numsA, nums] using this
  rw [Nat.zero_add, List.getElem?_toArray, Nd.enc, List.append_assoc, List.getElem?_append_left (by rw [nums_length]; exact hj)]
  simpa [numsA] using hu
theorem Nd.right {x : Nd} (h : x.ok) (j : Nat) (u : Value) (hu : (numsA .u8 x.r)[j]? = some u) : x.enc.toArray[32 + j]? = some u := by
  have hj : j < x.r.length := by have := (Array.getElem?_eq_some_iff.1 hu).1; simpa [numsA, nums] using this
  have hl := h.1.1
  rw [List.getElem?_toArray, Nd.enc, List.append_assoc, List.getElem?_append_right (by rw [nums_length]; omega), nums_length, hl, show 32 + j - 32 = j by omega, List.getElem?_append_left (by rw [nums_length]; exact hj)]
  simpa [numsA] using hu
theorem Nd.ent {x : Nd} (h : x.ok) (j : Nat) (u : Value) (hu : (#[Value.string x.n, Value.string x.v] : Array Value)[j]? = some u) : x.enc.toArray[64 + j]? = some u := by
  have hl := h.1.1
  have hr := h.2.1.1
  rw [List.getElem?_toArray, Nd.enc, List.getElem?_append_right (by simp [nums_length]; omega)]
  simp only [List.length_append, nums_length, hl, hr]
  rw [show 64 + j - (32 + 32) = j by omega]
  simpa using hu
theorem Nd.at64 {x : Nd} (h : x.ok) : x.enc.toArray[64]? = some (.string x.n) := Nd.ent h 0 _ rfl
theorem Nd.at65 {x : Nd} (h : x.ok) : x.enc.toArray[65]? = some (.string x.v) := Nd.ent h 1 _ rfl
theorem Nd.st {x : Nd} (h : x.ok) : St 66 x.enc.toArray := ⟨by simpa using Nd.enc_length h, by simpa using Nd.enc_one x⟩
theorem stEnt (n v : ByteArray) : St 2 #[Value.string n, Value.string v] := ⟨rfl, fun u hu => by simp at hu; rcases hu with rfl | rfl <;> rfl⟩
theorem aggNodeL : Agg Try.prog 96 66 := Agg.mkS (fs := _) Try.underlying96 (by kernel_rfl)
theorem aggNodeI : Agg Try.prog 31 66 := Agg.mkS (fs := _) Try.underlying31 (by kernel_rfl)
theorem aggEntryL : Agg Try.prog 93 2 := Agg.mkS (fs := _) Try.underlying93 (by kernel_rfl)
theorem aggEntryI : Agg Try.prog 29 2 := Agg.mkS (fs := _) Try.underlying29 (by kernel_rfl)
set_option maxHeartbeats 1000000 in
set_option maxRecDepth 100000 in
theorem toMapNode_any (x : Nd) (hok : x.ok) (w : World) :
    Calls Try.prog 84 #[.agg x.enc.toArray] w fun e w' => e = .returned (.agg x.enc.toArray) ∧ Ext w w' := by
  have HL := Lib.hid (sizeN (k := .u8) hok.1.1)
  have HR := Lib.hid (sizeN (k := .u8) hok.2.1.1)
  go_enter Try.func84, Try.ntmps84
  go_wp2_with (refine wpl_loadP (off := 0) (sub := numsA .u8 x.l) (((Blk.new w _ _).alloc _).alloc _) aggB32 HL.out (Nd.left hok) rfl _ rfl rfl ?_)
  refine (toKey_any x.l hok.1 _).mono ?_
  rintro e w1 ⟨rfl, hx⟩
  have B0 := Lib.hid ((((Blk.new w 96 x.enc.toArray).alloc _).alloc _).ext hx)
  have B1 := Lib.hid (((Blk.new' (g := w.heap.size + 1) (w := w.alloc _) (by simp) 31 _).alloc _).ext hx)
  have F0 := Lib.hid (Fill.start' ((Blk.new' (g := w.heap.size + 2) (w := (w.alloc _).alloc _) (by simp) 31 _).ext hx) (n := 66) rfl)
  have XW := Lib.hid ((((ext_alloc w _).alloc _).alloc _).trans hx)
  clear hx
  have SL : St 32 (numsA .u8 x.l) := St.nums hok.1.1
  have HSL := Lib.hid SL
  have SR : St 32 (numsA .u8 x.r) := St.nums hok.2.1.1
  have HSR := Lib.hid SR
  clear SL SR
  go_wp2_with (first | (refine wpl_fill (n := 32) (m := 34) F0.out rfl aggKey HSL.out rfl _ _ rfl rfl rfl rfl ?_; intro row hF; have F1 := Lib.hid hF; clear hF) | (refine wpl_loadP (off := 32) (sub := numsA .u8 x.r) (B0.out.row_far (by omega) _) aggB32 HR.out (Nd.right hok) rfl _ rfl rfl ?_))
  refine (toKey_any x.r hok.2.1 _).mono ?_
  rintro e w2 ⟨rfl, hx⟩
  replace B0 := Lib.hid ((B0.out.row_far (by omega) _).ext hx)
  replace B1 := Lib.hid ((B1.out.row_far (by omega) _).ext hx)
  have F2 := Lib.hid (F1.out.ext hx)
  replace XW := Lib.hid ((XW.out.setRow (by omega) _).trans hx)
  clear hx F0 F1
  go_wp2_with (first | (refine wpl_fill (n := 32) (m := 2) F2.out (by simp [numsA, nums_length, hok.1.1]) aggKey HSR.out rfl _ _ rfl rfl rfl rfl ?_; intro row hF; have F3 := Lib.hid hF; clear hF) | (refine wpl_loadP (off := 64) (sub := #[.string x.n, .string x.v]) (B0.out.row_far (by omega) _) aggEntryL rfl (Nd.ent hok) rfl _ rfl rfl ?_))
  refine (toEntry_any x.n x.v _).mono ?_
  rintro e w3 ⟨rfl, hx⟩
  replace B1 := Lib.hid ((B1.out.row_far (by omega) _).ext hx)
  have F4 := Lib.hid (F3.out.ext hx)
  replace XW := Lib.hid ((XW.out.setRow (by omega) _).trans hx)
  clear hx F2 F3 B0
  have hst := Lib.hid (Nd.st hok)
  have hsz := (Nd.st hok).size
  have hcs : (List.append (List.append [] (numsA .u8 x.l).toList ++ (numsA .u8 x.r).toList) [Value.string x.n, Value.string x.v]) = x.enc := by simp [Nd.enc, numsA]
  go_wp2_with (first
    | (refine wpl_fill (n := 2) (m := 0) F4.out (by simp [numsA, nums_length, hok.1.1, hok.2.1.1]) aggEntryI (stEnt _ _) rfl _ _ rfl rfl rfl rfl ?_; intro row hF; have F5 := Lib.hid (show Blk _ _ _ x.enc.toArray by have := hF.done; simpa [Nd.enc, numsA] using this); clear hF)
    | (refine wpl_loadB F5.out aggNodeI hsz rfl _ rfl rfl ?_)
    | (refine wpl_storeB (B1.out.row_far (by omega) _) aggNodeI hst.out rfl rfl _ _ rfl rfl rfl rfl ?_))
  refine bodyPost_ret (results_blkB rfl _ rfl aggNodeI hsz ((B1.out.row_far (by omega) _).setRow _)) rfl ?_
  exact ⟨rfl, (XW.out.setRow (by omega) _).setRow (by omega) _⟩
/-- the cells of a node, in the laws' words -/
def RMapNode (w : World) (S : Nat → Prop) (cs : Array Value) (x : Nd) : Prop := cs = x.enc.toArray ∧ x.ok
theorem RMapNode.ext {w w' : World} {S : Nat → Prop} {cs : Array Value} {x : Nd} (h : RMapNode w S cs x) (e : Ext w w') : RMapNode w' S cs x := h
theorem RMapNode.st {w : World} {S : Nat → Prop} {cs : Array Value} {x : Nd} (h : RMapNode w S cs x) : St 66 cs := by
  obtain ⟨rfl, h⟩ := h
  exact Nd.st h
theorem toMapNode_u (cs : Array Value) (x : Nd) (w : World) (S : Nat → Prop) (h : RMapNode w S cs x) :
    Calls Try.prog 84 #[.agg cs] w fun e w' => ∃ cs', e = .returned (.agg cs') ∧ RMapNode w' (fun g => w.heap.size ≤ g ∧ g < w'.heap.size) cs' x ∧ Ext w w' := by
  obtain ⟨rfl, h⟩ := h
  refine (toMapNode_any x h w).mono ?_
  rintro e w' ⟨rfl, hx⟩
  exact ⟨_, rfl, ⟨rfl, h⟩, hx⟩
set_option maxHeartbeats 1000000 in
set_option maxRecDepth 100000 in
theorem szMapNode_u (cs : Array Value) (x : Nd) (l : Int) (w : World) (S : Nat → Prop) (h : RMapNode w S cs x) (h0 : -1 ≤ l) (h1 : l ≤ 1048576) :
    Calls Try.prog 75 #[.agg cs, .int .i64 l] w fun e w' => e = .returned (.int .i64 (if l - (x.n.size + x.v.size : Nat) < 0 then -1 else l - (x.n.size + x.v.size : Nat))) ∧ Ext w w' := by
  obtain ⟨rfl, hok⟩ := h
  have hc := fun W => szEntry_any x.n x.v hok.2.2.1 hok.2.2.2 l h0 h1 W
  have e : l - ((x.n.size + x.v.size : Nat) : Int) = l - x.n.size - x.v.size := by omega
  rw [e]
  have hnn : 0 ≤ x.n.size := by omega
  clear e
  by_cases hz : l - (x.n.size : Int) - x.v.size < 0
  · simp only [if_pos hz] at hc ⊢
    go_enter Try.func75, Try.ntmps75
    go_wp2_with (refine wpl_loadP (off := 64) (sub := #[.string x.n, .string x.v]) (Blk.new w _ _) aggEntryL rfl (Nd.ent hok) rfl _ rfl rfl ?_)
    refine (hc _).mono ?_
    rintro e w1 ⟨rfl, hx⟩
    have XW := Lib.hid ((ext_alloc w _).trans hx)
    clear hx
    go_wp2
    go_ret
    exact ⟨rfl, XW.out⟩
  · simp only [if_neg hz] at hc ⊢
    go_enter Try.func75, Try.ntmps75
    go_wp2_with (refine wpl_loadP (off := 64) (sub := #[.string x.n, .string x.v]) (Blk.new w _ _) aggEntryL rfl (Nd.ent hok) rfl _ rfl rfl ?_)
    refine (hc _).mono ?_
    rintro e w1 ⟨rfl, hx⟩
    have XW := Lib.hid ((ext_alloc w _).trans hx)
    clear hx
    go_wp2
    go_ret
    exact ⟨rfl, XW.out⟩
end Go.Proofs.Ytmndkbheehcoaaa
/- The bytes and the key of a node. No condition. -/
namespace Go.Proofs.Ytmndkbheehcoaaa
open Go.RowKit
set_option linter.unusedVariables false
set_option linter.unusedSimpArgs false

theorem rd_of {w : World} {S : Nat → Prop} {A : Option Addr} {n c : Nat} {xs : List Int} (h : RdL tByte w S (.slice A n c) xs) : Rd w S tByte.sz A xs.length (xs.flatMap tByte.enc) ∧ (∀ y ∈ xs, tByte.ok y) ∧ n = xs.length := by
  obtain ⟨A2, cap2, e, _, _, h1, h2⟩ := h
  injection e with e1 e2 e3
  subst e1
  exact ⟨h1, h2, e2⟩
/-- the bytes of a node -/
@[irreducible] def nodeL (x : Nd) : List Int := x.l ++ x.r ++ [(x.n.size : Int) % 256] ++ strL x.n ++ strL x.v
theorem nodeL_eq (x : Nd) : nodeL x = x.l ++ x.r ++ [(x.n.size : Int) % 256] ++ strL x.n ++ strL x.v := by rw [nodeL]
theorem nodeL_length {x : Nd} (h : x.ok) : (nodeL x).length = 65 + x.n.size + x.v.size := by
  rw [nodeL]; simp only [List.length_append, strL_length, h.1.1, h.2.1.1, List.length_cons, List.length_nil]
set_option maxHeartbeats 1000000 in
set_option maxRecDepth 100000 in
theorem l04Bytes_any (x : Nd) (hok : x.ok) (he : entB x.n x.v = true) (b : Nat) (w : World) (hb : Blk w b 31 x.enc.toArray) :
    Calls Try.prog 141 #[.pointer (some ⟨b, 0, none⟩)] w fun e w' => ∃ v', e = .returned v' ∧ Own tByte 5 w' w.heap.size v' (nodeL x) ∧ Ext w w' := by
  obtain ⟨hn1, hn2, hv⟩ := entB_le he
  have HB := Lib.hid hb
  have HL := Lib.hid hok.1.1
  have HR := Lib.hid hok.2.1.1
  have HLb := Lib.hid hok.1.2
  have HRb := Lib.hid hok.2.1.2
  have HO := Lib.hid hok
  clear hb hok he
  go_enter Try.func141, Try.ntmps141
  go_wp2_with fail
  go_loopw [3, 4] (fun o i wr => ∃ k : Nat, k ≤ 32 ∧ i = .int .i64 k ∧ Own tByte 5 wr w.heap.size o (x.l.take k) ∧ Ext w wr) (fun _ i _ => 32 - (intOf i).toNat)
  case atStart => exact ⟨0, by omega, rfl, by rw [List.take_zero]; exact Own.empty' tByte rfl _ _ (Nat.le_refl _), ext_alloc _ _⟩
  case round =>
    obtain ⟨k, hk, rfl, ho, hx⟩ := hrel
    have HO1 := Lib.hid ho
    have HX := Lib.hid hx
    obtain ⟨C, cn, cc, rfl⟩ := ho.shape3
    clear ho hx
    by_cases hlt : k < 32
    · have hd : wr.cell? ⟨b, k, none⟩ = some (.int .u8 (gI x.l k)) := by
        have := (HB.out.ext HX.out).at_ (0 + k) (Nd.left HO.out k _ (numsA_at .u8 x.l k (by rw [HL.out]; exact hlt)))
        rwa [Nat.zero_add] at this
      have hu := HLb.out.get k
      have HS2 := Lib.hid (take_snoc x.l k (by rw [HL.out]; exact hlt))
      go_wp2_with (at_builtin; refine wpl_append rowByte rfl _ _ rfl (v := .slice C cn cc) rfl (HO1.out.alloc _) _ _ rfl (A := some ⟨wr.heap.size, 0, none⟩) (ys := [gI x.l k]) rfl (rd_byte wr (gI x.l k) hu _) (okOne hu) (by simp; omega) (HX.out.alloc _).size ?_; intro v9 w9 ho1 hg1 hat1; have HX9 := Lib.hid ((HO1.out.alloc _).ext_app (HX.out.alloc _) hg1); have HO9 := Lib.hid ho1; clear ho1 hg1 hat1)
      go_roundw
      case rel => exact ⟨k + 1, by omega, by go_num, by rw [HS2.out]; exact HO9.out, HX9.out⟩
      case measure => simp [intOf]; omega
    · obtain rfl : k = 32 := by omega
      have e : x.l.take 32 = x.l := List.take_of_length_le (by rw [HL.out]; exact Nat.le_refl _)
      rw [e] at HO1
      clear e
      simp only [Int.cast_ofNat_Int]
      go_wp2_with fail
      go_loopw [3, 5] (fun o i wr => ∃ k : Nat, k ≤ 32 ∧ i = .int .i64 k ∧ Own tByte 5 wr w.heap.size o (x.l ++ x.r.take k) ∧ Ext w wr) (fun _ i _ => 32 - (intOf i).toNat)
      case atStart => exact ⟨0, by omega, rfl, by rw [List.take_zero, List.append_nil]; exact HO1.out, HX.out⟩
      case round =>
        clear HO1 HX hlt hk
        obtain ⟨k, hk, rfl, ho, hx⟩ := hrel
        have HO1 := Lib.hid ho
        have HX := Lib.hid hx
        obtain ⟨D, dn, dc, rfl⟩ := ho.shape3
        clear ho hx
        by_cases hlt : k < 32
        · have hd : wr.cell? ⟨b, 32 + k, none⟩ = some (.int .u8 (gI x.r k)) := 
            (HB.out.ext HX.out).at_ (32 + k) (Nd.right HO.out k _ (numsA_at .u8 x.r k (by rw [HR.out]; exact hlt)))
          have hu := HRb.out.get k
          have HS2 := Lib.hid (take_snoc x.r k (by rw [HR.out]; exact hlt))
          go_wp2_with (at_builtin; refine wpl_append rowByte rfl _ _ rfl (v := .slice D dn dc) rfl (HO1.out.alloc _) _ _ rfl (A := some ⟨wr.heap.size, 0, none⟩) (ys := [gI x.r k]) rfl (rd_byte wr (gI x.r k) hu _) (okOne hu) (by simp [HL.out]; omega) (HX.out.alloc _).size ?_; intro v9 w9 ho1 hg1 hat1; have HX9 := Lib.hid ((HO1.out.alloc _).ext_app (HX.out.alloc _) hg1); have HO9 := Lib.hid ho1; clear ho1 hg1 hat1)
          go_roundw
          case rel => exact ⟨k + 1, by omega, by go_num, by rw [HS2.out, ← List.append_assoc]; exact HO9.out, HX9.out⟩
          case measure => simp [intOf]; omega
        · obtain rfl : k = 32 := by omega
          have e : x.r.take 32 = x.r := List.take_of_length_le (by rw [HR.out]; exact Nat.le_refl _)
          rw [e] at HO1
          clear e
          simp only [Int.cast_ofNat_Int]
          have c0 := (HB.out.ext HX.out).at_ 64 (Nd.at64 HO.out)
          have W1 : IntKind.u8.wrap (x.n.size : Int) = x.n.size := by rw [IntKind.wrap_u8]; omega
          have hl1 := strL_length x.n
          have hl2 := strL_length x.v
          have Hl1 := Lib.hid hl1
          have Hl2 := Lib.hid hl2
          have Hlen : Hid ((x.l ++ x.r).length = 64) := Lib.hid (by simp [HL.out, HR.out])
          clear hl1 hl2
          have hu : (0 : Int) ≤ x.n.size ∧ (x.n.size : Int) ≤ 255 := by omega
          go_wp2_with (first
            | (at_builtin; refine wpl_append rowByte rfl _ _ rfl (v := .slice D dn dc) rfl (HO1.out.alloc _) _ _ rfl (A := some ⟨wr.heap.size, 0, none⟩) (ys := [(x.n.size : Int)]) rfl (rd_byte wr (x.n.size : Int) hu _) (okOne hu) (by rw [Hlen.out]; simp) (HX.out.alloc _).size ?_; intro v9 w9 ho1 hg1 hat1; obtain ⟨E1, en, ec, rfl⟩ := ho1.shape3; have HX9 := Lib.hid ((HO1.out.alloc _).ext_app (HX.out.alloc _) hg1); have HO9 := Lib.hid ho1; have c1 := (HB.out.ext HX9.out).at_ 64 (Nd.at64 HO.out); clear ho1 hg1 hat1)
            | (refine wpl_conv (s := x.n) Try.underlying9 Try.underlying56 Try.underlying5 rfl _ rfl rfl (by omega) ?_; intro A1 k1 w10 hr hx; have HX10 := Lib.hid (HX9.out.trans hx); have HO10 := Lib.hid (HO9.out.ext hx); have HR10 := Lib.hid (rd_of hr); clear hr hx)
            | (at_builtin; refine wpl_append rowByte rfl _ _ rfl (v := .slice E1 en ec) rfl HO10.out _ _ rfl (ys := strL x.n) HR10.out.2.2 HR10.out.1 HR10.out.2.1 (by rw [List.length_append, Hlen.out, Hl1.out]; simp; omega) HX10.out.size ?_; intro v11 w11 ho1 hg1 hat1; obtain ⟨G1, gn, gc, rfl⟩ := ho1.shape3; have HX11 := Lib.hid (HO10.out.ext_app HX10.out hg1); have HO11 := Lib.hid ho1; have c2 := (HB.out.ext HX11.out).at_ 65 (Nd.at65 HO.out); clear ho1 hg1 hat1)
            | (refine wpl_conv (s := x.v) Try.underlying9 Try.underlying56 Try.underlying5 rfl _ rfl rfl (by omega) ?_; intro A2 k2 w12 hr hx; have HX12 := Lib.hid (HX11.out.trans hx); have HO12 := Lib.hid (HO11.out.ext hx); have HR12 := Lib.hid (rd_of hr); clear hr hx)
            | (at_builtin; refine wpl_append rowByte rfl _ _ rfl (v := .slice G1 gn gc) rfl HO12.out _ _ rfl (ys := strL x.v) HR12.out.2.2 HR12.out.1 HR12.out.2.1 (by rw [List.length_append, List.length_append, Hlen.out, Hl1.out, Hl2.out]; simp; omega) HX12.out.size ?_; intro v13 w13 ho1 hg1 hat1; have HX13 := Lib.hid (HO12.out.ext_app HX12.out hg1); have HO13 := Lib.hid ho1; clear ho1 hg1 hat1))
          go_ret
          refine ⟨_, rfl, ?_, HX13.out⟩
          have := HO13.out
          rw [nodeL_eq, show (x.n.size : Int) % 256 = x.n.size by omega]
          exact this
set_option maxHeartbeats 1000000 in
set_option maxRecDepth 100000 in
theorem l04NodeKey_any (x : Nd) (hok : x.ok) (he : entB x.n x.v = true) (b : Nat) (w : World) (hb : Blk w b 31 x.enc.toArray) :
    Calls Try.prog 98 #[.pointer (some ⟨b, 0, none⟩)] w fun e w' => e = .returned (.agg (numsA .u8 (hashL 5 (nodeL x)))) ∧ Ext w w' := by
  have hk := (hashL_ok 5 (nodeL x)).1
  have hle := entB_le he
  have hnl := nodeL_length hok
  have Hnl : Hid ((nodeL x).length ≤ 1000) := Lib.hid (by omega)
  have HB := Lib.hid hb
  clear hb hle hnl
  go_enter Try.func98, Try.ntmps98
  go_wp2_with fail
  refine (l04Bytes_any x hok he b _ (HB.out.alloc _)).mono ?_
  rintro e w1 ⟨v1, rfl, ho, hx⟩
  obtain ⟨A1, n1, c1, rfl⟩ := ho.shape3
  have B1 := Lib.hid ((Blk.new w 27 _).ext hx)
  have XW := Lib.hid ((ext_alloc w _).trans hx)
  have HO := Lib.hid ho
  clear hx ho
  go_wp2_with fail
  refine (l01Hash_any 5 (by decide) _ (nodeL x) _ _ HO.out.rd (by have := Hnl.out; omega)).mono ?_
  rintro e w2 ⟨rfl, hx⟩
  replace B1 := Lib.hid (B1.out.ext hx)
  replace XW := Lib.hid (XW.out.trans hx)
  clear hx HO
  go_wp2_with (refine wpl_storeN B1.out aggKey hk rfl rfl _ _ rfl rfl rfl rfl ?_)
  refine bodyPost_ret (results_blk rfl _ rfl aggKey hk (B1.out.setRow _)) rfl ?_
  exact ⟨rfl, XW.out.setRow (by omega) _⟩
/-- the key of a node, and the code -/
def nodeKR (x : Nd) : List Int × Int := if entB x.n x.v then (hashL 5 (nodeL x), 0) else (List.replicate 32 0, 1)
theorem nodeKR_ok (x : Nd) : K32 (nodeKR x).1 := by unfold nodeKR; split; exact hashL_ok _ _; exact zero_ok
set_option maxHeartbeats 1000000 in
set_option maxRecDepth 100000 in
theorem specMapNodeKey_any (x : Nd) (hok : x.ok) (w : World) :
    Calls Try.prog 61 #[.agg x.enc.toArray] w fun e w' => e = .returned (.tuple #[.agg (numsA .u8 (nodeKR x).1), .int .i64 (nodeKR x).2]) ∧ Ext w w' := by
  have hk := (hashL_ok 5 (nodeL x)).1
  have hc := l04Entry_any x.n x.v hok.2.2.1 hok.2.2.2
  cases hb : entB x.n x.v with
  | true =>
    have HE := Lib.hid hb
    simp only [nodeKR, hb, if_true]
    simp only [hb] at hc
    clear hb
    go_enter Try.func61, Try.ntmps61
    go_wp2_with fail
    refine (hc w.heap.size 64 _ (((Blk.new w 31 x.enc.toArray).alloc _).at_ 64 (Nd.at64 hok)) (((Blk.new w 31 x.enc.toArray).alloc _).at_ 65 (Nd.at65 hok))).mono ?_
    rintro e w' ⟨rfl, rfl⟩
    go_wp2_with fail
    refine (l04NodeKey_any x hok HE.out w.heap.size _ ((Blk.new w 31 x.enc.toArray).alloc _)).mono ?_
    rintro e w1 ⟨rfl, hx⟩
    have B1 := Lib.hid ((Blk.new' (g := w.heap.size + 1) (w := w.alloc _) (by simp) 27 _).ext hx)
    have XW := Lib.hid (((ext_alloc w _).alloc _).trans hx)
    clear hx
    go_wp2_with (refine wpl_storeN B1.out aggKey hk rfl rfl _ _ rfl rfl rfl rfl ?_)
    refine bodyPost_ret (results_blk2 rfl _ rfl aggKey hk (B1.out.setRow _) rfl) rfl ?_
    exact ⟨rfl, XW.out.setRow (by omega) _⟩
  | false =>
    simp only [nodeKR, hb, Bool.false_eq_true, if_false]
    simp only [hb] at hc
    clear hb
    go_enter Try.func61, Try.ntmps61
    go_wp2_with fail
    refine (hc w.heap.size 64 _ (((Blk.new w 31 x.enc.toArray).alloc _).at_ 64 (Nd.at64 hok)) (((Blk.new w 31 x.enc.toArray).alloc _).at_ 65 (Nd.at65 hok))).mono ?_
    rintro e w' ⟨rfl, rfl⟩
    go_wp2_with (refine wpl_storeN (xs := List.replicate 32 0) (Blk.new' (g := w.heap.size + 1) (w := w.alloc _) (by simp) 27 _) aggKey rfl rfl rfl _ _ rfl rfl rfl rfl ?_)
    refine bodyPost_ret (results_blk2 rfl _ rfl aggKey rfl ((Blk.new' (g := w.heap.size + 1) (w := w.alloc _) (by simp) 27 _).setRow _) rfl) rfl ?_
    exact ⟨rfl, ((ext_alloc _ _).alloc _).setRow (by omega) _⟩

end Go.Proofs.Ytmndkbheehcoaaa
/- Any number of slices of bytes put together. No condition. -/
namespace Go.Proofs.Ytmndkbheehcoaaa
open Go.RowKit
set_option linter.unusedVariables false
set_option linter.unusedSimpArgs false

/-- all bytes of the first k -/
@[irreducible] def catL (L : List (Value × List Int)) (k : Nat) : List Int := (L.take k).flatMap (·.2)
theorem catL_zero (L : List (Value × List Int)) : catL L 0 = [] := by rw [catL]; simp
theorem catL_succ (L : List (Value × List Int)) (k : Nat) (h : k < L.length) : catL L (k + 1) = catL L k ++ L[k].2 := by
  rw [catL, catL, List.take_succ_eq_append_getElem h, List.flatMap_append, List.flatMap_cons, List.flatMap_nil, List.append_nil]
theorem catL_le (L : List (Value × List Int)) (k : Nat) (h : k ≤ L.length) : (catL L k).length ≤ (catL L L.length).length := by
  rw [catL, catL]
  conv => rhs; rw [← Nat.add_sub_cancel' h, List.take_add]
  simp
set_option maxHeartbeats 1000000 in
set_option maxRecDepth 100000 in
theorem concat_any (g o c : Nat) (L : List (Value × List Int)) (w : World) (S : Nat → Prop) (hrd : ∀ i (h : i < L.length), RdL tByte w S L[i].1 L[i].2) (hc : ∀ i (h : i < L.length), w.cell? ⟨g, o + i, none⟩ = some L[i].1)
    (hL : L.length ≤ 1000) (h0 : 0 < (catL L L.length).length) (hn : (catL L L.length).length ≤ 70368744177664) :
    Calls Try.prog 145 #[.slice (some ⟨g, o, none⟩) L.length c] w fun e w' => ∃ v', e = .returned v' ∧ Own tByte 5 w' w.heap.size v' (catL L L.length) ∧ Ext w w' := by
  have HRD := Lib.hid hrd
  have HC := Lib.hid hc
  have HZ := Lib.hid (catL_zero L)
  clear hrd hc
  go_enter Try.func145, Try.ntmps145
  go_wp2_with fail
  go_loop [3, 11] (fun s i => ∃ k : Nat, k ≤ L.length ∧ i = .int .i64 k ∧ s = .int .i64 (catL L k).length) (fun _ i => L.length - (intOf i).toNat)
  case atStart => exact ⟨0, by omega, rfl, by rw [HZ.out]; rfl⟩
  case round =>
    obtain ⟨k, hk, rfl, rfl⟩ := hrel
    have hle := catL_le L k hk
    by_cases hlt : k < L.length
    · have hle2 := catL_le L (k + 1) hlt
      have HS := Lib.hid (catL_succ L k hlt)
      have hcell := HC.out k hlt
      obtain ⟨A, cap, e, hcap, hlen, _⟩ := HRD.out k hlt
      rw [e] at hcell
      rw [HS.out, List.length_append] at hle2
      have hi : (0 : Int) ≤ (k : Int) := by omega
      go_wp2_with fail
      go_round
      case rel => exact ⟨k + 1, by omega, by go_num, by rw [HS.out, List.length_append]; go_num⟩
      case measure => simp [intOf]; omega
    · obtain rfl : k = L.length := by omega
      have G := grow_any (catL L L.length).length h0 hn w
      have HG := Lib.hid G
      clear G
      go_wp2_with fail
      refine HG.out.mono ?_
      rintro e w1 ⟨v1, rfl, ho, hx⟩
      have HO := Lib.hid ho
      have HX := Lib.hid hx
      clear ho hx
      go_wp2_with fail
      go_loopw [6, 27] (fun v i wr => ∃ k : Nat, k ≤ L.length ∧ i = .int .i64 k ∧ Own tByte 5 wr w.heap.size v (catL L k) ∧ Ext w wr) (fun _ i _ => L.length - (intOf i).toNat)
      case atStart => exact ⟨0, by omega, rfl, by rw [HZ.out]; exact HO.out, HX.out⟩
      case round =>
        clear HO HX hk hle hlt
        obtain ⟨k, hk, rfl, ho, hx⟩ := hrel
        have HX := Lib.hid hx
        have HO := Lib.hid ho
        obtain ⟨B, bn, bc, rfl⟩ := ho.shape3
        have hle := catL_le L k hk
        clear ho hx
        by_cases hlt : k < L.length
        · have hle2 := catL_le L (k + 1) hlt
          have HS := Lib.hid (catL_succ L k hlt)
          have hcell := HX.out.cell (HC.out k hlt)
          obtain ⟨A, cap, e, hcap, hlen, hr1, hok1⟩ := (HRD.out k hlt).ext (by decide) HX.out
          rw [e] at hcell
          rw [HS.out, List.length_append] at hle2
          have HR := Lib.hid hr1
          have HK := Lib.hid hok1
          have hi : (0 : Int) ≤ (k : Int) := by omega
          clear hr1 hok1
          go_wp2_with (at_builtin; refine wpl_append rowByte rfl _ _ rfl (v := .slice B bn bc) rfl HO.out _ _ rfl (ys := L[k].2) (A := A) (S := S) rfl HR.out HK.out (by omega) HX.out.size ?_; intro v1 w1 ho1 hg1 hat1; have HO1 := Lib.hid ho1; have HX1 := Lib.hid (HO.out.ext_app HX.out hg1); clear ho1 hg1 hat1)
          go_roundw
          case rel => exact ⟨k + 1, by omega, by go_num, by rw [HS.out]; exact HO1.out, HX1.out⟩
          case measure => simp [intOf]; omega
        · obtain rfl : k = L.length := by omega
          go_wp2_with fail
          go_ret
          exact ⟨_, rfl, HO.out, HX.out⟩

end Go.Proofs.Ytmndkbheehcoaaa
/- The program's bytes and key of a node. No condition. -/
namespace Go.Proofs.Ytmndkbheehcoaaa
open Go.RowKit
set_option linter.unusedVariables false
set_option linter.unusedSimpArgs false

/-- the bytes of a text, in new memory: one step of a region that draws its order -/
theorem stp_conv {P : Program} {ops : Array Oper} {o : Oper} {a : Act} {w : World} {K : Act → World → Prop} {Q : Exit → Act → World → Prop} {E : Prop} {src dst e : TypeId} {s : ByteArray}
    (hs : P.underlying src = some .string) (hd : P.underlying dst = some (.slice e)) (he : P.underlying e = some (.int .u8)) (hgd : o.guard = none) (x : Operand) (ho : o.op = .convert src dst x) (hx : a.eval x = .string s) (hl : s.size ≤ 140737488351232)
    (h : ∀ A c w', RdL tByte w' (fun _ => True) (.slice A s.size c) (strL s) → Ext w w' → K (a.put o.dst (.slice A s.size c)) w') : if Region.wanted o (yielded ops a.tmps) = true then Oper.wp P o a w K Q else E := by
  have hw : Region.wanted o (yielded ops a.tmps) = true := by simp [Region.wanted, hgd]
  rw [if_pos hw]
  unfold Oper.wp execOp
  simp only [ho, hx, Sem.run_bind, Sem.run_pure, Result.andThen_ok, Lib.run_convert_string_bytes w src dst e s hs hd he]
  exact h _ _ _ ((bytesWorld_rd w e s hl).mono fun _ _ => trivial) (bytesWorld_ext w e s)
/-- bytes that lie in a variable -/
theorem rdl_blk {w : World} {g t off n : Nat} {cs : Array Value} {xs : List Int} (hb : Blk w g t cs) (hp : ∀ j u, (numsA .u8 xs)[j]? = some u → cs[off + j]? = some u) (hn : xs.length = n) (h1 : B8 xs) (h2 : n ≤ 1000) (c : Nat) (hc : n ≤ c) : RdL tByte w (fun _ => True) (.slice (some ⟨g, off, none⟩) n c) xs := by
  subst hn
  refine ⟨_, _, rfl, hc, by omega, ⟨by rw [flat_bytes, nums_length]; exact (Nat.mul_one _).symm, fun _ => ⟨g, off, rfl, trivial, fun j u hu => ?_⟩⟩, h1⟩
  rw [hb.cell]
  exact hp j u (by rw [flat_bytes] at hu; simpa [numsA] using hu)
theorem rdl_one {w : World} {g : Nat} {x : Int} (hx : 0 ≤ x ∧ x ≤ 255) (hc : w.cell? ⟨g, 0, none⟩ = some (.int .u8 x)) (c : Nat) (h : 1 ≤ c) : RdL tByte w (fun _ => True) (.slice (some ⟨g, 0, none⟩) 1 c) [x] := by
  refine ⟨_, _, rfl, h, by simp, ⟨by simp [tByte], fun _ => ⟨g, 0, rfl, trivial, fun j u hu => ?_⟩⟩, okOne hx⟩
  simp [tByte] at hu
  obtain ⟨rfl, rfl⟩ : j = 0 ∧ u = .int .u8 x := by
    cases j with
    | zero => simp at hu; exact ⟨rfl, hu.symm⟩
    | succ j => simp at hu
  exact hc
/-- the five parts of a node's bytes put together -/
theorem nodeCat_any (x : Nd) (hok : x.ok) (b : Nat) (v9 v13 : Value) (W : World) (v17 : Value) (hn2 : x.n.size ≤ 24) (B1 : Blk W b 31 x.enc.toArray) (r9 : RdL tByte W (fun _ => True) v9 [(x.n.size : Int)]) (r13 : RdL tByte W (fun _ => True) v13 (strL x.n)) (r17 : RdL tByte W (fun _ => True) v17 (strL x.v))
    (h0 : 0 < (x.l ++ x.r ++ [(x.n.size : Int) % 256] ++ strL x.n ++ strL x.v).length) (h1 : (x.l ++ x.r ++ [(x.n.size : Int) % 256] ++ strL x.n ++ strL x.v).length ≤ 70368744177664) :
    Calls Try.prog 145 #[.slice (some ⟨W.heap.size, 0, none⟩) 5 5] (W.alloc (.cells #[.slice (some ⟨b, 0, none⟩) 32 32, .slice (some ⟨b, 32, none⟩) 32 32, v9, v13, v17] 56)) fun e w' => ∃ v', e = .returned v' ∧ Own tByte 5 w' (W.alloc (.cells #[.slice (some ⟨b, 0, none⟩) 32 32, .slice (some ⟨b, 32, none⟩) 32 32, v9, v13, v17] 56)).heap.size v' (x.l ++ x.r ++ [(x.n.size : Int) % 256] ++ strL x.n ++ strL x.v) ∧ Ext (W.alloc (.cells #[.slice (some ⟨b, 0, none⟩) 32 32, .slice (some ⟨b, 32, none⟩) 32 32, v9, v13, v17] 56)) w' := by
  have e : (x.n.size : Int) % 256 = x.n.size := by omega
  rw [e] at h0 h1 ⊢
  obtain ⟨L, hL⟩ : ∃ L : List (Value × List Int), L = [(.slice (some ⟨b, 0, none⟩) 32 32, x.l), (.slice (some ⟨b, 32, none⟩) 32 32, x.r), (v9, [(x.n.size : Int)]), (v13, strL x.n), (v17, strL x.v)] := ⟨_, rfl⟩
  have hcat : catL L L.length = x.l ++ x.r ++ [(x.n.size : Int)] ++ strL x.n ++ strL x.v := by rw [catL, List.take_length, hL]; simp
  have hrow := Blk.new W 56 #[.slice (some ⟨b, 0, none⟩) 32 32, .slice (some ⟨b, 32, none⟩) 32 32, v9, v13, v17]
  have H := concat_any W.heap.size 0 5 L (W.alloc (.cells #[.slice (some ⟨b, 0, none⟩) 32 32, .slice (some ⟨b, 32, none⟩) 32 32, v9, v13, v17] 56)) (fun _ => True) ?_ ?_ (by rw [hL]; simp) (by rw [hcat]; exact h0) (by rw [hcat]; exact h1)
  · rw [hcat] at H
    rw [show L.length = 5 by rw [hL]; rfl] at H
    exact H
  · have hE := ext_alloc W (.cells #[.slice (some ⟨b, 0, none⟩) 32 32, .slice (some ⟨b, 32, none⟩) 32 32, v9, v13, v17] 56)
    intro i hi
    subst hL
    simp only [List.length_cons, List.length_nil] at hi
    rcases (show i = 0 ∨ i = 1 ∨ i = 2 ∨ i = 3 ∨ i = 4 by omega) with rfl | rfl | rfl | rfl | rfl
    · exact (rdl_blk B1 (Nd.left hok) hok.1.1 hok.1.2 (by decide) 32 (Nat.le_refl _)).ext (by decide) hE
    · exact (rdl_blk B1 (Nd.right hok) hok.2.1.1 hok.2.1.2 (by decide) 32 (Nat.le_refl _)).ext (by decide) hE
    · exact r9.ext (by decide) hE
    · exact r13.ext (by decide) hE
    · exact r17.ext (by decide) hE
  · intro i hi
    subst hL
    simp only [List.length_cons, List.length_nil] at hi
    rcases (show i = 0 ∨ i = 1 ∨ i = 2 ∨ i = 3 ∨ i = 4 by omega) with rfl | rfl | rfl | rfl | rfl <;> exact hrow.at_ _ rfl
set_option maxHeartbeats 1000000 in
set_option maxRecDepth 100000 in
theorem nodeBytes_any (x : Nd) (hok : x.ok) (he : entB x.n x.v = true) (w : World) :
    Calls Try.prog 105 #[.agg x.enc.toArray] w fun e w' => ∃ v', e = .returned v' ∧ Own tByte 5 w' w.heap.size v' (nodeL x) ∧ Ext w w' := by
  obtain ⟨hn1, hn2, hv⟩ := entB_le he
  have HL := Lib.hid hok.1.1
  have HR := Lib.hid hok.2.1.1
  have HO := Lib.hid hok
  have HNL := Lib.hid (nodeL_length hok)
  have HN := Lib.hid (nodeL_eq x)
  have W1 : IntKind.u8.wrap (x.n.size : Int) = x.n.size := by rw [IntKind.wrap_u8]; omega
  have hu : (0 : Int) ≤ x.n.size ∧ (x.n.size : Int) ≤ 255 := by omega
  have B0 := Lib.hid (Blk.new w 31 x.enc.toArray)
  have hc0 : ∀ W, Ext (w.alloc (.cells x.enc.toArray 31)) W → W.cell? ⟨w.heap.size, 64, none⟩ = some (.string x.n) := fun W h => (B0.out.ext h).at_ 64 (Nd.at64 HO.out)
  have hc1 : ∀ W, Ext (w.alloc (.cells x.enc.toArray 31)) W → W.cell? ⟨w.heap.size, 65, none⟩ = some (.string x.v) := fun W h => (B0.out.ext h).at_ 65 (Nd.at65 HO.out)
  clear hok he
  go_enter Try.func105, Try.ntmps105
  go_wp2_with fail
  refine wp_region_held_drew (S := fun W => Ext (w.alloc (.cells x.enc.toArray 31)) W) (by kernel_rfl) (Ext.refl _).drew (fun hHeld => ?_)
  refine wpAnyH_take (i := 0) (oi := ?oiz1) (v := ?vz1) ?hiz1 (by kernel_rfl) (by kernel_rfl) (by kernel_rfl) ?hQz1 ?hyz1 (by assumption) ?restz1
  case hiz1 => simp only [List.getElem?_toArray, List.getElem?_cons_zero, List.getElem?_cons_succ]; rfl
  case hQz1 => exact fun _ _ _ h => h
  case hyz1 => exact Or.inl ⟨by rfl, by intro w hSw; (try dsimp only at hSw); go_simp; with_reducible rfl⟩
  try simp only [Act.put, List.setIfInBounds_toArray, List.set_cons_zero, List.set_cons_succ]
  refine wpAnyH_take (i := 1) (oi := ?oiz2) (v := ?vz2) ?hiz2 (by kernel_rfl) (by kernel_rfl) (by kernel_rfl) ?hQz2 ?hyz2 (by assumption) ?restz2
  case hiz2 => simp only [List.getElem?_toArray, List.getElem?_cons_zero, List.getElem?_cons_succ]; rfl
  case hQz2 => exact fun _ _ _ h => h
  case hyz2 => exact Or.inl ⟨by rfl, by intro w hSw; (try dsimp only at hSw); go_simp; with_reducible rfl⟩
  try simp only [Act.put, List.setIfInBounds_toArray, List.set_cons_zero, List.set_cons_succ]
  refine wpAnyH_take (i := 2) (oi := ?oiz3) (v := ?vz3) ?hiz3 (by kernel_rfl) (by kernel_rfl) (by kernel_rfl) ?hQz3 ?hyz3 (by assumption) ?restz3
  case hiz3 => simp only [List.getElem?_toArray, List.getElem?_cons_zero, List.getElem?_cons_succ]; rfl
  case hQz3 => exact fun _ _ _ h => h
  case hyz3 => exact Or.inl ⟨by rfl, by intro w hSw; (try dsimp only at hSw); go_simp; with_reducible rfl⟩
  try simp only [Act.put, List.setIfInBounds_toArray, List.set_cons_zero, List.set_cons_succ]
  refine wpAnyH_take (i := 3) (oi := ?oiz4) (v := ?vz4) ?hiz4 (by kernel_rfl) (by kernel_rfl) (by kernel_rfl) ?hQz4 ?hyz4 (by assumption) ?restz4
  case hiz4 => simp only [List.getElem?_toArray, List.getElem?_cons_zero, List.getElem?_cons_succ]; rfl
  case hQz4 => exact fun _ _ _ h => h
  case hyz4 => exact Or.inl ⟨by rfl, by intro w hSw; (try dsimp only at hSw); go_simp; with_reducible rfl⟩
  try simp only [Act.put, List.setIfInBounds_toArray, List.set_cons_zero, List.set_cons_succ]
  refine wpAnyH_take (i := 4) (oi := ?oiz5) (v := ?vz5) ?hiz5 (by kernel_rfl) (by kernel_rfl) (by kernel_rfl) ?hQz5 ?hyz5 (by assumption) ?restz5
  case hiz5 => simp only [List.getElem?_toArray, List.getElem?_cons_zero, List.getElem?_cons_succ]; rfl
  case hQz5 => exact fun _ _ _ h => h
  case hyz5 => exact Or.inl ⟨by rfl, by intro w hSw; (try dsimp only at hSw); go_simp; with_reducible rfl⟩
  try simp only [Act.put, List.setIfInBounds_toArray, List.set_cons_zero, List.set_cons_succ]
  refine wpAnyH_take (i := 5) (oi := ?oiz6) (v := ?vz6) ?hiz6 (by kernel_rfl) (by kernel_rfl) (by kernel_rfl) ?hQz6 ?hyz6 (by assumption) ?restz6
  case hiz6 => simp only [List.getElem?_toArray, List.getElem?_cons_zero, List.getElem?_cons_succ]; rfl
  case hQz6 => exact fun _ _ _ h => h
  case hyz6 => exact Or.inl ⟨by rfl, by intro w hSw; (try dsimp only at hSw); go_simp; with_reducible rfl⟩
  try simp only [Act.put, List.setIfInBounds_toArray, List.set_cons_zero, List.set_cons_succ]
  refine wpAnyH_take (i := 6) (oi := ?oiz7) (v := ?vz7) ?hiz7 (by kernel_rfl) (by kernel_rfl) (by kernel_rfl) ?hQz7 ?hyz7 (by assumption) ?restz7
  case hiz7 => simp only [List.getElem?_toArray, List.getElem?_cons_zero, List.getElem?_cons_succ]; rfl
  case hQz7 => exact fun _ _ _ h => h
  case hyz7 => exact Or.inl ⟨by rfl, by intro w hSw; (try dsimp only at hSw); go_simp; with_reducible rfl⟩
  try simp only [Act.put, List.setIfInBounds_toArray, List.set_cons_zero, List.set_cons_succ]
  refine wpAnyH_take (i := 7) (oi := ?oiz8) (v := ?vz8) ?hiz8 (by kernel_rfl) (by kernel_rfl) (by kernel_rfl) ?hQz8 ?hyz8 (by assumption) ?restz8
  case hiz8 => simp only [List.getElem?_toArray, List.getElem?_cons_zero, List.getElem?_cons_succ]; rfl
  case hQz8 => exact fun _ _ _ h => h
  case hyz8 => exact Or.inl ⟨by rfl, by intro w hSw; (try dsimp only at hSw); go_simp; with_reducible rfl⟩
  try simp only [Act.put, List.setIfInBounds_toArray, List.set_cons_zero, List.set_cons_succ]
  refine wpAnyH_take (i := 8) (oi := ?oiz9) (v := ?vz9) ?hiz9 (by kernel_rfl) (by kernel_rfl) (by kernel_rfl) ?hQz9 ?hyz9 (by assumption) ?restz9
  case hiz9 => simp only [List.getElem?_toArray, List.getElem?_cons_zero, List.getElem?_cons_succ]; rfl
  case hQz9 => exact fun _ _ _ h => h
  case hyz9 => exact Or.inl ⟨by rfl, by intro w hSw; (try dsimp only at hSw); go_simp; with_reducible rfl⟩
  try simp only [Act.put, List.setIfInBounds_toArray, List.set_cons_zero, List.set_cons_succ]
  refine wpAnyH_take (i := 10) (oi := ?oiz10) (v := ?vz10) ?hiz10 (by kernel_rfl) (by kernel_rfl) (by kernel_rfl) ?hQz10 ?hyz10 (by assumption) ?restz10
  case hiz10 => simp only [List.getElem?_toArray, List.getElem?_cons_zero, List.getElem?_cons_succ]; rfl
  case hQz10 => exact fun _ _ _ h => h
  case hyz10 => exact Or.inl ⟨by rfl, by intro w hSw; (try dsimp only at hSw); go_simp; with_reducible rfl⟩
  try simp only [Act.put, List.setIfInBounds_toArray, List.set_cons_zero, List.set_cons_succ]
  refine wpAnyH_take (i := 11) (oi := ?oiz11) (v := ?vz11) ?hiz11 (by kernel_rfl) (by kernel_rfl) (by kernel_rfl) ?hQz11 ?hyz11 (by assumption) ?restz11
  case hiz11 => simp only [List.getElem?_toArray, List.getElem?_cons_zero, List.getElem?_cons_succ]; rfl
  case hQz11 => exact fun _ _ _ h => h
  case hyz11 => exact Or.inl ⟨by rfl, by intro w hSw; (try dsimp only at hSw); go_simp; with_reducible rfl⟩
  try simp only [Act.put, List.setIfInBounds_toArray, List.set_cons_zero, List.set_cons_succ]
  refine wpAnyH_take (i := 12) (oi := ?oiz12) (v := ?vz12) ?hiz12 (by kernel_rfl) (by kernel_rfl) (by kernel_rfl) ?hQz12 ?hyz12 (by assumption) ?restz12
  case hiz12 => simp only [List.getElem?_toArray, List.getElem?_cons_zero, List.getElem?_cons_succ]; rfl
  case hQz12 => exact fun _ _ _ h => h
  case hyz12 => exact Or.inl ⟨by rfl, by intro w hSw; (try dsimp only at hSw); go_simp; with_reducible rfl⟩
  try simp only [Act.put, List.setIfInBounds_toArray, List.set_cons_zero, List.set_cons_succ]
  refine wpAnyH_take (i := 14) (oi := ?oiz13) (v := ?vz13) ?hiz13 (by kernel_rfl) (by kernel_rfl) (by kernel_rfl) ?hQz13 ?hyz13 (by assumption) ?restz13
  case hiz13 => simp only [List.getElem?_toArray, List.getElem?_cons_zero, List.getElem?_cons_succ]; rfl
  case hQz13 => exact fun _ _ _ h => h
  case hyz13 => exact Or.inl ⟨by rfl, by intro w hSw; (try dsimp only at hSw); go_simp; with_reducible rfl⟩
  try simp only [Act.put, List.setIfInBounds_toArray, List.set_cons_zero, List.set_cons_succ]
  refine wpAnyH_take (i := 15) (oi := ?oiz14) (v := ?vz14) ?hiz14 (by kernel_rfl) (by kernel_rfl) (by kernel_rfl) ?hQz14 ?hyz14 (by assumption) ?restz14
  case hiz14 => simp only [List.getElem?_toArray, List.getElem?_cons_zero, List.getElem?_cons_succ]; rfl
  case hQz14 => exact fun _ _ _ h => h
  case hyz14 => exact Or.inl ⟨by rfl, by intro w hSw; (try dsimp only at hSw); go_simp; with_reducible rfl⟩
  try simp only [Act.put, List.setIfInBounds_toArray, List.set_cons_zero, List.set_cons_succ]
  refine wpAnyH_take (i := 16) (oi := ?oiz15) (v := ?vz15) ?hiz15 (by kernel_rfl) (by kernel_rfl) (by kernel_rfl) ?hQz15 ?hyz15 (by assumption) ?restz15
  case hiz15 => simp only [List.getElem?_toArray, List.getElem?_cons_zero, List.getElem?_cons_succ]; rfl
  case hQz15 => exact fun _ _ _ h => h
  case hyz15 => exact Or.inl ⟨by rfl, by intro w hSw; (try dsimp only at hSw); go_simp; with_reducible rfl⟩
  try simp only [Act.put, List.setIfInBounds_toArray, List.set_cons_zero, List.set_cons_succ]
  have XW := Lib.hid (ext_alloc w (.cells x.enc.toArray 31))
  generalize World.drew (World.alloc w (.cells x.enc.toArray 31)) = w0 at hHeld ⊢
  refine wpAnyH_ready (rs := [9, 13, 17]) (by kernel_rfl) (by simp) (AllReadyH.cons (o := ?oy169) ?hy169 (fun K hK => ?sy169) (AllReadyH.cons (o := ?oy1613) ?hy1613 (fun K hK => ?sy1613) (AllReadyH.cons (o := ?oy1617) ?hy1617 (fun K hK => ?sy1617) AllReadyH.nil)))
  case hy169 => simp only [List.getElem?_toArray, List.getElem?_cons_zero, List.getElem?_cons_succ]; rfl
  case hy1613 => simp only [List.getElem?_toArray, List.getElem?_cons_zero, List.getElem?_cons_succ]; rfl
  case hy1617 => simp only [List.getElem?_toArray, List.getElem?_cons_zero, List.getElem?_cons_succ]; rfl
  case sy169 =>
    go_simp
    obtain ⟨p1, hp1⟩ : ∃ W, W = World.alloc w0 (.cells #[.int .u8 x.n.size] 5) := ⟨_, rfl⟩
    have hx : Ext w0 p1 := by rw [hp1]; exact ext_alloc _ _
    have r9 : p1.cell? ⟨w0.heap.size, 0, none⟩ = some (.int .u8 x.n.size) := by rw [hp1]; exact (Blk.new _ _ _).at_ 0 rfl
    have R9 := Lib.hid (rdl_one hu r9 1 (Nat.le_refl _))
    clear r9
    rw [← hp1]
    clear hp1
    have hH2 := hHeld.trans hx
    refine hK.out _ _ hH2 (fun _ => ?_)
    clear hHeld hK K
    have hHeld := hH2
    clear hH2 hx
    try simp only [Act.put, List.setIfInBounds_toArray, List.set_cons_zero, List.set_cons_succ]
    refine wpAnyH_ready (rs := [13, 17]) (by kernel_rfl) (by simp) (AllReadyH.cons (o := ?oy1713) ?hy1713 (fun K hK => ?sy1713) (AllReadyH.cons (o := ?oy1717) ?hy1717 (fun K hK => ?sy1717) AllReadyH.nil))
    case hy1713 => simp only [List.getElem?_toArray, List.getElem?_cons_zero, List.getElem?_cons_succ]; rfl
    case hy1717 => simp only [List.getElem?_toArray, List.getElem?_cons_zero, List.getElem?_cons_succ]; rfl
    case sy1713 =>
      refine stp_conv (s := x.n) Try.underlying9 Try.underlying56 Try.underlying5 rfl (.tmp 15) rfl rfl (by omega) ?_
      intro A13 c13 p2 hr hx
      have R13 := Lib.hid hr
      clear hr
      replace R9 := Lib.hid (R9.out.ext (by decide) hx)
      have hH2 := hHeld.trans hx
      refine hK.out _ _ hH2 (fun _ => ?_)
      clear hHeld hK K
      have hHeld := hH2
      clear hH2 hx
      try simp only [Act.put, List.setIfInBounds_toArray, List.set_cons_zero, List.set_cons_succ]
      refine wpAnyH_ready (rs := [17]) (by kernel_rfl) (by simp) (AllReadyH.cons (o := ?oy1817) ?hy1817 (fun K hK => ?sy1817) AllReadyH.nil)
      case hy1817 => simp only [List.getElem?_toArray, List.getElem?_cons_zero, List.getElem?_cons_succ]; rfl
      case sy1817 =>
        refine stp_conv (s := x.v) Try.underlying9 Try.underlying56 Try.underlying5 rfl (.tmp 19) rfl rfl (by omega) ?_
        intro A17 c17 p3 hr hx
        have R17 := Lib.hid hr
        clear hr
        replace R9 := Lib.hid (R9.out.ext (by decide) hx)
        replace R13 := Lib.hid (R13.out.ext (by decide) hx)
        have hH2 := hHeld.trans hx
        refine hK.out _ _ hH2 (fun _ => ?_)
        clear hHeld hK K
        have hHeld := hH2
        clear hH2 hx
        try simp only [Act.put, List.setIfInBounds_toArray, List.set_cons_zero, List.set_cons_succ]
        refine wpAnyH_ready (rs := [18]) (by kernel_rfl) (by simp) (AllReadyH.cons (o := ?oy1918) ?hy1918 (fun K hK => ?sy1918) AllReadyH.nil)
        case hy1918 => simp only [List.getElem?_toArray, List.getElem?_cons_zero, List.getElem?_cons_succ]; rfl
        case sy1918 =>
          go_simp
          refine hK.out _ _ (hHeld.alloc _) (fun _ => ?_)
          clear hK K
          try simp only [Act.put, List.setIfInBounds_toArray, List.set_cons_zero, List.set_cons_succ]
          have B1 := Lib.hid (B0.out.ext hHeld)
          refine wpAnyH_ready (rs := [19]) (by kernel_rfl) (by simp) (AllReadyH.cons (o := ?oy2019) ?hy2019 (fun K hK => ?sy2019) AllReadyH.nil)
          case hy2019 => simp only [List.getElem?_toArray, List.getElem?_cons_zero, List.getElem?_cons_succ]; rfl
          case sy2019 =>
            go_simp
            refine (nodeCat_any x HO.out w.heap.size _ _ p3 _ hn2 B1.out R9.out R13.out R17.out (by rw [← HN.out, HNL.out]; omega) (by rw [← HN.out, HNL.out]; omega)).mono ?_
            rintro e q ⟨v1, rfl, ho, hx⟩
            rw [← HN.out] at ho
            obtain ⟨A1, n1, c1, rfl⟩ := ho.shape3
            have HO1 := Lib.hid ho
            clear ho
            have hH2 := (hHeld.alloc _).trans hx
            refine hK.out _ _ hH2 (fun _ => ?_)
            clear hK K
            try simp only [Act.put, List.setIfInBounds_toArray, List.set_cons_zero, List.set_cons_succ]
            have HE := Lib.hid (XW.out.trans hH2)
            have HG := Lib.hid (show w.heap.size ≤ _ from (XW.out.trans hHeld).size)
            clear hx hHeld
            refine wpAnyH_take (i := 20) (oi := ?oiz21) (v := ?vz21) ?hiz21 (by kernel_rfl) (by kernel_rfl) (by kernel_rfl) ?hQz21 ?hyz21 (by assumption) ?restz21
            case hiz21 => simp only [List.getElem?_toArray, List.getElem?_cons_zero, List.getElem?_cons_succ]; rfl
            case hQz21 => exact fun _ _ _ h => h
            case hyz21 => exact Or.inl ⟨by rfl, by intro w hSw; (try dsimp only at hSw); go_simp; with_reducible rfl⟩
            try simp only [Act.put, List.setIfInBounds_toArray, List.set_cons_zero, List.set_cons_succ]
            refine wpAnyH_done (by kernel_rfl) ?_ _
            go_wp2_with fail
            go_ret
            exact ⟨_, rfl, HO1.out.le (by have := HG.out; simp; omega), HE.out⟩
    case sy1717 =>
      refine stp_conv (s := x.v) Try.underlying9 Try.underlying56 Try.underlying5 rfl (.tmp 19) rfl rfl (by omega) ?_
      intro A17 c17 p4 hr hx
      have R17 := Lib.hid hr
      clear hr
      replace R9 := Lib.hid (R9.out.ext (by decide) hx)
      have hH2 := hHeld.trans hx
      refine hK.out _ _ hH2 (fun _ => ?_)
      clear hHeld hK K
      have hHeld := hH2
      clear hH2 hx
      try simp only [Act.put, List.setIfInBounds_toArray, List.set_cons_zero, List.set_cons_succ]
      refine wpAnyH_ready (rs := [13]) (by kernel_rfl) (by simp) (AllReadyH.cons (o := ?oy2213) ?hy2213 (fun K hK => ?sy2213) AllReadyH.nil)
      case hy2213 => simp only [List.getElem?_toArray, List.getElem?_cons_zero, List.getElem?_cons_succ]; rfl
      case sy2213 =>
        refine stp_conv (s := x.n) Try.underlying9 Try.underlying56 Try.underlying5 rfl (.tmp 15) rfl rfl (by omega) ?_
        intro A13 c13 p5 hr hx
        have R13 := Lib.hid hr
        clear hr
        replace R9 := Lib.hid (R9.out.ext (by decide) hx)
        replace R17 := Lib.hid (R17.out.ext (by decide) hx)
        have hH2 := hHeld.trans hx
        refine hK.out _ _ hH2 (fun _ => ?_)
        clear hHeld hK K
        have hHeld := hH2
        clear hH2 hx
        try simp only [Act.put, List.setIfInBounds_toArray, List.set_cons_zero, List.set_cons_succ]
        refine wpAnyH_ready (rs := [18]) (by kernel_rfl) (by simp) (AllReadyH.cons (o := ?oy2318) ?hy2318 (fun K hK => ?sy2318) AllReadyH.nil)
        case hy2318 => simp only [List.getElem?_toArray, List.getElem?_cons_zero, List.getElem?_cons_succ]; rfl
        case sy2318 =>
          go_simp
          refine hK.out _ _ (hHeld.alloc _) (fun _ => ?_)
          clear hK K
          try simp only [Act.put, List.setIfInBounds_toArray, List.set_cons_zero, List.set_cons_succ]
          have B1 := Lib.hid (B0.out.ext hHeld)
          refine wpAnyH_ready (rs := [19]) (by kernel_rfl) (by simp) (AllReadyH.cons (o := ?oy2419) ?hy2419 (fun K hK => ?sy2419) AllReadyH.nil)
          case hy2419 => simp only [List.getElem?_toArray, List.getElem?_cons_zero, List.getElem?_cons_succ]; rfl
          case sy2419 =>
            go_simp
            refine (nodeCat_any x HO.out w.heap.size _ _ p5 _ hn2 B1.out R9.out R13.out R17.out (by rw [← HN.out, HNL.out]; omega) (by rw [← HN.out, HNL.out]; omega)).mono ?_
            rintro e q ⟨v1, rfl, ho, hx⟩
            rw [← HN.out] at ho
            obtain ⟨A1, n1, c1, rfl⟩ := ho.shape3
            have HO1 := Lib.hid ho
            clear ho
            have hH2 := (hHeld.alloc _).trans hx
            refine hK.out _ _ hH2 (fun _ => ?_)
            clear hK K
            try simp only [Act.put, List.setIfInBounds_toArray, List.set_cons_zero, List.set_cons_succ]
            have HE := Lib.hid (XW.out.trans hH2)
            have HG := Lib.hid (show w.heap.size ≤ _ from (XW.out.trans hHeld).size)
            clear hx hHeld
            refine wpAnyH_take (i := 20) (oi := ?oiz25) (v := ?vz25) ?hiz25 (by kernel_rfl) (by kernel_rfl) (by kernel_rfl) ?hQz25 ?hyz25 (by assumption) ?restz25
            case hiz25 => simp only [List.getElem?_toArray, List.getElem?_cons_zero, List.getElem?_cons_succ]; rfl
            case hQz25 => exact fun _ _ _ h => h
            case hyz25 => exact Or.inl ⟨by rfl, by intro w hSw; (try dsimp only at hSw); go_simp; with_reducible rfl⟩
            try simp only [Act.put, List.setIfInBounds_toArray, List.set_cons_zero, List.set_cons_succ]
            refine wpAnyH_done (by kernel_rfl) ?_ _
            go_wp2_with fail
            go_ret
            exact ⟨_, rfl, HO1.out.le (by have := HG.out; simp; omega), HE.out⟩
  case sy1613 =>
    refine stp_conv (s := x.n) Try.underlying9 Try.underlying56 Try.underlying5 rfl (.tmp 15) rfl rfl (by omega) ?_
    intro A13 c13 p6 hr hx
    have R13 := Lib.hid hr
    clear hr
    have hH2 := hHeld.trans hx
    refine hK.out _ _ hH2 (fun _ => ?_)
    clear hHeld hK K
    have hHeld := hH2
    clear hH2 hx
    try simp only [Act.put, List.setIfInBounds_toArray, List.set_cons_zero, List.set_cons_succ]
    refine wpAnyH_ready (rs := [9, 17]) (by kernel_rfl) (by simp) (AllReadyH.cons (o := ?oy269) ?hy269 (fun K hK => ?sy269) (AllReadyH.cons (o := ?oy2617) ?hy2617 (fun K hK => ?sy2617) AllReadyH.nil))
    case hy269 => simp only [List.getElem?_toArray, List.getElem?_cons_zero, List.getElem?_cons_succ]; rfl
    case hy2617 => simp only [List.getElem?_toArray, List.getElem?_cons_zero, List.getElem?_cons_succ]; rfl
    case sy269 =>
      go_simp
      obtain ⟨p7, hp7⟩ : ∃ W, W = World.alloc p6 (.cells #[.int .u8 x.n.size] 5) := ⟨_, rfl⟩
      have hx : Ext p6 p7 := by rw [hp7]; exact ext_alloc _ _
      have r9 : p7.cell? ⟨p6.heap.size, 0, none⟩ = some (.int .u8 x.n.size) := by rw [hp7]; exact (Blk.new _ _ _).at_ 0 rfl
      have R9 := Lib.hid (rdl_one hu r9 1 (Nat.le_refl _))
      clear r9
      rw [← hp7]
      clear hp7
      replace R13 := Lib.hid (R13.out.ext (by decide) hx)
      have hH2 := hHeld.trans hx
      refine hK.out _ _ hH2 (fun _ => ?_)
      clear hHeld hK K
      have hHeld := hH2
      clear hH2 hx
      try simp only [Act.put, List.setIfInBounds_toArray, List.set_cons_zero, List.set_cons_succ]
      refine wpAnyH_ready (rs := [17]) (by kernel_rfl) (by simp) (AllReadyH.cons (o := ?oy2717) ?hy2717 (fun K hK => ?sy2717) AllReadyH.nil)
      case hy2717 => simp only [List.getElem?_toArray, List.getElem?_cons_zero, List.getElem?_cons_succ]; rfl
      case sy2717 =>
        refine stp_conv (s := x.v) Try.underlying9 Try.underlying56 Try.underlying5 rfl (.tmp 19) rfl rfl (by omega) ?_
        intro A17 c17 p8 hr hx
        have R17 := Lib.hid hr
        clear hr
        replace R13 := Lib.hid (R13.out.ext (by decide) hx)
        replace R9 := Lib.hid (R9.out.ext (by decide) hx)
        have hH2 := hHeld.trans hx
        refine hK.out _ _ hH2 (fun _ => ?_)
        clear hHeld hK K
        have hHeld := hH2
        clear hH2 hx
        try simp only [Act.put, List.setIfInBounds_toArray, List.set_cons_zero, List.set_cons_succ]
        refine wpAnyH_ready (rs := [18]) (by kernel_rfl) (by simp) (AllReadyH.cons (o := ?oy2818) ?hy2818 (fun K hK => ?sy2818) AllReadyH.nil)
        case hy2818 => simp only [List.getElem?_toArray, List.getElem?_cons_zero, List.getElem?_cons_succ]; rfl
        case sy2818 =>
          go_simp
          refine hK.out _ _ (hHeld.alloc _) (fun _ => ?_)
          clear hK K
          try simp only [Act.put, List.setIfInBounds_toArray, List.set_cons_zero, List.set_cons_succ]
          have B1 := Lib.hid (B0.out.ext hHeld)
          refine wpAnyH_ready (rs := [19]) (by kernel_rfl) (by simp) (AllReadyH.cons (o := ?oy2919) ?hy2919 (fun K hK => ?sy2919) AllReadyH.nil)
          case hy2919 => simp only [List.getElem?_toArray, List.getElem?_cons_zero, List.getElem?_cons_succ]; rfl
          case sy2919 =>
            go_simp
            refine (nodeCat_any x HO.out w.heap.size _ _ p8 _ hn2 B1.out R9.out R13.out R17.out (by rw [← HN.out, HNL.out]; omega) (by rw [← HN.out, HNL.out]; omega)).mono ?_
            rintro e q ⟨v1, rfl, ho, hx⟩
            rw [← HN.out] at ho
            obtain ⟨A1, n1, c1, rfl⟩ := ho.shape3
            have HO1 := Lib.hid ho
            clear ho
            have hH2 := (hHeld.alloc _).trans hx
            refine hK.out _ _ hH2 (fun _ => ?_)
            clear hK K
            try simp only [Act.put, List.setIfInBounds_toArray, List.set_cons_zero, List.set_cons_succ]
            have HE := Lib.hid (XW.out.trans hH2)
            have HG := Lib.hid (show w.heap.size ≤ _ from (XW.out.trans hHeld).size)
            clear hx hHeld
            refine wpAnyH_take (i := 20) (oi := ?oiz30) (v := ?vz30) ?hiz30 (by kernel_rfl) (by kernel_rfl) (by kernel_rfl) ?hQz30 ?hyz30 (by assumption) ?restz30
            case hiz30 => simp only [List.getElem?_toArray, List.getElem?_cons_zero, List.getElem?_cons_succ]; rfl
            case hQz30 => exact fun _ _ _ h => h
            case hyz30 => exact Or.inl ⟨by rfl, by intro w hSw; (try dsimp only at hSw); go_simp; with_reducible rfl⟩
            try simp only [Act.put, List.setIfInBounds_toArray, List.set_cons_zero, List.set_cons_succ]
            refine wpAnyH_done (by kernel_rfl) ?_ _
            go_wp2_with fail
            go_ret
            exact ⟨_, rfl, HO1.out.le (by have := HG.out; simp; omega), HE.out⟩
    case sy2617 =>
      refine stp_conv (s := x.v) Try.underlying9 Try.underlying56 Try.underlying5 rfl (.tmp 19) rfl rfl (by omega) ?_
      intro A17 c17 p9 hr hx
      have R17 := Lib.hid hr
      clear hr
      replace R13 := Lib.hid (R13.out.ext (by decide) hx)
      have hH2 := hHeld.trans hx
      refine hK.out _ _ hH2 (fun _ => ?_)
      clear hHeld hK K
      have hHeld := hH2
      clear hH2 hx
      try simp only [Act.put, List.setIfInBounds_toArray, List.set_cons_zero, List.set_cons_succ]
      refine wpAnyH_ready (rs := [9]) (by kernel_rfl) (by simp) (AllReadyH.cons (o := ?oy319) ?hy319 (fun K hK => ?sy319) AllReadyH.nil)
      case hy319 => simp only [List.getElem?_toArray, List.getElem?_cons_zero, List.getElem?_cons_succ]; rfl
      case sy319 =>
        go_simp
        obtain ⟨p10, hp10⟩ : ∃ W, W = World.alloc p9 (.cells #[.int .u8 x.n.size] 5) := ⟨_, rfl⟩
        have hx : Ext p9 p10 := by rw [hp10]; exact ext_alloc _ _
        have r9 : p10.cell? ⟨p9.heap.size, 0, none⟩ = some (.int .u8 x.n.size) := by rw [hp10]; exact (Blk.new _ _ _).at_ 0 rfl
        have R9 := Lib.hid (rdl_one hu r9 1 (Nat.le_refl _))
        clear r9
        rw [← hp10]
        clear hp10
        replace R13 := Lib.hid (R13.out.ext (by decide) hx)
        replace R17 := Lib.hid (R17.out.ext (by decide) hx)
        have hH2 := hHeld.trans hx
        refine hK.out _ _ hH2 (fun _ => ?_)
        clear hHeld hK K
        have hHeld := hH2
        clear hH2 hx
        try simp only [Act.put, List.setIfInBounds_toArray, List.set_cons_zero, List.set_cons_succ]
        refine wpAnyH_ready (rs := [18]) (by kernel_rfl) (by simp) (AllReadyH.cons (o := ?oy3218) ?hy3218 (fun K hK => ?sy3218) AllReadyH.nil)
        case hy3218 => simp only [List.getElem?_toArray, List.getElem?_cons_zero, List.getElem?_cons_succ]; rfl
        case sy3218 =>
          go_simp
          refine hK.out _ _ (hHeld.alloc _) (fun _ => ?_)
          clear hK K
          try simp only [Act.put, List.setIfInBounds_toArray, List.set_cons_zero, List.set_cons_succ]
          have B1 := Lib.hid (B0.out.ext hHeld)
          refine wpAnyH_ready (rs := [19]) (by kernel_rfl) (by simp) (AllReadyH.cons (o := ?oy3319) ?hy3319 (fun K hK => ?sy3319) AllReadyH.nil)
          case hy3319 => simp only [List.getElem?_toArray, List.getElem?_cons_zero, List.getElem?_cons_succ]; rfl
          case sy3319 =>
            go_simp
            refine (nodeCat_any x HO.out w.heap.size _ _ p10 _ hn2 B1.out R9.out R13.out R17.out (by rw [← HN.out, HNL.out]; omega) (by rw [← HN.out, HNL.out]; omega)).mono ?_
            rintro e q ⟨v1, rfl, ho, hx⟩
            rw [← HN.out] at ho
            obtain ⟨A1, n1, c1, rfl⟩ := ho.shape3
            have HO1 := Lib.hid ho
            clear ho
            have hH2 := (hHeld.alloc _).trans hx
            refine hK.out _ _ hH2 (fun _ => ?_)
            clear hK K
            try simp only [Act.put, List.setIfInBounds_toArray, List.set_cons_zero, List.set_cons_succ]
            have HE := Lib.hid (XW.out.trans hH2)
            have HG := Lib.hid (show w.heap.size ≤ _ from (XW.out.trans hHeld).size)
            clear hx hHeld
            refine wpAnyH_take (i := 20) (oi := ?oiz34) (v := ?vz34) ?hiz34 (by kernel_rfl) (by kernel_rfl) (by kernel_rfl) ?hQz34 ?hyz34 (by assumption) ?restz34
            case hiz34 => simp only [List.getElem?_toArray, List.getElem?_cons_zero, List.getElem?_cons_succ]; rfl
            case hQz34 => exact fun _ _ _ h => h
            case hyz34 => exact Or.inl ⟨by rfl, by intro w hSw; (try dsimp only at hSw); go_simp; with_reducible rfl⟩
            try simp only [Act.put, List.setIfInBounds_toArray, List.set_cons_zero, List.set_cons_succ]
            refine wpAnyH_done (by kernel_rfl) ?_ _
            go_wp2_with fail
            go_ret
            exact ⟨_, rfl, HO1.out.le (by have := HG.out; simp; omega), HE.out⟩
  case sy1617 =>
    refine stp_conv (s := x.v) Try.underlying9 Try.underlying56 Try.underlying5 rfl (.tmp 19) rfl rfl (by omega) ?_
    intro A17 c17 p11 hr hx
    have R17 := Lib.hid hr
    clear hr
    have hH2 := hHeld.trans hx
    refine hK.out _ _ hH2 (fun _ => ?_)
    clear hHeld hK K
    have hHeld := hH2
    clear hH2 hx
    try simp only [Act.put, List.setIfInBounds_toArray, List.set_cons_zero, List.set_cons_succ]
    refine wpAnyH_ready (rs := [9, 13]) (by kernel_rfl) (by simp) (AllReadyH.cons (o := ?oy359) ?hy359 (fun K hK => ?sy359) (AllReadyH.cons (o := ?oy3513) ?hy3513 (fun K hK => ?sy3513) AllReadyH.nil))
    case hy359 => simp only [List.getElem?_toArray, List.getElem?_cons_zero, List.getElem?_cons_succ]; rfl
    case hy3513 => simp only [List.getElem?_toArray, List.getElem?_cons_zero, List.getElem?_cons_succ]; rfl
    case sy359 =>
      go_simp
      obtain ⟨p12, hp12⟩ : ∃ W, W = World.alloc p11 (.cells #[.int .u8 x.n.size] 5) := ⟨_, rfl⟩
      have hx : Ext p11 p12 := by rw [hp12]; exact ext_alloc _ _
      have r9 : p12.cell? ⟨p11.heap.size, 0, none⟩ = some (.int .u8 x.n.size) := by rw [hp12]; exact (Blk.new _ _ _).at_ 0 rfl
      have R9 := Lib.hid (rdl_one hu r9 1 (Nat.le_refl _))
      clear r9
      rw [← hp12]
      clear hp12
      replace R17 := Lib.hid (R17.out.ext (by decide) hx)
      have hH2 := hHeld.trans hx
      refine hK.out _ _ hH2 (fun _ => ?_)
      clear hHeld hK K
      have hHeld := hH2
      clear hH2 hx
      try simp only [Act.put, List.setIfInBounds_toArray, List.set_cons_zero, List.set_cons_succ]
      refine wpAnyH_ready (rs := [13]) (by kernel_rfl) (by simp) (AllReadyH.cons (o := ?oy3613) ?hy3613 (fun K hK => ?sy3613) AllReadyH.nil)
      case hy3613 => simp only [List.getElem?_toArray, List.getElem?_cons_zero, List.getElem?_cons_succ]; rfl
      case sy3613 =>
        refine stp_conv (s := x.n) Try.underlying9 Try.underlying56 Try.underlying5 rfl (.tmp 15) rfl rfl (by omega) ?_
        intro A13 c13 p13 hr hx
        have R13 := Lib.hid hr
        clear hr
        replace R17 := Lib.hid (R17.out.ext (by decide) hx)
        replace R9 := Lib.hid (R9.out.ext (by decide) hx)
        have hH2 := hHeld.trans hx
        refine hK.out _ _ hH2 (fun _ => ?_)
        clear hHeld hK K
        have hHeld := hH2
        clear hH2 hx
        try simp only [Act.put, List.setIfInBounds_toArray, List.set_cons_zero, List.set_cons_succ]
        refine wpAnyH_ready (rs := [18]) (by kernel_rfl) (by simp) (AllReadyH.cons (o := ?oy3718) ?hy3718 (fun K hK => ?sy3718) AllReadyH.nil)
        case hy3718 => simp only [List.getElem?_toArray, List.getElem?_cons_zero, List.getElem?_cons_succ]; rfl
        case sy3718 =>
          go_simp
          refine hK.out _ _ (hHeld.alloc _) (fun _ => ?_)
          clear hK K
          try simp only [Act.put, List.setIfInBounds_toArray, List.set_cons_zero, List.set_cons_succ]
          have B1 := Lib.hid (B0.out.ext hHeld)
          refine wpAnyH_ready (rs := [19]) (by kernel_rfl) (by simp) (AllReadyH.cons (o := ?oy3819) ?hy3819 (fun K hK => ?sy3819) AllReadyH.nil)
          case hy3819 => simp only [List.getElem?_toArray, List.getElem?_cons_zero, List.getElem?_cons_succ]; rfl
          case sy3819 =>
            go_simp
            refine (nodeCat_any x HO.out w.heap.size _ _ p13 _ hn2 B1.out R9.out R13.out R17.out (by rw [← HN.out, HNL.out]; omega) (by rw [← HN.out, HNL.out]; omega)).mono ?_
            rintro e q ⟨v1, rfl, ho, hx⟩
            rw [← HN.out] at ho
            obtain ⟨A1, n1, c1, rfl⟩ := ho.shape3
            have HO1 := Lib.hid ho
            clear ho
            have hH2 := (hHeld.alloc _).trans hx
            refine hK.out _ _ hH2 (fun _ => ?_)
            clear hK K
            try simp only [Act.put, List.setIfInBounds_toArray, List.set_cons_zero, List.set_cons_succ]
            have HE := Lib.hid (XW.out.trans hH2)
            have HG := Lib.hid (show w.heap.size ≤ _ from (XW.out.trans hHeld).size)
            clear hx hHeld
            refine wpAnyH_take (i := 20) (oi := ?oiz39) (v := ?vz39) ?hiz39 (by kernel_rfl) (by kernel_rfl) (by kernel_rfl) ?hQz39 ?hyz39 (by assumption) ?restz39
            case hiz39 => simp only [List.getElem?_toArray, List.getElem?_cons_zero, List.getElem?_cons_succ]; rfl
            case hQz39 => exact fun _ _ _ h => h
            case hyz39 => exact Or.inl ⟨by rfl, by intro w hSw; (try dsimp only at hSw); go_simp; with_reducible rfl⟩
            try simp only [Act.put, List.setIfInBounds_toArray, List.set_cons_zero, List.set_cons_succ]
            refine wpAnyH_done (by kernel_rfl) ?_ _
            go_wp2_with fail
            go_ret
            exact ⟨_, rfl, HO1.out.le (by have := HG.out; simp; omega), HE.out⟩
    case sy3513 =>
      refine stp_conv (s := x.n) Try.underlying9 Try.underlying56 Try.underlying5 rfl (.tmp 15) rfl rfl (by omega) ?_
      intro A13 c13 p14 hr hx
      have R13 := Lib.hid hr
      clear hr
      replace R17 := Lib.hid (R17.out.ext (by decide) hx)
      have hH2 := hHeld.trans hx
      refine hK.out _ _ hH2 (fun _ => ?_)
      clear hHeld hK K
      have hHeld := hH2
      clear hH2 hx
      try simp only [Act.put, List.setIfInBounds_toArray, List.set_cons_zero, List.set_cons_succ]
      refine wpAnyH_ready (rs := [9]) (by kernel_rfl) (by simp) (AllReadyH.cons (o := ?oy409) ?hy409 (fun K hK => ?sy409) AllReadyH.nil)
      case hy409 => simp only [List.getElem?_toArray, List.getElem?_cons_zero, List.getElem?_cons_succ]; rfl
      case sy409 =>
        go_simp
        obtain ⟨p15, hp15⟩ : ∃ W, W = World.alloc p14 (.cells #[.int .u8 x.n.size] 5) := ⟨_, rfl⟩
        have hx : Ext p14 p15 := by rw [hp15]; exact ext_alloc _ _
        have r9 : p15.cell? ⟨p14.heap.size, 0, none⟩ = some (.int .u8 x.n.size) := by rw [hp15]; exact (Blk.new _ _ _).at_ 0 rfl
        have R9 := Lib.hid (rdl_one hu r9 1 (Nat.le_refl _))
        clear r9
        rw [← hp15]
        clear hp15
        replace R17 := Lib.hid (R17.out.ext (by decide) hx)
        replace R13 := Lib.hid (R13.out.ext (by decide) hx)
        have hH2 := hHeld.trans hx
        refine hK.out _ _ hH2 (fun _ => ?_)
        clear hHeld hK K
        have hHeld := hH2
        clear hH2 hx
        try simp only [Act.put, List.setIfInBounds_toArray, List.set_cons_zero, List.set_cons_succ]
        refine wpAnyH_ready (rs := [18]) (by kernel_rfl) (by simp) (AllReadyH.cons (o := ?oy4118) ?hy4118 (fun K hK => ?sy4118) AllReadyH.nil)
        case hy4118 => simp only [List.getElem?_toArray, List.getElem?_cons_zero, List.getElem?_cons_succ]; rfl
        case sy4118 =>
          go_simp
          refine hK.out _ _ (hHeld.alloc _) (fun _ => ?_)
          clear hK K
          try simp only [Act.put, List.setIfInBounds_toArray, List.set_cons_zero, List.set_cons_succ]
          have B1 := Lib.hid (B0.out.ext hHeld)
          refine wpAnyH_ready (rs := [19]) (by kernel_rfl) (by simp) (AllReadyH.cons (o := ?oy4219) ?hy4219 (fun K hK => ?sy4219) AllReadyH.nil)
          case hy4219 => simp only [List.getElem?_toArray, List.getElem?_cons_zero, List.getElem?_cons_succ]; rfl
          case sy4219 =>
            go_simp
            refine (nodeCat_any x HO.out w.heap.size _ _ p15 _ hn2 B1.out R9.out R13.out R17.out (by rw [← HN.out, HNL.out]; omega) (by rw [← HN.out, HNL.out]; omega)).mono ?_
            rintro e q ⟨v1, rfl, ho, hx⟩
            rw [← HN.out] at ho
            obtain ⟨A1, n1, c1, rfl⟩ := ho.shape3
            have HO1 := Lib.hid ho
            clear ho
            have hH2 := (hHeld.alloc _).trans hx
            refine hK.out _ _ hH2 (fun _ => ?_)
            clear hK K
            try simp only [Act.put, List.setIfInBounds_toArray, List.set_cons_zero, List.set_cons_succ]
            have HE := Lib.hid (XW.out.trans hH2)
            have HG := Lib.hid (show w.heap.size ≤ _ from (XW.out.trans hHeld).size)
            clear hx hHeld
            refine wpAnyH_take (i := 20) (oi := ?oiz43) (v := ?vz43) ?hiz43 (by kernel_rfl) (by kernel_rfl) (by kernel_rfl) ?hQz43 ?hyz43 (by assumption) ?restz43
            case hiz43 => simp only [List.getElem?_toArray, List.getElem?_cons_zero, List.getElem?_cons_succ]; rfl
            case hQz43 => exact fun _ _ _ h => h
            case hyz43 => exact Or.inl ⟨by rfl, by intro w hSw; (try dsimp only at hSw); go_simp; with_reducible rfl⟩
            try simp only [Act.put, List.setIfInBounds_toArray, List.set_cons_zero, List.set_cons_succ]
            refine wpAnyH_done (by kernel_rfl) ?_ _
            go_wp2_with fail
            go_ret
            exact ⟨_, rfl, HO1.out.le (by have := HG.out; simp; omega), HE.out⟩

end Go.Proofs.Ytmndkbheehcoaaa
/- Keys compared. No condition. -/
namespace Go.Proofs.Ytmndkbheehcoaaa
open Go.RowKit
set_option linter.unusedVariables false
set_option linter.unusedSimpArgs false

/-- which of two lists comes first -/
@[irreducible] def cmpL : List Int → List Int → Int
  | x :: a, y :: b => if x = y then cmpL a b else if x < y then -1 else 1
  | _, _ => 0
theorem cmpL_self (a : List Int) : cmpL a a = 0 := by
  induction a with
  | nil => rw [cmpL]; intro x a y b h; cases h
  | cons x r ih => rw [cmpL, if_pos rfl, ih]
theorem cmpL_at (a b : List Int) (k : Nat) (ha : k < a.length) (hb : k < b.length) (h : a.take k = b.take k) (hne : gI a k ≠ gI b k) : cmpL a b = if gI a k < gI b k then -1 else 1 := by
  induction k generalizing a b with
  | zero =>
    match a, b, ha, hb with
    | x :: a, y :: b, _, _ => 
      have hne' : x ≠ y := by simpa [gI] using hne
      rw [cmpL, if_neg hne']; simp [gI]
  | succ k ih =>
    match a, b, ha, hb with
    | x :: a, y :: b, ha, hb =>
      simp only [List.take_succ_cons, List.cons.injEq] at h
      rw [cmpL, if_pos h.1]
      have := ih a b (by simpa using ha) (by simpa using hb) h.2 (by simpa [gI] using hne)
      rw [this]; simp [gI]
set_option maxHeartbeats 1000000 in
set_option maxRecDepth 100000 in
theorem l01Compare_any (a b : List Int) (ha : K32 a) (hb : K32 b) (w : World) :
    Calls Try.prog 109 #[.agg (numsA .u8 a), .agg (numsA .u8 b)] w fun e w' => e = .returned (.int .i64 (cmpL a b)) ∧ Ext w w' := by
  have HA := Lib.hid ha.1
  have HB := Lib.hid hb.1
  go_enter Try.func109, Try.ntmps109
  go_wp2
  go_loopw [5] (fun i wr => ∃ k : Nat, k ≤ 32 ∧ i = .int .i64 k ∧ a.take k = b.take k ∧ Blk wr w.heap.size 27 (numsA .u8 a) ∧ Blk wr (w.heap.size + 1) 27 (numsA .u8 b) ∧ Ext w wr)
    (fun i _ => 32 - (intOf i).toNat)
  case atStart => exact ⟨0, by omega, rfl, by simp, (Blk.new w _ _).alloc _, Blk.new' (by simp) _ _, (ext_alloc _ _).alloc _⟩
  case round =>
    obtain ⟨k, hk, rfl, ht, h1, h2, hx⟩ := hrel
    have Ht := Lib.hid ht
    have HX := Lib.hid hx
    have H1 := Lib.hid h1
    have H2 := Lib.hid h2
    clear ht h1 h2 hx
    by_cases hlt : k < 32
    · have hd := H1.out.num k (by rw [HA.out]; exact hlt)
      have hd' := H2.out.num k (by rw [HB.out]; exact hlt)
      by_cases he : gI a k = gI b k
      · have He := Lib.hid he
        have hne : (gI a k != gI b k) = false := by simpa using he
        clear he
        go_wp2
        go_quiet (fail)
        go_wp2
        go_roundw
        case rel => exact ⟨k + 1, by omega, by go_num, take_eq_step (by rw [HA.out]; exact hlt) (by rw [HB.out]; exact hlt) Ht.out He.out, H1.out, H2.out, HX.out.drewN _⟩
        case measure => simp [intOf]; omega
      · have hc := cmpL_at a b k (by rw [HA.out]; exact hlt) (by rw [HB.out]; exact hlt) Ht.out he
        have Hc := Lib.hid hc
        clear hc
        have hne : (gI a k != gI b k) = true := by simpa using he
        clear he
        by_cases hlx : gI a k < gI b k
        · have hl2 : decide (gI a k < gI b k) = true := by simpa using hlx
          have Hl := Lib.hid hlx
          clear hlx
          go_wp2
          go_quiet (fail)
          go_wp2
          go_quiet (fail)
          go_wp2
          go_ret
          exact ⟨by rw [Hc.out, if_pos Hl.out]; rfl, (HX.out.drewN _).drewN _⟩
        · have hl2 : decide (gI a k < gI b k) = false := by simpa using hlx
          have Hl := Lib.hid hlx
          clear hlx
          go_wp2
          go_quiet (fail)
          go_wp2
          go_quiet (fail)
          go_wp2
          go_ret
          exact ⟨by rw [Hc.out, if_neg (Int.not_lt.2 Hl.out)]; rfl, (HX.out.drewN _).drewN _⟩
    · go_wp2
      go_ret
      obtain rfl : k = 32 := by omega
      refine ⟨?_, HX.out⟩
      have e := Ht.out
      rw [List.take_of_length_le (by rw [HA.out]; omega), List.take_of_length_le (by rw [HB.out]; omega)] at e
      subst e; rw [cmpL_self]; rfl
set_option maxHeartbeats 1000000 in
set_option maxRecDepth 100000 in
theorem isNaNB_any (x : Int) (w : World) : Calls Try.prog 183 #[.int .u8 x] w fun e w' => e = .returned (.bool false) ∧ w = w' := by
  have h : (x != x) = false := by simp
  go_enter Try.func183, Try.ntmps183
  go_wp2
  go_ret
  exact ⟨rfl, rfl⟩
set_option maxHeartbeats 1000000 in
set_option maxRecDepth 100000 in
theorem cmpB_any (x y : Int) (w : World) : Calls Try.prog 181 #[.int .u8 x, .int .u8 y] w fun e w' => e = .returned (.int .i64 (if x = y then 0 else if x < y then -1 else 1)) ∧ w = w' := by
  rcases Int.lt_trichotomy x y with h | h | h
  · rw [if_neg (by omega), if_pos h]
    go_enter Try.func181, Try.ntmps181
    go_wp2_with (go_at_call 183; refine (isNaNB_any _ _).mono ?_; rintro e w' ⟨rfl, rfl⟩)
    go_ret
    exact ⟨rfl, rfl⟩
  · subst h
    rw [if_pos rfl]
    go_enter Try.func181, Try.ntmps181
    go_wp2_with (go_at_call 183; refine (isNaNB_any _ _).mono ?_; rintro e w' ⟨rfl, rfl⟩)
    go_ret
    exact ⟨rfl, rfl⟩
  · have h2 : ¬ x < y := by omega
    rw [if_neg (by omega), if_neg h2]
    go_enter Try.func181, Try.ntmps181
    go_wp2_with (go_at_call 183; refine (isNaNB_any _ _).mono ?_; rintro e w' ⟨rfl, rfl⟩)
    go_ret
    exact ⟨rfl, rfl⟩
set_option maxHeartbeats 1000000 in
set_option maxRecDepth 100000 in
theorem slCompare_any (v u : Value) (a b : List Int) (w : World) (S S' : Nat → Prop) (h : RdL tByte w S v a) (h' : RdL tByte w S' u b) (hl : a.length = b.length) :
    Calls Try.prog 176 #[v, u] w fun e w' => e = .returned (.int .i64 (cmpL a b)) ∧ Ext w w' := by
  obtain ⟨A, cap, rfl, hcap, hlen, hrd, hok⟩ := h
  obtain ⟨A', cap', rfl, hcap', hlen', hrd', hok'⟩ := h'
  have Hrd := Lib.hid (show Rd w S 1 A a.length (nums .u8 a) by rw [← flat_bytes]; exact hrd)
  have Hrd' := Lib.hid (show Rd w S' 1 A' b.length (nums .u8 b) by rw [← flat_bytes]; exact hrd')
  have Hl := Lib.hid hl
  clear hrd hrd' hl
  go_enter Try.func176, Try.ntmps176
  go_wp2
  go_loopw [11] (fun i wr => ∃ k : Nat, k ≤ a.length ∧ i = .int .i64 k ∧ a.take k = b.take k ∧ Ext w wr) (fun i _ => a.length - (intOf i).toNat)
  case atStart => exact ⟨0, by omega, rfl, by simp, Ext.refl _⟩
  case round =>
    obtain ⟨k, hk, rfl, ht, hx⟩ := hrel
    have Ht := Lib.hid ht
    have HX := Lib.hid hx
    clear ht hx
    have hbl : (b.length : Int) = a.length := by rw [Hl.out]
    by_cases hlt : k < a.length
    · have hlt' : k < b.length := by rw [← Hl.out]; exact hlt
      obtain ⟨g, o, rfl, hs, hc⟩ := (Hrd.out).byte k hlt
      obtain ⟨g', o', rfl, hs', hc'⟩ := (Hrd'.out).byte k hlt'
      have hd := HX.out.cell hc
      have hd' := HX.out.cell hc'
      have hi : (0 : Int) ≤ (k : Int) := by omega
      have hi2 : (k : Int) < (a.length : Int) := by omega
      have hi3 : (k : Int) < (b.length : Int) := by omega
      clear hc hc' hbl
      have hcm := fun W => cmpB_any (gI a k) (gI b k) W
      by_cases he : gI a k = gI b k
      · have He := Lib.hid he
        simp only [if_pos he] at hcm
        clear he
        go_wp2_with fail
        refine (hcm _).mono ?_
        rintro e w' ⟨rfl, rfl⟩
        go_wp2
        go_roundw
        case rel => exact ⟨k + 1, by omega, by go_num, take_eq_step hlt hlt' Ht.out He.out, HX.out⟩
        case measure => simp [intOf]; omega
      · have HC := Lib.hid (cmpL_at a b k hlt hlt' Ht.out he)
        simp only [if_neg he] at hcm
        clear he
        by_cases hlx : gI a k < gI b k
        · have Hlx := Lib.hid hlx
          simp only [if_pos hlx] at hcm
          clear hlx
          go_wp2_with fail
          refine (hcm _).mono ?_
          rintro e w' ⟨rfl, rfl⟩
          go_wp2
          go_ret
          exact ⟨by rw [HC.out, if_pos Hlx.out]; rfl, HX.out⟩
        · have Hlx := Lib.hid (Int.not_lt.1 hlx)
          simp only [if_neg hlx] at hcm
          clear hlx
          go_wp2_with fail
          refine (hcm _).mono ?_
          rintro e w' ⟨rfl, rfl⟩
          go_wp2
          go_ret
          exact ⟨by rw [HC.out, if_neg (Int.not_lt.2 Hlx.out)]; rfl, HX.out⟩
    · have hq : ¬ (a.length : Int) < (b.length : Int) := by omega
      clear hbl
      go_wp2
      go_ret
      obtain rfl : k = a.length := by omega
      refine ⟨?_, HX.out⟩
      have e := Ht.out
      rw [List.take_of_length_le (by omega), List.take_of_length_le (by rw [← Hl.out]; omega)] at e
      subst e; rw [cmpL_self]; rfl
theorem numsA_full {xs : List Int} (j : Nat) (u : Value) (hu : (numsA .u8 xs)[j]? = some u) : (numsA .u8 xs)[0 + j]? = some u := by rw [Nat.zero_add]; exact hu
set_option maxHeartbeats 1000000 in
set_option maxRecDepth 100000 in
theorem compareKeys_any (a b : List Int) (ha : K32 a) (hb : K32 b) (w : World) :
    Calls Try.prog 165 #[.agg (numsA .u8 a), .agg (numsA .u8 b)] w fun e w' => e = .returned (.int .i64 (cmpL a b)) ∧ Ext w w' := by
  have HA := Lib.hid ha
  have HB := Lib.hid hb
  clear ha hb
  go_enter Try.func165, Try.ntmps165
  go_wp2_with fail
  go_region_held3 (fun W => Ext ((w.alloc (.cells (numsA .u8 a) 27)).alloc (.cells (numsA .u8 b) 27)) W) (first | exact Ext.refl _ | exact (Ext.refl _).drew | exact Ext.trans (by assumption) (by assumption))
    (first
    | (go_at_call 176; refine (slCompare_any _ _ a b _ _ _ (rdl_blk (((Blk.new w 27 (numsA .u8 a)).alloc _).ext ((Ext.refl _).drew)) numsA_full HA.out.1 HA.out.2 (by decide) 32 (Nat.le_refl _)) (rdl_blk ((Blk.new' (g := w.heap.size + 1) (w := w.alloc (.cells (numsA .u8 a) 27)) (by simp) 27 (numsA .u8 b)).ext ((Ext.refl _).drew)) numsA_full HB.out.1 HB.out.2 (by decide) 32 (Nat.le_refl _)) (by rw [HA.out.1, HB.out.1])).mono ?_; rintro e p1 ⟨rfl, hx⟩))
  go_wp2
  go_ret
  exact ⟨rfl, ((ext_alloc w _).alloc _).trans (by assumption)⟩

end Go.Proofs.Ytmndkbheehcoaaa
/- Lists of keys: copied, counted, held against each other. No condition. -/
namespace Go.Proofs.Ytmndkbheehcoaaa
open Go.RowKit
set_option linter.unusedVariables false
set_option linter.unusedSimpArgs false

theorem make_rowN {P : Program} (t e : TypeId) (sz bytes : Nat) (ht : P.underlying t = some (.slice e)) (hinfo : (P.info? e).map (fun i => (i.zero.isSome, i.size, i.bytes)) = some (true, sz, bytes)) (kl kc : IntKind) (n : Nat) (hbytes : bytes * n ≤ 281474976710656) (h63 : n ≤ 9223372036854775807) :
    ∃ Z : Array Value, Z.size = n * sz ∧ ∀ W : World, (Instr.makeSlice t (.int kl (n : Int)) (.int kc (n : Int))).run P W = .ok (.slice (some ⟨W.heap.size, 0, none⟩) n n) (W.alloc (.cells Z e)) := by
  obtain ⟨i, hi, hzz⟩ := Option.map_eq_some_iff.1 hinfo
  simp only [Prod.mk.injEq] at hzz
  obtain ⟨hz, hs, hb⟩ := hzz
  obtain ⟨z, hz⟩ := Option.isSome_iff_exists.1 hz
  refine ⟨madeCells z.cells (n * sz), size_madeCells _ _, fun W => ?_⟩
  have hb' : (i.bytes : Int) * (n : Int) ≤ 281474976710656 := by
    have h : ((i.bytes * n : Nat) : Int) ≤ 281474976710656 := by rw [hb]; omega
    rwa [Int.natCast_mul] at h
  have hr := run_make (P := P) W t e i z ht hi hz kl kc n n (by omega) (Int.le_refl _) hb' (by omega)
  simp only [Int.toNat_natCast, hs] at hr
  exact hr
theorem toKeyT_any (a : List Int) (ha : tKey.ok a) (w : World) :
    Calls Try.prog 22 #[.agg (tKey.enc a).toArray] w fun e w' => e = .returned (.agg (tKey.enc a).toArray) ∧ Ext w w' := toKey_any a ha w
/-- a load of an element that any world behind w0 answers alike -/
theorem yields_loadR {P : Program} {ops : Array Oper} {op : Oper} {a : Act} {w0 : World} {t : Nat} (g o : Nat) (cs : List Value) (ht : Agg P t cs.length) (hc : ∀ j u, cs[j]? = some u → w0.cell? ⟨g, o + j, none⟩ = some u) (hw : Region.wanted op (yielded ops a.tmps) = true) (x : Operand) (ho : op.op = .load t x) (hx : a.eval x = .pointer (some ⟨g, o, none⟩)) :
    YieldsIf P ops (fun W => Ext w0 W) op (.agg cs.toArray) a := Or.inl ⟨hw, fun W hW => by
  unfold execOp
  simp only [ho, hx, Instr.loadAt, Instr.sureAddr, Sem.run_bind, Sem.run_pure, Result.andThen_ok, run_loadVar_at (P := P) (w := W) ⟨g, o, none⟩ cs ht (fun j u hu => by rw [Addr.add_lit]; exact hW.cell (hc j u hu))]⟩
theorem eqKeyT_any (a : List Int) (ha : tKey.ok a) (w : World) :
    Calls Try.prog 90 #[.agg (tKey.enc a).toArray, .agg (tKey.enc a).toArray] w fun e w' => e = .returned (.bool true) ∧ Ext w w' := by
  refine (eqKey_any a a ha ha w).mono ?_
  rintro e w' ⟨rfl, hx⟩
  exact ⟨by rw [beq_self_eq_true], hx⟩
end Go.Proofs.Ytmndkbheehcoaaa
/- Lists of entries: copied, counted, held against each other. No condition. -/
namespace Go.Proofs.Ytmndkbheehcoaaa
open Go.RowKit
set_option linter.unusedVariables false
set_option linter.unusedSimpArgs false

abbrev En := ByteArray × ByteArray
def tEnt : Ty En := ⟨2, fun e => [.string e.1, .string e.2], fun e => e.1.size ≤ 140737488351232 ∧ e.2.size ≤ 140737488351232, fun _ _ => rfl, fun _ u hu => by simp at hu; rcases hu with rfl | rfl <;> rfl⟩
theorem toEntT_any (a : En) (ha : tEnt.ok a) (w : World) :
    Calls Try.prog 83 #[.agg (tEnt.enc a).toArray] w fun e w' => e = .returned (.agg (tEnt.enc a).toArray) ∧ Ext w w' := toEntry_any a.1 a.2 w
set_option maxHeartbeats 1000000 in
set_option maxRecDepth 100000 in
theorem toEntryS_u (v : Value) (xs : List En) (w : World) (S : Nat → Prop) (h : RdL tEnt w S v xs) (hln : xs.length ≤ 1048576) :
    Calls Try.prog 15 #[v] w fun e w' => ∃ v', e = .returned v' ∧ Own tEnt 29 w' w.heap.size v' xs ∧ Ext w w' := by
  obtain ⟨A, cap, rfl, hcap, hlen, hrd, hok⟩ := h
  have Hrd := Lib.hid hrd
  have Hok := Lib.hid hok
  have HF := Lib.hid (flat_length tEnt xs hok)
  clear hrd hok
  obtain ⟨Z, hms, hm⟩ := make_rowN 34 29 2 32 Try.underlying34 (by kernel_rfl) .i64 .i64 xs.length (by omega) (by omega)
  have HMS := Lib.hid hms
  clear hms
  go_enter Try.func15, Try.ntmps15
  go_wp2
  go_loopw [4] (fun i wr => ∃ k : Nat, k ≤ xs.length ∧ i = .int .i64 k ∧ Fill wr w.heap.size 29 ((xs.take k).flatMap (tEnt).enc) ((xs.length - k) * 2) ∧ Ext w wr)
    (fun i _ => xs.length - (intOf i).toNat)
  case atStart => exact ⟨0, by omega, rfl, by rw [List.take_zero]; exact Fill.start' (Blk.new w _ _) (by rw [HMS.out, Nat.sub_zero]), ext_alloc _ _⟩
  case round =>
    obtain ⟨k, hk, rfl, hF, hx⟩ := hrel
    have HFl := Lib.hid hF
    have HX := Lib.hid hx
    clear hm hF hx
    by_cases hlt : k < xs.length
    · obtain ⟨g, o, rfl, hs, hc⟩ := Hrd.out.elem Hok.out k hlt
      have hx0 : (tEnt).ok xs[k] := Hok.out _ (List.getElem_mem hlt)
      have HX0 := Lib.hid hx0
      have hd : ∀ j u, ((tEnt).enc xs[k])[j]? = some u → wr.cell? ⟨g, o + k * 2 + j, none⟩ = some u := fun j u hu => HX.out.cell (hc j u hu)
      have HD := Lib.hid hd
      have HL := Lib.hid (flat_length tEnt (xs.take k) (fun x hx => Hok.out x (List.mem_of_mem_take hx)))
      have HTK := Lib.hid (show (xs.take k).length = k by rw [List.length_take]; omega)
      have HSN := Lib.hid (show (xs.take (k + 1)).flatMap (tEnt).enc = (xs.take k).flatMap (tEnt).enc ++ (tEnt).enc xs[k] by rw [List.take_succ_eq_append_getElem hlt, List.flatMap_append, List.flatMap_cons, List.flatMap_nil, List.append_nil])
      have HST := Lib.hid (show St 2 ((tEnt).enc xs[k]).toArray from ⟨by rw [List.size_toArray]; exact (tEnt).len _ hx0, by simpa using (tEnt).one _⟩)
      have HMU := Lib.hid (show (xs.length - k) * 2 = 2 + (xs.length - (k + 1)) * 2 by omega)
      clear hc hd hx0
      have hi : (0 : Int) ≤ (k : Int) := by omega
      go_wp2_with (refine wpl_load ⟨g, o + k * 2, none⟩ ((tEnt).enc xs[k]) (by rw [(tEnt).len _ HX0.out]; exact aggEntryL) rfl _ rfl rfl (fun j u hu => by rw [Addr.add_lit]; exact HD.out j u hu) ?_)
      refine (toEntT_any xs[k] HX0.out _).mono ?_
      rintro e w1 ⟨rfl, hx⟩
      have HF2 := Lib.hid (HFl.out.ext hx)
      have HX2 := Lib.hid (HX.out.trans hx)
      clear hx HX HFl HD
      go_wp2_with (refine wpl_fill (n := 2) (m := (xs.length - (k + 1)) * 2) (by rw [← HMU.out]; exact HF2.out) (by rw [HL.out, HTK.out]; rfl) aggEntryI HST.out rfl _ _ rfl rfl rfl rfl ?_; intro row hF; have HF3 := Lib.hid hF; clear hF)
      go_roundw
      case rel => exact ⟨k + 1, by omega, by go_num, by rw [HSN.out]; simpa using HF3.out, HX2.out.setRow (Nat.le_refl _) _⟩
      case measure => simp [intOf]; omega
    · obtain rfl : k = xs.length := by omega
      have hb := HFl.out
      rw [List.take_length, Nat.sub_self, Nat.zero_mul] at hb
      have HB := Lib.hid hb.done
      clear hb
      go_wp2
      go_ret
      exact ⟨_, rfl, Own.of_blk tEnt HB.out (Nat.le_refl _) hlen Hok.out, HX.out⟩

set_option maxHeartbeats 1000000 in
set_option maxRecDepth 100000 in
theorem eqEntT_any (a : En) (ha : tEnt.ok a) (w : World) :
    Calls Try.prog 91 #[.agg (tEnt.enc a).toArray, .agg (tEnt.enc a).toArray] w fun e w' => e = .returned (.bool true) ∧ Ext w w' := by
  have q1 : (a.1.toList != a.1.toList) = false := by simp
  have q2 : (a.2.toList != a.2.toList) = false := by simp
  show Calls Try.prog 91 #[.agg #[.string a.1, .string a.2], .agg #[.string a.1, .string a.2]] w _
  go_enter Try.func91, Try.ntmps91
  go_wp2
  go_ret
  exact ⟨rfl, (ext_alloc _ _).alloc _⟩
set_option maxHeartbeats 1000000 in
set_option maxRecDepth 100000 in
theorem eqEntryS_u (v u : Value) (xs : List En) (w : World) (S S' : Nat → Prop) (h : RdL tEnt w S v xs) (h' : RdL tEnt w S' u xs) :
    Calls Try.prog 19 #[v, u] w fun e w' => e = .returned (.bool true) ∧ Ext w w' := by
  obtain ⟨A, cap, rfl, hcap, hlen, hrd, hok⟩ := h
  obtain ⟨A', cap', rfl, hcap', hlen', hrd', hok'⟩ := h'
  have Hrd := Lib.hid hrd
  have Hrd' := Lib.hid hrd'
  have Hok := Lib.hid hok
  clear hrd hok hrd' hok'
  have hl1 : ((xs.length : Int) != (xs.length : Int)) = false := by simp
  go_enter Try.func19, Try.ntmps19
  go_wp2
  go_loopw [5] (fun i wr => ∃ k : Nat, k ≤ xs.length ∧ i = .int .i64 k ∧ Ext w wr) (fun i _ => xs.length - (intOf i).toNat)
  case atStart => exact ⟨0, by omega, rfl, Ext.refl _⟩
  case round =>
    obtain ⟨k, hk, rfl, hx⟩ := hrel
    have HX := Lib.hid hx
    clear hx hl1
    by_cases hlt : k < xs.length
    · obtain ⟨g, o, rfl, hs, hc⟩ := Hrd.out.elem Hok.out k hlt
      obtain ⟨g2, o2, rfl, hs2, hc2⟩ := Hrd'.out.elem Hok.out k hlt
      have HX0 := Lib.hid (show (tEnt).ok xs[k] from Hok.out _ (List.getElem_mem hlt))
      have HD := Lib.hid (show ∀ j u, ((tEnt).enc xs[k])[j]? = some u → wr.cell? ⟨g, o + k * 2 + j, none⟩ = some u from fun j u hu => HX.out.cell (hc j u hu))
      have HD2 := Lib.hid (show ∀ j u, ((tEnt).enc xs[k])[j]? = some u → wr.cell? ⟨g2, o2 + k * 2 + j, none⟩ = some u from fun j u hu => HX.out.cell (hc2 j u hu))
      clear hc hc2
      have hi : (0 : Int) ≤ (k : Int) := by omega
      have hi2 : (k : Int) < (xs.length : Int) := by omega
      go_wp2_with fail
      refine wp_region_held_drew (S := fun W => Ext wr W) (by kernel_rfl) (Ext.refl _).drew (fun hHeld => ?_)
      refine wpAnyH_take (i := 0) (oi := ?oiq0) (v := ?vq0) ?hiq0 (by kernel_rfl) (by kernel_rfl) (by kernel_rfl) ?hQq0 ?hyq0 (by assumption) ?restq0
      case hiq0 => simp only [List.getElem?_toArray, List.getElem?_cons_zero, List.getElem?_cons_succ]; rfl
      case hQq0 => exact fun _ _ _ h => h
      case hyq0 => exact Or.inl ⟨by rfl, by intro w hSw; go_simp; with_reducible rfl⟩
      try simp only [Act.put, List.setIfInBounds_toArray, List.set_cons_zero, List.set_cons_succ]
      refine wpAnyH_take (i := 1) (oi := ?oiq1) (v := ?vq1) ?hiq1 (by kernel_rfl) (by kernel_rfl) (by kernel_rfl) ?hQq1 ?hyq1 (by assumption) ?restq1
      case hiq1 => simp only [List.getElem?_toArray, List.getElem?_cons_zero, List.getElem?_cons_succ]; rfl
      case hQq1 => exact fun _ _ _ h => h
      case hyq1 => exact Or.inl ⟨by rfl, by intro w hSw; go_simp; with_reducible rfl⟩
      try simp only [Act.put, List.setIfInBounds_toArray, List.set_cons_zero, List.set_cons_succ]
      refine wpAnyH_take (i := 2) (oi := ?oiq2) (v := ?vq2) ?hiq2 (by kernel_rfl) (by kernel_rfl) (by kernel_rfl) ?hQq2 ?hyq2 (by assumption) ?restq2
      case hiq2 => simp only [List.getElem?_toArray, List.getElem?_cons_zero, List.getElem?_cons_succ]; rfl
      case hQq2 => exact fun _ _ _ h => h
      case hyq2 => exact Or.inl ⟨by rfl, by intro w hSw; go_simp; with_reducible rfl⟩
      try simp only [Act.put, List.setIfInBounds_toArray, List.set_cons_zero, List.set_cons_succ]
      refine wpAnyH_take (i := 3) (oi := ?oiq3) (v := (.agg ((tEnt).enc xs[k]).toArray)) ?hiq3 (by kernel_rfl) (by kernel_rfl) (by kernel_rfl) ?hQq3 ?hyq3 (by assumption) ?restq3
      case hiq3 => simp only [List.getElem?_toArray, List.getElem?_cons_zero, List.getElem?_cons_succ]; rfl
      case hQq3 => exact fun _ _ _ h => h
      case hyq3 => refine yields_loadR g (o + k * 2) ((tEnt).enc xs[k]) (by rw [(tEnt).len _ HX0.out]; exact aggEntryI) HD.out ?_ _ rfl rfl; rfl
      try simp only [Act.put, List.setIfInBounds_toArray, List.set_cons_zero, List.set_cons_succ]
      refine wpAnyH_take (i := 4) (oi := ?oiq4) (v := ?vq4) ?hiq4 (by kernel_rfl) (by kernel_rfl) (by kernel_rfl) ?hQq4 ?hyq4 (by assumption) ?restq4
      case hiq4 => simp only [List.getElem?_toArray, List.getElem?_cons_zero, List.getElem?_cons_succ]; rfl
      case hQq4 => exact fun _ _ _ h => h
      case hyq4 => exact Or.inl ⟨by rfl, by intro w hSw; go_simp; with_reducible rfl⟩
      try simp only [Act.put, List.setIfInBounds_toArray, List.set_cons_zero, List.set_cons_succ]
      refine wpAnyH_take (i := 5) (oi := ?oiq5) (v := ?vq5) ?hiq5 (by kernel_rfl) (by kernel_rfl) (by kernel_rfl) ?hQq5 ?hyq5 (by assumption) ?restq5
      case hiq5 => simp only [List.getElem?_toArray, List.getElem?_cons_zero, List.getElem?_cons_succ]; rfl
      case hQq5 => exact fun _ _ _ h => h
      case hyq5 => exact Or.inl ⟨by rfl, by intro w hSw; go_simp; with_reducible rfl⟩
      try simp only [Act.put, List.setIfInBounds_toArray, List.set_cons_zero, List.set_cons_succ]
      refine wpAnyH_take (i := 6) (oi := ?oiq6) (v := ?vq6) ?hiq6 (by kernel_rfl) (by kernel_rfl) (by kernel_rfl) ?hQq6 ?hyq6 (by assumption) ?restq6
      case hiq6 => simp only [List.getElem?_toArray, List.getElem?_cons_zero, List.getElem?_cons_succ]; rfl
      case hQq6 => exact fun _ _ _ h => h
      case hyq6 => exact Or.inl ⟨by rfl, by intro w hSw; go_simp; with_reducible rfl⟩
      try simp only [Act.put, List.setIfInBounds_toArray, List.set_cons_zero, List.set_cons_succ]
      refine wpAnyH_take (i := 7) (oi := ?oiq7) (v := (.agg ((tEnt).enc xs[k]).toArray)) ?hiq7 (by kernel_rfl) (by kernel_rfl) (by kernel_rfl) ?hQq7 ?hyq7 (by assumption) ?restq7
      case hiq7 => simp only [List.getElem?_toArray, List.getElem?_cons_zero, List.getElem?_cons_succ]; rfl
      case hQq7 => exact fun _ _ _ h => h
      case hyq7 => refine yields_loadR g2 (o2 + k * 2) ((tEnt).enc xs[k]) (by rw [(tEnt).len _ HX0.out]; exact aggEntryI) HD2.out ?_ _ rfl rfl; rfl
      try simp only [Act.put, List.setIfInBounds_toArray, List.set_cons_zero, List.set_cons_succ]
      refine wpAnyH_ready (rs := [8]) (by kernel_rfl) (by simp) (AllReadyH.cons (o := ?o8) ?h8 (fun K hK => ?s8) AllReadyH.nil)
      case h8 => simp only [List.getElem?_toArray, List.getElem?_cons_zero, List.getElem?_cons_succ]; rfl
      go_simp
      refine (eqEntT_any xs[k] HX0.out _).mono ?_
      rintro e w1 ⟨rfl, hx⟩
      have hH2 := hHeld.trans hx
      refine hK.out _ _ hH2 (fun _ => ?_)
      clear hHeld hK K
      have hHeld := hH2
      clear hH2 hx
      try simp only [Act.put, List.setIfInBounds_toArray, List.set_cons_zero, List.set_cons_succ]
      refine wpAnyH_take (i := 9) (oi := ?oiq9) (v := ?vq9) ?hiq9 (by kernel_rfl) (by kernel_rfl) (by kernel_rfl) ?hQq9 ?hyq9 (by assumption) ?restq9
      case hiq9 => simp only [List.getElem?_toArray, List.getElem?_cons_zero, List.getElem?_cons_succ]; rfl
      case hQq9 => exact fun _ _ _ h => h
      case hyq9 => exact Or.inl ⟨by rfl, by intro w hSw; go_simp; with_reducible rfl⟩
      try simp only [Act.put, List.setIfInBounds_toArray, List.set_cons_zero, List.set_cons_succ]
      refine wpAnyH_done (by kernel_rfl) ?_ _
      have HX2 := Lib.hid (HX.out.trans hHeld)
      clear hHeld
      go_wp2
      go_roundw
      case rel => exact ⟨k + 1, by omega, by go_num, HX2.out⟩
      case measure => simp [intOf]; omega
    · go_wp2
      go_ret
      exact ⟨rfl, HX.out⟩

/-- how much the entries take -/
@[irreducible] def entsN (l : List En) : Nat := l.length + (l.map fun e => e.1.size + e.2.size).sum
theorem entsN_eq (l : List En) : entsN l = l.length + (l.map fun e => e.1.size + e.2.size).sum := by rw [entsN]
def sumN (l : List En) (k : Nat) : Nat := ((l.take k).map fun e => e.1.size + e.2.size).sum
theorem sumN_zero (l : List En) : sumN l 0 = 0 := by simp [sumN]
theorem sumN_succ (l : List En) (k : Nat) (h : k < l.length) : sumN l (k + 1) = sumN l k + (l[k].1.size + l[k].2.size) := by
  unfold sumN
  rw [List.take_succ_eq_append_getElem h, List.map_append, List.sum_append]; simp
theorem sumN_le (l : List En) (k : Nat) : sumN l k ≤ (l.map fun e => e.1.size + e.2.size).sum := by
  unfold sumN
  conv => rhs; rw [← List.take_append_drop k l, List.map_append, List.sum_append]
  omega
set_option maxHeartbeats 1000000 in
set_option maxRecDepth 100000 in
theorem szEntryS_u (v : Value) (xs : List En) (l : Int) (w : World) (S : Nat → Prop) (h : RdL tEnt w S v xs) (h0 : -1 ≤ l) (h1 : l ≤ 1048576) :
    Calls Try.prog 12 #[v, .int .i64 l] w fun e w' => e = .returned (.int .i64 (if l - (entsN xs : Nat) < 0 then -1 else l - (entsN xs : Nat))) ∧ Ext w w' := by
  rw [entsN_eq]
  obtain ⟨A, cap, rfl, hcap, hlen, hrd, hok⟩ := h
  have Hrd := Lib.hid hrd
  have Hok := Lib.hid hok
  obtain ⟨T, hT⟩ : ∃ T, (xs.map fun e => e.1.size + e.2.size).sum = T := ⟨_, rfl⟩
  have hle := fun k => sumN_le xs k
  rw [hT] at hle ⊢
  have HT := Lib.hid hT
  have HLE := Lib.hid hle
  clear hrd hok hT hle
  by_cases h2 : l - (xs.length : Int) < 0
  · rw [if_pos (by omega)]
    go_enter Try.func12, Try.ntmps12
    go_wp2
    go_ret
    exact ⟨rfl, Ext.refl _⟩
  · obtain ⟨z, hz⟩ : ∃ z : Int, (if l - ((xs.length + T : Nat) : Int) < 0 then -1 else l - ((xs.length + T : Nat) : Int)) = z := ⟨_, rfl⟩
    rw [hz]
    have HZ := Lib.hid hz
    clear hz
    go_enter Try.func12, Try.ntmps12
    go_wp2
    go_loopw [1, 5] (fun q i wr => ∃ k : Nat, k ≤ xs.length ∧ i = .int .i64 k ∧ q = .int .i64 (l - xs.length - (sumN xs k : Nat)) ∧ 0 ≤ l - (xs.length : Int) - (sumN xs k : Nat) ∧ Ext w wr) (fun _ i _ => xs.length - (intOf i).toNat)
    case atStart => exact ⟨0, by omega, rfl, by rw [sumN_zero]; simp, by rw [sumN_zero]; omega, Ext.refl _⟩
    case round =>
      obtain ⟨k, hk, rfl, rfl, hs, hx⟩ := hrel
      have HX := Lib.hid hx
      clear hx
      by_cases hlt : k < xs.length
      · obtain ⟨g, o, rfl, hs0, hc⟩ := Hrd.out.elem Hok.out k hlt
        have HX0 := Lib.hid (show tEnt.ok xs[k] from Hok.out _ (List.getElem_mem hlt))
        have HD0 := Lib.hid (show ∀ j u, (tEnt.enc xs[k])[j]? = some u → wr.cell? ⟨g, o + k * 2 + j, none⟩ = some u from fun j u hu => HX.out.cell (hc j u hu))
        have HSS := Lib.hid (sumN_succ xs k hlt)
        have hq := HLE.out (k + 1)
        rw [HSS.out] at hq
        clear hc
        have hi : (0 : Int) ≤ (k : Int) := by omega
        have hi2 : (k : Int) < (xs.length : Int) := by omega
        have hcz := fun W => szEntry_any xs[k].1 xs[k].2 HX0.out.1 HX0.out.2 (l - xs.length - (sumN xs k : Nat)) (by omega) (by omega) W
        by_cases h3 : l - (xs.length : Int) - (sumN xs k : Nat) - xs[k].1.size - xs[k].2.size < 0
        · simp only [if_pos h3] at hcz
          have HP := Lib.hid (show l - ((xs.length + T : Nat) : Int) < 0 by omega)
          go_wp2_with (refine wpl_load ⟨g, o + k * 2, none⟩ (tEnt.enc xs[k]) aggEntryL rfl _ rfl rfl (fun j u hu => by rw [Addr.add_lit]; exact HD0.out j u hu) ?_)
          refine (hcz _).mono ?_
          rintro e w1 ⟨rfl, hx⟩
          have HX2 := Lib.hid (HX.out.trans hx)
          clear hx
          go_wp2
          go_ret
          exact ⟨by rw [← HZ.out, if_pos HP.out]; rfl, HX2.out⟩
        · simp only [if_neg h3] at hcz
          go_wp2_with (refine wpl_load ⟨g, o + k * 2, none⟩ (tEnt.enc xs[k]) aggEntryL rfl _ rfl rfl (fun j u hu => by rw [Addr.add_lit]; exact HD0.out j u hu) ?_)
          refine (hcz _).mono ?_
          rintro e w1 ⟨rfl, hx⟩
          have HX2 := Lib.hid (HX.out.trans hx)
          clear hx hcz
          go_wp2
          go_roundw
          case rel => exact ⟨k + 1, by omega, by go_num, by rw [HSS.out]; go_num, by rw [HSS.out]; omega, HX2.out⟩
          case measure => simp [intOf]; omega
      · obtain rfl : k = xs.length := by omega
        have e : sumN xs xs.length = T := by rw [sumN, List.take_length]; exact HT.out
        have HE := Lib.hid e
        rw [e] at hs
        clear e
        have HP := Lib.hid (show ¬ l - ((xs.length + T : Nat) : Int) < 0 by omega)
        go_wp2
        go_ret
        exact ⟨by rw [← HZ.out, if_neg (Int.not_lt.2 HP.out), HE.out]; exact ret_int (by omega), HX.out⟩

end Go.Proofs.Ytmndkbheehcoaaa
/- Texts in order; their comparison. No condition. -/
namespace Go.Proofs.Ytmndkbheehcoaaa
open Go.RowKit
set_option linter.unusedVariables false
set_option linter.unusedSimpArgs false

theorem less_irrefl (a : List UInt8) : Op.bytesLess a a = false := by
  induction a with
  | nil => rfl
  | cons x r ih => simp [Op.bytesLess, ih]
theorem less_trans : ∀ (a b c : List UInt8), Op.bytesLess a b = true → Op.bytesLess b c = true → Op.bytesLess a c = true
  | [], [], _, h, _ => by simp [Op.bytesLess] at h
  | _ :: _, [], _, h, _ => by simp [Op.bytesLess] at h
  | _, _ :: _, [], _, h => by simp [Op.bytesLess] at h
  | [], _ :: _, _ :: _, _, _ => by simp [Op.bytesLess]
  | x :: a, y :: b, z :: c, h, k => by
    simp only [Op.bytesLess, Bool.or_eq_true, decide_eq_true_eq, Bool.and_eq_true, beq_iff_eq] at h k ⊢
    rcases h with h | ⟨rfl, h⟩
    · rcases k with k | ⟨rfl, k⟩
      · exact .inl (UInt8.lt_trans h k)
      · exact .inl h
    · rcases k with k | ⟨rfl, k⟩
      · exact .inl k
      · exact .inr ⟨rfl, less_trans a b c h k⟩
theorem less_total : ∀ (a b : List UInt8), Op.bytesLess a b = false → Op.bytesLess b a = false → a = b
  | [], [], _, _ => rfl
  | _ :: _, [], _, h => by simp [Op.bytesLess] at h
  | [], _ :: _, h, _ => by simp [Op.bytesLess] at h
  | x :: a, y :: b, h, k => by
    simp only [Op.bytesLess, Bool.or_eq_false_iff, decide_eq_false_iff_not, Bool.and_eq_false_iff, beq_eq_false_iff_ne] at h k
    have e : x = y := by
      have h1 := h.1
      have k1 := k.1
      exact UInt8.le_antisymm (UInt8.not_lt.1 k1) (UInt8.not_lt.1 h1)
    subst e
    rw [less_total a b (h.2.resolve_left (fun q => q rfl)) (k.2.resolve_left (fun q => q rfl))]
/-- a comes ahead of b -/
@[irreducible] def ltB (a b : ByteArray) : Bool := Op.bytesLess a.toList b.toList
theorem ltB_eq (a b : ByteArray) : Op.bytesLess a.toList b.toList = ltB a b := by rw [ltB]
theorem toList_inj {a b : ByteArray} (h : a.toList = b.toList) : a = b := by
  rw [ByteArray.toList_eq, ByteArray.toList_eq] at h
  exact ByteArray.ext (Array.toList_inj.1 h)
theorem ltB_irrefl (a : ByteArray) : ltB a a = false := by rw [ltB]; exact less_irrefl _
theorem ltB_trans {a b c : ByteArray} (h : ltB a b = true) (k : ltB b c = true) : ltB a c = true := by rw [ltB] at h k ⊢; exact less_trans _ _ _ h k
theorem ltB_total {a b : ByteArray} (h : ltB a b = false) (k : ltB b a = false) : a = b := by rw [ltB] at h k; exact toList_inj (less_total _ _ h k)
theorem ltB_asymm {a b : ByteArray} (h : ltB a b = true) : ltB b a = false := by
  cases k : ltB b a with
  | false => rfl
  | true => have := ltB_trans h k; rw [ltB_irrefl] at this; cases this
theorem ltB_ne {a b : ByteArray} (h : ltB a b = true) : a ≠ b := fun e => by subst e; rw [ltB_irrefl] at h; cases h
/-- the comparison of two texts -/
@[irreducible] def cmpS (a b : ByteArray) : Int := if ltB a b then -1 else if ltB b a then 1 else 0
theorem cmpS_eq (a b : ByteArray) : cmpS a b = if ltB a b then -1 else if ltB b a then 1 else 0 := by rw [cmpS]
theorem cmpS_lt (a b : ByteArray) : cmpS a b < 0 ↔ ltB a b = true := by
  rw [cmpS]
  split
  · simp [*]
  · split <;> simp [*]
theorem cmpS_zero (a b : ByteArray) : cmpS a b = 0 ↔ a = b := by
  rw [cmpS]
  constructor
  · intro h
    split at h
    · cases h
    · rename_i h1
      split at h
      · cases h
      · rename_i h2
        exact ltB_total (by simpa using h1) (by simpa using h2)
  · rintro rfl
    simp [ltB_irrefl]
set_option maxHeartbeats 1000000 in
set_option maxRecDepth 100000 in
theorem isNaNS_any (x : ByteArray) (w : World) : Calls Try.prog 173 #[.string x] w fun e w' => e = .returned (.bool false) ∧ w = w' := by
  have h : (x.toList != x.toList) = false := by simp
  go_enter Try.func173, Try.ntmps173
  go_wp2
  go_ret
  exact ⟨rfl, rfl⟩
set_option maxHeartbeats 1000000 in
set_option maxRecDepth 100000 in
theorem cmpS_any (x y : ByteArray) (w : World) : Calls Try.prog 160 #[.string x, .string y] w fun e w' => e = .returned (.int .i64 (cmpS x y)) ∧ w = w' := by
  rw [cmpS_eq]
  cases h1 : ltB x y with
  | true =>
    have h2 : Op.bytesLess x.toList y.toList = true := by rw [ltB_eq]; exact h1
    clear h1
    go_enter Try.func160, Try.ntmps160
    go_wp2_with (go_at_call 173; refine (isNaNS_any _ _).mono ?_; rintro e w' ⟨rfl, rfl⟩)
    go_ret
    exact ⟨rfl, rfl⟩
  | false =>
    have h2 : Op.bytesLess x.toList y.toList = false := by rw [ltB_eq]; exact h1
    cases h3 : ltB y x with
    | true =>
      have h4 : (x.toList == y.toList) = false := by
        rw [beq_eq_false_iff_ne]
        exact fun e => ltB_ne h3 (toList_inj e).symm
      clear h1 h3
      go_enter Try.func160, Try.ntmps160
      go_wp2_with (go_at_call 173; refine (isNaNS_any _ _).mono ?_; rintro e w' ⟨rfl, rfl⟩)
      go_ret
      exact ⟨rfl, rfl⟩
    | false =>
      have h4 : (x.toList == y.toList) = true := by rw [ltB_total h1 h3]; simp
      clear h1 h3
      go_enter Try.func160, Try.ntmps160
      go_wp2_with (go_at_call 173; refine (isNaNS_any _ _).mono ?_; rintro e w' ⟨rfl, rfl⟩)
      go_ret
      exact ⟨rfl, rfl⟩

end Go.Proofs.Ytmndkbheehcoaaa
