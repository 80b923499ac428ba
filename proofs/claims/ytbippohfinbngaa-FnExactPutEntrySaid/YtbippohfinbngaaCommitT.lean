/- Commits: copied, counted, held against each other. No condition. -/
import Derived.Test.YtbippohfinbngaaKeyS
namespace Go.Proofs.Ytbippohfinbngaa
open Go.RowKit
set_option linter.unusedVariables false
set_option linter.unusedSimpArgs false

structure Cm where
  root : List Int
  par : List (List Int)
  num : Int
  note : ByteArray
def Cm.cells (x : Cm) (v : Value) : Array Value := (nums .u8 x.root ++ [v, .int .i64 x.num, .string x.note]).toArray
/-- the cells of a commit -/
def RCommit (w : World) (S : Nat → Prop) (cs : Array Value) (x : Cm) : Prop :=
  ∃ v, cs = x.cells v ∧ RdL tKey w S v x.par ∧ K32 x.root ∧ (Lit.int .i64 x.num).wf = true ∧ x.note.size ≤ 140737488351232
section
variable {w w' : World} {S : Nat → Prop} {cs : Array Value} {x : Cm}
theorem RCommit.ext (h : RCommit w S cs x) (e : Ext w w') : RCommit w' S cs x := by
  obtain ⟨v, h1, h2, h3⟩ := h
  exact ⟨v, h1, h2.ext (by decide) e, h3⟩
theorem Cm.st (hr : K32 x.root) (A : Option Addr) (n c : Nat) : St 35 (x.cells (.slice A n c)) := by
  refine ⟨by simp [Cm.cells, nums_length, hr.1], fun u hu => ?_⟩
  rw [Cm.cells, List.toList_toArray] at hu
  rcases List.mem_append.1 hu with hu | hu
  · exact one_nums _ _ u hu
  · simp at hu; rcases hu with rfl | rfl | rfl <;> rfl
theorem RCommit.st (h : RCommit w S cs x) : St 35 cs := by
  obtain ⟨v, rfl, ⟨A, cap, rfl, _⟩, h3, _⟩ := h
  exact Cm.st h3 _ _ _
theorem Cm.at_ (hr : K32 x.root) (v : Value) : (x.cells v)[32]? = some v ∧ (x.cells v)[33]? = some (.int .i64 x.num) ∧ (x.cells v)[34]? = some (.string x.note) := by
  have := hr.1
  refine ⟨?_, ?_, ?_⟩ <;> rw [Cm.cells, List.getElem?_toArray, List.getElem?_append_right (by rw [nums_length]; omega), nums_length, this] <;> rfl
theorem Cm.root_at (v : Value) (j : Nat) (u : Value) (hu : (numsA .u8 x.root)[j]? = some u) : (x.cells v)[0 + j]? = some u := by
  have hj : j < x.root.length := by have := (Array.getElem?_eq_some_iff.1 hu).1; simpa [numsA, nums] using this
  rw [Nat.zero_add, Cm.cells, List.getElem?_toArray, List.getElem?_append_left (by rw [nums_length]; exact hj)]
  simpa [numsA] using hu
end
theorem aggCommitL : Agg Try.prog 160 35 := Agg.mkS (fs := _) Try.underlying160 (by kernel_rfl)
theorem aggCommitI : Agg Try.prog 74 35 := Agg.mkS (fs := _) Try.underlying74 (by kernel_rfl)
theorem Own.setRow_below {α : Type} {T : Ty α} {e : TypeId} {w : World} {base g : Nat} {v : Value} {xs : List α} (h : Own T e w base v xs) (hg : g < base) (row : Array Value) : Own T e (w.setRow g row) base v xs :=
  h.kept (row := some g) ⟨rfl, rfl, rfl, by simp, fun k _ hk => setRow_other _ _ _ _ (fun e => hk (by rw [e]))⟩ (.inr fun e => by have := (h.base_le _ e).1; omega)
attribute [local irreducible] Blk in
set_option maxHeartbeats 1000000 in
set_option maxRecDepth 100000 in
theorem toCommit_o (cs : Array Value) (x : Cm) (w : World) (S : Nat → Prop) (h : RCommit w S cs x) (hln : x.par.length ≤ 1048576) :
    Calls Try.prog 118 #[.agg cs] w fun e w' => ∃ v', e = .returned (.agg (x.cells v')) ∧ Own tKey 71 w' w.heap.size v' x.par ∧ K32 x.root ∧ (Lit.int .i64 x.num).wf = true ∧ x.note.size ≤ 140737488351232 ∧ Ext w w' := by
  obtain ⟨v, rfl, hr, hroot, hnum, hnote⟩ := h
  obtain ⟨A, cap, rfl, hcap, hlen, _⟩ := id hr
  have H := Lib.hid hr
  have HL := Lib.hid (sizeN (k := .u8) hroot.1)
  have HSL := Lib.hid (show St 32 (numsA .u8 x.root) from St.nums hroot.1)
  have Hroot := Lib.hid hroot
  clear hr hroot
  have hat := Cm.at_ Hroot.out (.slice A x.par.length cap)
  have HAT := Lib.hid hat
  clear hat
  go_enter Try.func118, Try.ntmps118
  go_wp2_with (refine wpl_loadP (off := 0) (sub := numsA .u8 x.root) (((Blk.new w _ _).alloc _).alloc _) aggB32 HL.out (Cm.root_at _) rfl _ rfl rfl ?_)
  refine (toKey_any x.root Hroot.out _).mono ?_
  rintro e w1 ⟨rfl, hx⟩
  have B0 := Lib.hid ((((Blk.new w 160 (x.cells (.slice A x.par.length cap))).alloc _).alloc _).ext hx)
  have B1 := Lib.hid (((Blk.new' (g := w.heap.size + 1) (w := w.alloc _) (by simp) 74 _).alloc _).ext hx)
  have F0 := Lib.hid (Fill.start' ((Blk.new' (g := w.heap.size + 2) (w := (w.alloc _).alloc _) (by simp) 74 _).ext hx) (n := 35) rfl)
  have XW := Lib.hid ((((ext_alloc w _).alloc _).alloc _).trans hx)
  clear hx
  have c0 : ∀ row, (w1.setRow (w.heap.size + 2) row).cell? ⟨w.heap.size, 32, none⟩ = some (.slice A x.par.length cap) := fun row => (B0.out.row_far (by omega) _).at_ 32 HAT.out.1
  go_wp2_with (refine wpl_fill (n := 32) (m := 3) F0.out rfl aggKey HSL.out rfl _ _ rfl rfl rfl rfl ?_; intro row hF; have F1 := Lib.hid hF; clear hF)
  refine (toKeyS_u _ x.par _ _ (H.out.ext (by decide) (XW.out.setRow (by omega) _)) hln).mono ?_
  rintro e w2 ⟨v2, rfl, ho, hx⟩
  obtain ⟨A2, n2, c2, rfl⟩ := ho.shape3
  replace B0 := Lib.hid ((B0.out.row_far (by omega) row).ext hx)
  replace B1 := Lib.hid ((B1.out.row_far (by omega) row).ext hx)
  have F2 := Lib.hid (show Fill w2 (w.heap.size + 2) 74 (nums .u8 x.root) 3 by have := F1.out.ext hx; simpa [numsA] using this)
  have hbs : w.heap.size + 3 ≤ (w1.setRow (w.heap.size + 2) row).heap.size := by have := F1.out; obtain ⟨R, _, hb⟩ := this; have := hb.lt; omega
  replace XW := Lib.hid ((XW.out.setRow (by omega) row).trans hx)
  have HO := Lib.hid ho
  clear hx ho F0 F1 c0
  obtain ⟨R, hR, hb⟩ := F2.out
  match R, hR with
  | [r0, r1, r2], _ =>
    have hl : (nums .u8 x.root).length = 32 := by rw [nums_length, Hroot.out.1]
    have HB := Lib.hid hb
    have d0 := B0.out.at_ 33 HAT.out.2.1
    have d1 := B0.out.at_ 34 HAT.out.2.2
    have e0 : w2.cell? ⟨w.heap.size + 2, 32, none⟩ = some r0 := by rw [hb.cell, List.getElem?_toArray, List.getElem?_append_right (by rw [hl]; omega), hl]; rfl
    have e1 : w2.cell? ⟨w.heap.size + 2, 33, none⟩ = some r1 := by rw [hb.cell, List.getElem?_toArray, List.getElem?_append_right (by rw [hl]; omega), hl]; rfl
    have e2 : w2.cell? ⟨w.heap.size + 2, 34, none⟩ = some r2 := by rw [hb.cell, List.getElem?_toArray, List.getElem?_append_right (by rw [hl]; omega), hl]; rfl
    have f0 := hb.free 32
    have f1 := hb.free 33
    have f2 := hb.free 34
    clear hb
    have HST := Lib.hid (Cm.st Hroot.out A2 n2 c2)
    have hsz := HST.out.size
    have HE : Hid (Blk (((w2.setCell ⟨w.heap.size + 2, 32, none⟩ (.slice A2 n2 c2)).setCell ⟨w.heap.size + 2, 33, none⟩ (.int .i64 x.num)).setCell ⟨w.heap.size + 2, 34, none⟩ (.string x.note)) (w.heap.size + 2) 74 (x.cells (.slice A2 n2 c2))) := Lib.hid (by
      have h3 := ((HB.out.set 32 (.slice A2 n2 c2)).set 33 (.int .i64 x.num)).set 34 (.string x.note)
      have e : x.cells (.slice A2 n2 c2) = (((nums .u8 x.root ++ [r0, r1, r2]).toArray.setIfInBounds 32 (.slice A2 n2 c2)).setIfInBounds 33 (.int .i64 x.num)).setIfInBounds 34 (.string x.note) := by
        simp [Cm.cells, List.set_append, hl]
      rw [e]
      exact h3)
    have B1' := Lib.hid (((B1.out.far (p := ⟨w.heap.size + 2, 32, none⟩) (by simp) (.slice A2 n2 c2)).far (p := ⟨w.heap.size + 2, 33, none⟩) (by simp) (.int .i64 x.num)).far (p := ⟨w.heap.size + 2, 34, none⟩) (by simp) (.string x.note))
    go_wp2_with (first
      | (refine wpl_loadB HE.out aggCommitI hsz rfl _ rfl rfl ?_)
      | (refine wpl_storeB B1'.out aggCommitI HST.out rfl rfl _ _ rfl rfl rfl rfl ?_))
    refine bodyPost_ret (results_blkB rfl _ rfl aggCommitI hsz (B1'.out.setRow _)) rfl ?_
    have hsz2 := XW.out.size
    refine ⟨_, rfl, ?_, Hroot.out, hnum, hnote, (((XW.out.set (by simp <;> omega) _).set (by simp <;> omega) _).set (by simp <;> omega) _).setRow (by simp <;> omega) _⟩
    have hb3 : w.heap.size ≤ (w1.setRow (w.heap.size + 2) row).heap.size := by omega
    have q1 : w.heap.size + 2 < (w1.setRow (w.heap.size + 2) row).heap.size := by omega
    have q2 : w.heap.size + 1 < (w1.setRow (w.heap.size + 2) row).heap.size := by omega
    exact ((((HO.out.set_below (p := ⟨w.heap.size + 2, 32, none⟩) q1 (.slice A2 n2 c2)).set_below (p := ⟨w.heap.size + 2, 33, none⟩) q1 (.int .i64 x.num)).set_below (p := ⟨w.heap.size + 2, 34, none⟩) q1 (.string x.note)).setRow_below q2 _).le hb3
theorem toCommit_u (cs : Array Value) (x : Cm) (w : World) (S : Nat → Prop) (h : RCommit w S cs x) (hln : x.par.length ≤ 1048576) :
    Calls Try.prog 118 #[.agg cs] w fun e w' => ∃ cs', e = .returned (.agg cs') ∧ RCommit w' (fun g => w.heap.size ≤ g ∧ g < w'.heap.size) cs' x ∧ Ext w w' := by
  refine (toCommit_o cs x w S h hln).mono ?_
  rintro e w' ⟨v', rfl, ho, h1, h2, h3, hx⟩
  exact ⟨_, rfl, ⟨v', rfl, ho.rd, h1, h2, h3⟩, hx⟩
set_option maxHeartbeats 1000000 in
set_option maxRecDepth 100000 in
theorem szCommit_u (cs : Array Value) (x : Cm) (l : Int) (w : World) (S : Nat → Prop) (h : RCommit w S cs x) (h0 : -1 ≤ l) (h1 : l ≤ 1048576) :
    Calls Try.prog 116 #[.agg cs, .int .i64 l] w fun e w' => e = .returned (.int .i64 (if l - (x.par.length + x.note.size : Nat) < 0 then -1 else l - (x.par.length + x.note.size : Nat))) ∧ Ext w w' := by
  obtain ⟨v, rfl, hr, hroot, hnum, hnote⟩ := h
  obtain ⟨A, cap, rfl, hcap, hlen, _⟩ := id hr
  have hat := Cm.at_ hroot (.slice A x.par.length cap)
  have c0 : (w.alloc (.cells (x.cells (.slice A x.par.length cap)) 160)).cell? ⟨w.heap.size, 32, none⟩ = some (.slice A x.par.length cap) := (Blk.new w _ _).at_ 32 hat.1
  have c1 : (w.alloc (.cells (x.cells (.slice A x.par.length cap)) 160)).cell? ⟨w.heap.size, 34, none⟩ = some (.string x.note) := (Blk.new w _ _).at_ 34 hat.2.2
  clear hat hr
  have hc := fun W => szKeyS_any A x.par.length cap l (by omega) h0 h1 W
  by_cases h2 : l - (x.par.length : Int) < 0
  · rw [if_pos (by omega)]
    simp only [if_pos h2] at hc
    go_enter Try.func116, Try.ntmps116
    go_wp2_with fail
    refine (hc _).mono ?_
    rintro e w' ⟨rfl, rfl⟩
    go_wp2
    go_ret
    exact ⟨rfl, ext_alloc _ _⟩
  · simp only [if_neg h2] at hc
    by_cases h3 : l - (x.par.length : Int) - x.note.size < 0
    · rw [if_pos (by omega)]
      go_enter Try.func116, Try.ntmps116
      go_wp2_with fail
      refine (hc _).mono ?_
      rintro e w' ⟨rfl, rfl⟩
      go_wp2
      go_ret
      exact ⟨rfl, ext_alloc _ _⟩
    · rw [if_neg (by omega)]
      go_enter Try.func116, Try.ntmps116
      go_wp2_with fail
      refine (hc _).mono ?_
      rintro e w' ⟨rfl, rfl⟩
      go_wp2
      go_ret
      exact ⟨ret_int (by omega), ext_alloc _ _⟩

attribute [local irreducible] Blk in
set_option maxHeartbeats 1000000 in
set_option maxRecDepth 100000 in
theorem eqCommit_u (cs cs' : Array Value) (x : Cm) (w : World) (S S' : Nat → Prop) (h : RCommit w S cs x) (h' : RCommit w S' cs' x) :
    Calls Try.prog 43 #[.agg cs, .agg cs'] w fun e w' => e = .returned (.bool true) ∧ Ext w w' := by
  obtain ⟨v, rfl, hr, hroot, hnum, hnote⟩ := h
  obtain ⟨v', rfl, hr', _, _, _⟩ := h'
  obtain ⟨A, cap, rfl, _⟩ := id hr
  obtain ⟨A', cap', rfl, _⟩ := id hr'
  have H := Lib.hid hr
  have H' := Lib.hid hr'
  have HL := Lib.hid (sizeN (k := .u8) hroot.1)
  have Hroot := Lib.hid hroot
  have HAT := Lib.hid (Cm.at_ hroot (.slice A x.par.length cap))
  have HAT' := Lib.hid (Cm.at_ hroot (.slice A' x.par.length cap'))
  have q1 : (x.num != x.num) = false := by simp
  have q2 : (x.note.toList != x.note.toList) = false := by simp
  clear hr hr' hroot
  go_enter Try.func43, Try.ntmps43
  go_wp2_with (first
    | (refine wpl_loadP (off := 0) (sub := numsA .u8 x.root) ((Blk.new w _ _).alloc _) aggKey HL.out (Cm.root_at (.slice A x.par.length cap)) rfl _ rfl rfl ?_)
    | (refine wpl_loadP (off := 0) (sub := numsA .u8 x.root) (Blk.new' (g := w.heap.size + 1) (by simp) _ _) aggKey HL.out (Cm.root_at (.slice A' x.par.length cap')) rfl _ rfl rfl ?_))
  refine (eqKey_any _ _ Hroot.out Hroot.out _).mono ?_
  rintro e w1 ⟨rfl, hx⟩
  rw [beq_self_eq_true]
  have B0 := Lib.hid (((Blk.new w 74 (x.cells (.slice A x.par.length cap))).alloc (.cells (x.cells (.slice A' x.par.length cap')) 74)).ext hx)
  have B1 := Lib.hid ((Blk.new' (g := w.heap.size + 1) (w := w.alloc (.cells (x.cells (.slice A x.par.length cap)) 74)) (by simp) 74 (x.cells (.slice A' x.par.length cap'))).ext hx)
  have XW := Lib.hid (((ext_alloc w _).alloc _).trans hx)
  clear hx
  have c0 := B0.out.at_ 32 HAT.out.1
  have c1 := B1.out.at_ 32 HAT'.out.1
  go_wp2_with fail
  refine (eqKeyS_u _ _ x.par _ S S' (H.out.ext (by decide) XW.out) (H'.out.ext (by decide) XW.out)).mono ?_
  rintro e w2 ⟨rfl, hx⟩
  have d0 := (B0.out.ext hx).at_ 33 HAT.out.2.1
  have d1 := (B1.out.ext hx).at_ 33 HAT'.out.2.1
  have e0 := (B0.out.ext hx).at_ 34 HAT.out.2.2
  have e1 := (B1.out.ext hx).at_ 34 HAT'.out.2.2
  replace XW := Lib.hid (XW.out.trans hx)
  clear hx B0 B1 c0 c1
  go_wp2_with fail
  go_ret
  exact ⟨rfl, XW.out⟩

end Go.Proofs.Ytbippohfinbngaa
