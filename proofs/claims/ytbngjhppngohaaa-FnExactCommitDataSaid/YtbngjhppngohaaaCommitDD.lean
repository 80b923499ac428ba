/- CommitData: the reference and the program; marks on a commit. No condition. -/
import Derived.Test.YtbngjhppngohaaaCommitD
import Derived.Test.YtbngjhppngohaaaKeyFns
import Derived.Test.YtbngjhppngohaaaMarkK
namespace Go.Proofs.Ytbngjhppngohaaa
open Go.RowKit
set_option linter.unusedVariables false
set_option linter.unusedSimpArgs false

def cdataR (x : Cm) : List Int × Int := if okCm x then (dataL x, 0) else ([], 1)
set_option maxHeartbeats 1000000 in
set_option maxRecDepth 100000 in
theorem specCommitData_u (cs : Array Value) (x : Cm) (w : World) (S : Nat → Prop) (h : RCommit w S cs x) :
    Calls Try.prog 34 #[.agg cs] w fun e w' => ∃ v', e = .returned (.tuple #[v', .int .i64 (cdataR x).2]) ∧ Own tByte 5 w' w.heap.size v' (cdataR x).1 ∧ Ext w w' := by
  have H := Lib.hid h
  have hc := fun W hW hB => l07Ok_any cs x W S (h.ext hW) w.heap.size hB
  clear h
  cases hb : okCm x with
  | true =>
    have HE := Lib.hid hb
    simp only [cdataR, hb, if_true]
    simp only [hb] at hc
    clear hb
    go_enter Try.func34, Try.ntmps34
    go_wp2_with fail
    refine (hc _ (ext_alloc w _) (Blk.new w 31 cs)).mono ?_
    rintro e w1 ⟨rfl, hx⟩
    have B0 := Lib.hid ((Blk.new w 31 cs).ext hx)
    have XW := Lib.hid ((ext_alloc w _).trans hx)
    clear hx hc
    go_wp2_with fail
    refine (l07Data_any cs x HE.out _ S (H.out.ext XW.out) w.heap.size B0.out).mono ?_
    rintro e w2 ⟨v2, rfl, ho, hx⟩
    obtain ⟨A2, n2, c2, rfl⟩ := ho.shape3
    have HO := Lib.hid (ho.le XW.out.size)
    replace XW := Lib.hid (XW.out.trans hx)
    clear hx ho
    go_wp2_with fail
    go_ret2
    exact ⟨_, rfl, HO.out, XW.out⟩
  | false =>
    simp only [cdataR, hb, Bool.false_eq_true, if_false]
    simp only [hb] at hc
    clear hb
    go_enter Try.func34, Try.ntmps34
    go_wp2_with fail
    refine (hc _ (ext_alloc w _) (Blk.new w 31 cs)).mono ?_
    rintro e w1 ⟨rfl, hx⟩
    have XW := Lib.hid ((ext_alloc w _).trans hx)
    clear hx hc
    go_wp2_with fail
    go_ret2
    exact ⟨_, rfl, Own.empty tByte _ _ _ XW.out.size, XW.out.alloc _⟩
set_option maxHeartbeats 1000000 in
set_option maxRecDepth 100000 in
theorem implCommitData_u (cs : Array Value) (x : Cm) (w : World) (S : Nat → Prop) (h : RCommit w S cs x) :
    Calls Try.prog 35 #[.agg cs] w fun e w' => ∃ v', e = .returned (.tuple #[v', .int .i64 (cdataR x).2]) ∧ Own tByte 5 w' w.heap.size v' (cdataR x).1 ∧ Ext w w' := by
  have hsz := h.st.size
  have H := Lib.hid h
  have hc := fun W hW => validCommit_any cs x W S (h.ext hW)
  clear h
  cases hb : okCm x with
  | true =>
    have HE := Lib.hid hb
    simp only [cdataR, hb, if_true]
    simp only [hb] at hc
    clear hb
    go_enter Try.func35, Try.ntmps35
    go_wp2_with (refine wpl_loadB (Blk.new w _ _) aggCommitI hsz rfl _ rfl rfl ?_)
    refine (hc _ (ext_alloc w _)).mono ?_
    rintro e w1 ⟨rfl, hx⟩
    have B0 := Lib.hid ((Blk.new w 31 cs).ext hx)
    have XW := Lib.hid ((ext_alloc w _).trans hx)
    clear hx hc
    go_wp2_with (refine wpl_loadB B0.out aggCommitI hsz rfl _ rfl rfl ?_)
    refine (commitData_any cs x HE.out _ S (H.out.ext XW.out)).mono ?_
    rintro e w2 ⟨v2, rfl, ho, hx⟩
    obtain ⟨A2, n2, c2, rfl⟩ := ho.shape3
    have HO := Lib.hid (ho.le XW.out.size)
    replace XW := Lib.hid (XW.out.trans hx)
    clear hx ho
    go_wp2_with fail
    go_ret2
    exact ⟨_, rfl, HO.out, XW.out⟩
  | false =>
    simp only [cdataR, hb, Bool.false_eq_true, if_false]
    simp only [hb] at hc
    clear hb
    go_enter Try.func35, Try.ntmps35
    go_wp2_with (refine wpl_loadB (Blk.new w _ _) aggCommitI hsz rfl _ rfl rfl ?_)
    refine (hc _ (ext_alloc w _)).mono ?_
    rintro e w1 ⟨rfl, hx⟩
    have XW := Lib.hid ((ext_alloc w _).trans hx)
    clear hx hc
    go_wp2_with fail
    go_ret2
    exact ⟨_, rfl, Own.nil _ _ _ _, XW.out⟩
set_option maxHeartbeats 1000000 in
set_option maxRecDepth 100000 in
theorem markCommit_any (x : Cm) (v : Value) (n : Nat) (m : Int) (w : World) (lo : Nat) (hroot : K32 x.root) (h : Wr w lo 32 v n) (hm : 0 ≤ m) (hmn : m + n * 32 ≤ 1000000000000000) :
    Calls Try.prog 30 #[.agg (x.cells v), .int .i64 m] w fun e w' => e = .returned (.int .i64 (m + n * 32)) ∧ MarkedK w' (fun g => lo ≤ g ∧ some g = v.ownBlock) v n m ∧ w.grownBy w' v.ownBlock := by
  have c0 : (w.alloc (.cells (x.cells v) 31)).cell? ⟨w.heap.size, 32, none⟩ = some v := (Blk.new w _ _).at_ 32 (Cm.at_ hroot v).1
  have H := Lib.hid (h.ext (ext_alloc w (.cells (x.cells v) 31)))
  obtain ⟨A, cap, rfl, _⟩ := h
  go_enter Try.func30, Try.ntmps30
  go_wp2_with fail
  refine (markKeyS_any _ n m _ lo H.out hm hmn).mono ?_
  rintro e w1 ⟨rfl, hM, hg⟩
  have HM := Lib.hid hM
  have HG := Lib.hid (grown_trans (ext_grown (Value.ownBlock (.slice A n cap)) (ext_alloc w (.cells (x.cells (.slice A n cap)) 31))) hg)
  clear hM hg
  go_wp2
  go_ret
  exact ⟨rfl, HM.out, HG.out⟩
set_option maxHeartbeats 1000000 in
set_option maxRecDepth 100000 in
theorem heldCommit_any (x : Cm) (v : Value) (n : Nat) (m : Int) (w : World) (S : Nat → Prop) (hroot : K32 x.root) (h : MarkedK w S v n m) (hm : 0 ≤ m) (hmn : m + n * 32 ≤ 1000000000000000) :
    Calls Try.prog 31 #[.agg (x.cells v), .int .i64 m] w fun e w' => e = .returned (.int .i64 (m + n * 32)) ∧ Ext w w' := by
  have c0 : (w.alloc (.cells (x.cells v) 31)).cell? ⟨w.heap.size, 32, none⟩ = some v := (Blk.new w _ _).at_ 32 (Cm.at_ hroot v).1
  have H := Lib.hid (h.ext (ext_alloc w (.cells (x.cells v) 31)))
  obtain ⟨A, cap, rfl, _⟩ := h
  go_enter Try.func31, Try.ntmps31
  go_wp2_with fail
  refine (heldKeyS_any _ n m _ S H.out hm hmn).mono ?_
  rintro e w1 ⟨rfl, hx⟩
  have XW := Lib.hid ((ext_alloc w _).trans hx)
  clear hx
  go_wp2
  go_ret
  exact ⟨rfl, XW.out⟩

end Go.Proofs.Ytbngjhppngohaaa
