/- The key of a commit: the reference and the program. No condition. -/
import Derived.Test.YtbngjhppngohaaaCommitD
import Derived.Test.YtbngjhppngohaaaPrioFns
namespace Go.Proofs.Ytbngjhppngohaaa
open Go.RowKit
set_option linter.unusedVariables false
set_option linter.unusedSimpArgs false

theorem dataL_length {x : Cm} {w : World} {S : Nat → Prop} {cs : Array Value} (h : RCommit w S cs x) (hok : okCm x = true) : (dataL x).length ≤ 1000 := by
  obtain ⟨v, rfl, ⟨A, cap, rfl, _, _, _, hk⟩, hroot, _⟩ := h
  obtain ⟨h3, _, _, h64⟩ := okCm_le hok
  rw [dataL]
  simp only [List.length_append, List.length_cons, List.length_nil, hroot.1, flat32 x.par (fun k hk' => hk k hk'), strL_length]
  omega
set_option maxHeartbeats 1000000 in
set_option maxRecDepth 100000 in
theorem l07Key_any (cs : Array Value) (x : Cm) (hok : okCm x = true) (w : World) (S : Nat → Prop) (h : RCommit w S cs x) (b : Nat) (hb : Blk w b 31 cs) :
    Calls Try.prog 81 #[.pointer (some ⟨b, 0, none⟩)] w fun e w' => e = .returned (.agg (numsA .u8 (hashL 7 (dataL x)))) ∧ Ext w w' := by
  have hk := (hashL_ok 7 (dataL x)).1
  have Hnl := Lib.hid (dataL_length h hok)
  have H := Lib.hid h
  have HB := Lib.hid hb
  clear h hb
  go_enter Try.func81, Try.ntmps81
  go_wp2_with fail
  refine (l07Data_any cs x hok _ S (H.out.ext (ext_alloc _ _)) b (HB.out.alloc _)).mono ?_
  rintro e w1 ⟨v1, rfl, ho, hx⟩
  obtain ⟨A1, n1, c1, rfl⟩ := ho.shape3
  have B1 := Lib.hid ((Blk.new w 28 _).ext hx)
  have XW := Lib.hid ((ext_alloc w _).trans hx)
  have HO := Lib.hid ho
  clear hx ho
  go_wp2_with fail
  refine (l01Hash_any 7 (by decide) _ (dataL x) _ _ HO.out.rd (by have := Hnl.out; omega)).mono ?_
  rintro e w2 ⟨rfl, hx⟩
  replace B1 := Lib.hid (B1.out.ext hx)
  replace XW := Lib.hid (XW.out.trans hx)
  clear hx HO
  go_wp2_with (refine wpl_storeN B1.out aggKey hk rfl rfl _ _ rfl rfl rfl rfl ?_)
  refine bodyPost_ret (results_blk rfl _ rfl aggKey hk (B1.out.setRow _)) rfl ?_
  exact ⟨rfl, XW.out.setRow (by omega) _⟩
set_option maxHeartbeats 1000000 in
set_option maxRecDepth 100000 in
theorem commitKey_any (cs : Array Value) (x : Cm) (hok : okCm x = true) (w : World) (S : Nat → Prop) (h : RCommit w S cs x) :
    Calls Try.prog 82 #[.agg cs] w fun e w' => e = .returned (.agg (numsA .u8 (hashL 7 (dataL x)))) ∧ Ext w w' := by
  have hk := (hashL_ok 7 (dataL x)).1
  have Hnl := Lib.hid (dataL_length h hok)
  have hsz := h.st.size
  have H := Lib.hid h
  clear h
  go_enter Try.func82, Try.ntmps82
  go_wp2_with (refine wpl_loadB ((Blk.new w _ _).alloc _) aggCommitI hsz rfl _ rfl rfl ?_)
  refine (commitData_any cs x hok _ S (H.out.ext ((ext_alloc _ _).alloc _))).mono ?_
  rintro e w1 ⟨v1, rfl, ho, hx⟩
  obtain ⟨A1, n1, c1, rfl⟩ := ho.shape3
  have B1 := Lib.hid ((Blk.new' (g := w.heap.size + 1) (w := w.alloc _) (by simp) 28 _).ext hx)
  have XW := Lib.hid (((ext_alloc w _).alloc _).trans hx)
  have HO := Lib.hid ho
  clear hx ho
  go_wp2_with fail
  refine (hash_any 7 (by decide) _ (dataL x) _ _ HO.out.rd (by have := Hnl.out; omega)).mono ?_
  rintro e w2 ⟨rfl, hx⟩
  replace B1 := Lib.hid (B1.out.ext hx)
  replace XW := Lib.hid (XW.out.trans hx)
  clear hx HO
  go_wp2_with (refine wpl_storeN B1.out aggKey hk rfl rfl _ _ rfl rfl rfl rfl ?_)
  refine bodyPost_ret (results_blk rfl _ rfl aggKey hk (B1.out.setRow _)) rfl ?_
  exact ⟨rfl, XW.out.setRow (by omega) _⟩
/-- the key of a commit, and the code -/
def commitKR (x : Cm) : List Int × Int := if okCm x then (hashL 7 (dataL x), 0) else (List.replicate 32 0, 1)
theorem commitKR_ok (x : Cm) : K32 (commitKR x).1 := by unfold commitKR; split; exact hashL_ok _ _; exact zero_ok
set_option maxHeartbeats 1000000 in
set_option maxRecDepth 100000 in
theorem specCommitKey_u (cs : Array Value) (x : Cm) (w : World) (S : Nat → Prop) (h : RCommit w S cs x) :
    Calls Try.prog 46 #[.agg cs] w fun e w' => e = .returned (.tuple #[.agg (numsA .u8 (commitKR x).1), .int .i64 (commitKR x).2]) ∧ Ext w w' := by
  have hk := (hashL_ok 7 (dataL x)).1
  have H := Lib.hid h
  have hc := fun W hW hB => l07Ok_any cs x W S (h.ext hW) w.heap.size hB
  clear h
  cases hb : okCm x with
  | true =>
    have HE := Lib.hid hb
    simp only [commitKR, hb, if_true]
    simp only [hb] at hc
    clear hb
    go_enter Try.func46, Try.ntmps46
    go_wp2_with fail
    refine (hc _ ((ext_alloc w _).alloc _) ((Blk.new w 31 cs).alloc _)).mono ?_
    rintro e w1 ⟨rfl, hx⟩
    have B0 := Lib.hid (((Blk.new w 31 cs).alloc _).ext hx)
    have B1 := Lib.hid ((Blk.new' (g := w.heap.size + 1) (w := w.alloc _) (by simp) 28 _).ext hx)
    have XW := Lib.hid (((ext_alloc w _).alloc _).trans hx)
    clear hx hc
    go_wp2_with fail
    refine (l07Key_any cs x HE.out _ S (H.out.ext XW.out) w.heap.size B0.out).mono ?_
    rintro e w2 ⟨rfl, hx⟩
    replace B1 := Lib.hid (B1.out.ext hx)
    replace XW := Lib.hid (XW.out.trans hx)
    clear hx
    go_wp2_with (refine wpl_storeN B1.out aggKey hk rfl rfl _ _ rfl rfl rfl rfl ?_)
    refine bodyPost_ret (results_blk2 rfl _ rfl aggKey hk (B1.out.setRow _) rfl) rfl ?_
    exact ⟨rfl, XW.out.setRow (by omega) _⟩
  | false =>
    simp only [commitKR, hb, Bool.false_eq_true, if_false]
    simp only [hb] at hc
    clear hb
    go_enter Try.func46, Try.ntmps46
    go_wp2_with fail
    refine (hc _ ((ext_alloc w _).alloc _) ((Blk.new w 31 cs).alloc _)).mono ?_
    rintro e w1 ⟨rfl, hx⟩
    have B1 := Lib.hid ((Blk.new' (g := w.heap.size + 1) (w := w.alloc _) (by simp) 28 _).ext hx)
    have XW := Lib.hid (((ext_alloc w _).alloc _).trans hx)
    clear hx hc
    go_wp2_with (refine wpl_storeN (xs := List.replicate 32 0) B1.out aggKey rfl rfl rfl _ _ rfl rfl rfl rfl ?_)
    refine bodyPost_ret (results_blk2 rfl _ rfl aggKey rfl (B1.out.setRow _) rfl) rfl ?_
    exact ⟨rfl, XW.out.setRow (by omega) _⟩
set_option maxHeartbeats 1000000 in
set_option maxRecDepth 100000 in
theorem implCommitKey_u (cs : Array Value) (x : Cm) (w : World) (S : Nat → Prop) (h : RCommit w S cs x) :
    Calls Try.prog 47 #[.agg cs] w fun e w' => e = .returned (.tuple #[.agg (numsA .u8 (commitKR x).1), .int .i64 (commitKR x).2]) ∧ Ext w w' := by
  have hk := (hashL_ok 7 (dataL x)).1
  have hsz := h.st.size
  have H := Lib.hid h
  have hc := fun W hW => validCommit_any cs x W S (h.ext hW)
  clear h
  cases hb : okCm x with
  | true =>
    have HE := Lib.hid hb
    simp only [commitKR, hb, if_true]
    simp only [hb] at hc
    clear hb
    go_enter Try.func47, Try.ntmps47
    go_wp2_with (refine wpl_loadB ((Blk.new w _ _).alloc _) aggCommitI hsz rfl _ rfl rfl ?_)
    refine (hc _ ((ext_alloc w _).alloc _)).mono ?_
    rintro e w1 ⟨rfl, hx⟩
    have B0 := Lib.hid (((Blk.new w 31 cs).alloc _).ext hx)
    have B1 := Lib.hid ((Blk.new' (g := w.heap.size + 1) (w := w.alloc _) (by simp) 28 _).ext hx)
    have XW := Lib.hid (((ext_alloc w _).alloc _).trans hx)
    clear hx hc
    go_wp2_with (refine wpl_loadB B0.out aggCommitI hsz rfl _ rfl rfl ?_)
    refine (commitKey_any cs x HE.out _ S (H.out.ext XW.out)).mono ?_
    rintro e w2 ⟨rfl, hx⟩
    replace B1 := Lib.hid (B1.out.ext hx)
    replace XW := Lib.hid (XW.out.trans hx)
    clear hx B0
    go_wp2_with (refine wpl_storeN B1.out aggKey hk rfl rfl _ _ rfl rfl rfl rfl ?_)
    refine bodyPost_ret (results_blk2 rfl _ rfl aggKey hk (B1.out.setRow _) rfl) rfl ?_
    exact ⟨rfl, XW.out.setRow (by omega) _⟩
  | false =>
    simp only [commitKR, hb, Bool.false_eq_true, if_false]
    simp only [hb] at hc
    clear hb
    go_enter Try.func47, Try.ntmps47
    go_wp2_with (refine wpl_loadB ((Blk.new w _ _).alloc _) aggCommitI hsz rfl _ rfl rfl ?_)
    refine (hc _ ((ext_alloc w _).alloc _)).mono ?_
    rintro e w1 ⟨rfl, hx⟩
    have B1 := Lib.hid ((Blk.new' (g := w.heap.size + 1) (w := w.alloc _) (by simp) 28 _).ext hx)
    have XW := Lib.hid (((ext_alloc w _).alloc _).trans hx)
    clear hx hc
    go_wp2_with (refine wpl_storeN (xs := List.replicate 32 0) B1.out aggKey rfl rfl rfl _ _ rfl rfl rfl rfl ?_)
    refine bodyPost_ret (results_blk2 rfl _ rfl aggKey rfl (B1.out.setRow _) rfl) rfl ?_
    exact ⟨rfl, XW.out.setRow (by omega) _⟩

end Go.Proofs.Ytbngjhppngohaaa
