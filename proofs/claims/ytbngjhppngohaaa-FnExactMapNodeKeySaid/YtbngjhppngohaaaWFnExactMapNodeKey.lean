/- The walk of the law FnExactMapNodeKey. No condition. -/
import Derived.Test.YtbngjhppngohaaaNodeU
namespace Go.Proofs.Ytbngjhppngohaaa
open Go.RowKit
set_option linter.unusedVariables false
set_option linter.unusedSimpArgs false

set_option maxHeartbeats 1000000 in
set_option maxRecDepth 100000 in
theorem FnExactMapNodeKey_any (w : World) (cs0 : Array Value) (x0 : Nd) (S0 : Nat → Prop) (h0 : RMapNode w S0 cs0 x0) :
    Calls Try.prog 11 #[.agg cs0] w fun e w' => e = .returned (.bool true) ∧ Ext w w' := by
  have H0 := Lib.hid h0
  clear h0
  have hn0 := H0.out.st.size
  have Hs0 := Lib.hid H0.out.st
  by_cases hz0 : (1048576 - (x0.n.size + x0.v.size : Nat) : Int) < 0
  · go_enter Try.func11, Try.ntmps11
    go_wp2_with (first | (refine wpl_loadB (Blk.new' (g := w.heap.size) (w := w) (by simp) 64 cs0) aggMapNodeL hn0 rfl _ rfl rfl ?_))
    refine (szMapNode_u _ x0 (1048576) _ _ (H0.out.ext (ext_alloc _ _)) (by omega) (by omega)).mono ?_
    rintro e w1 ⟨rfl, hx⟩
    rw [if_pos (by omega)]
    have B0 := Lib.hid ((Blk.new' (g := w.heap.size) (w := w) (by simp) 64 cs0).ext hx)
    have XW := Lib.hid ((ext_alloc _ _).trans hx)
    clear hx
    go_wp2_with (first | (refine wpl_loadB B0.out aggMapNodeL hn0 rfl _ rfl rfl ?_))
    go_ret
    exact ⟨rfl, XW.out⟩
  have hK := nodeKR_ok x0
  obtain ⟨R, c, hR⟩ : ∃ R c, nodeKR x0 = (R, c) := ⟨_, _, rfl⟩
  rw [hR] at hK
  have HR := Lib.hid hR
  clear hR
  have hk := hK.1
  have HK := Lib.hid hK
  clear hK
  have hq : (c != c) = false := by simp
  go_enter Try.func11, Try.ntmps11
  go_wp2_with (first | (refine wpl_loadB (Blk.new' (g := w.heap.size) (w := w) (by simp) 64 cs0) aggMapNodeL hn0 rfl _ rfl rfl ?_))
  refine (szMapNode_u _ x0 (1048576) _ _ (H0.out.ext (ext_alloc _ _)) (by omega) (by omega)).mono ?_
  rintro e w1 ⟨rfl, hx⟩
  rw [if_neg (by omega)]
  have B0 := Lib.hid ((Blk.new' (g := w.heap.size) (w := w) (by simp) 64 cs0).ext hx)
  have XW := Lib.hid ((ext_alloc _ _).trans hx)
  clear hx
  go_wp2_with (first | (refine wpl_loadB B0.out aggMapNodeL hn0 rfl _ rfl rfl ?_))
  refine (toMapNode_u _ x0 _ _ (H0.out.ext XW.out)).mono ?_
  rintro e w2 ⟨vs0, rfl, ho, hx⟩
  replace B0 := Lib.hid (B0.out.ext hx)
  replace XW := Lib.hid (XW.out.trans hx)
  have Os0 := Lib.hid ho
  clear ho
  have Zns0 := Os0.out.st.size
  have Zss0 := Lib.hid Os0.out.st
  clear hx
  go_wp2_with (first | (refine wpl_loadB B0.out aggMapNodeL hn0 rfl _ rfl rfl ?_))
  refine (specMapNodeKey_u _ x0 _ _ Os0.out).mono ?_
  rintro e w3 ⟨he, hx⟩
  rw [HR.out] at he
  subst he
  replace Os0 := Lib.hid (Os0.out.ext hx)
  replace B0 := Lib.hid (B0.out.ext hx)
  replace XW := Lib.hid (XW.out.trans hx)
  clear hx
  clear Os0
  go_wp2_with (first | (refine wpl_storeNew aggKey hk rfl rfl _ _ rfl rfl rfl rfl ?_) | (refine wpl_loadB (Blk.new w3 28 (numsA .u8 R)) aggKey (sizeN hk) rfl _ rfl rfl ?_) | (refine wpl_loadB B0.out aggMapNodeL hn0 rfl _ rfl rfl ?_) | (refine wpl_loadB (B0.out.alloc _) aggMapNodeL hn0 rfl _ rfl rfl ?_))
  refine (toMapNode_u _ x0 _ _ (H0.out.ext (XW.out.alloc _))).mono ?_
  rintro e w4 ⟨vx0, rfl, ho, hx⟩
  have hE := (ext_alloc w3 (.cells (numsA .u8 R) 28)).trans hx
  replace B0 := Lib.hid (B0.out.ext hE)
  replace XW := Lib.hid (XW.out.trans hE)
  clear hE
  have BR := Lib.hid ((Blk.new w3 28 (numsA .u8 R)).ext hx)
  have Ox0 := Lib.hid ho
  clear ho
  have Znx0 := Ox0.out.st.size
  have Zsx0 := Lib.hid Ox0.out.st
  clear hx
  go_wp2_with (first | (refine wpl_loadB B0.out aggMapNodeL hn0 rfl _ rfl rfl ?_) | (refine wpl_loadB BR.out aggKey (sizeN hk) rfl _ rfl rfl ?_))
  refine (implMapNodeKey_u _ x0 _ _ Ox0.out).mono ?_
  rintro e w5 ⟨he, hx⟩
  rw [HR.out] at he
  subst he
  replace Ox0 := Lib.hid (Ox0.out.ext hx)
  replace B0 := Lib.hid (B0.out.ext hx)
  replace BR := Lib.hid (BR.out.ext hx)
  replace XW := Lib.hid (XW.out.trans hx)
  clear hx
  go_wp2_with (first | (refine wpl_storeNew aggKey hk rfl rfl _ _ rfl rfl rfl rfl ?_) | (refine wpl_loadB (Blk.new w5 28 (numsA .u8 R)) aggKey (sizeN hk) rfl _ rfl rfl ?_) | (refine wpl_loadB B0.out aggMapNodeL hn0 rfl _ rfl rfl ?_) | (refine wpl_loadB (B0.out.alloc _) aggMapNodeL hn0 rfl _ rfl rfl ?_) | (refine wpl_loadB BR.out aggKey (sizeN hk) rfl _ rfl rfl ?_) | (refine wpl_loadB (BR.out.alloc _) aggKey (sizeN hk) rfl _ rfl rfl ?_))
  refine (eqKey_any _ _ HK.out HK.out _).mono ?_
  rintro e w6 ⟨rfl, hx⟩
  rw [beq_self_eq_true]
  have hE := (ext_alloc w5 (.cells (numsA .u8 R) 28)).trans hx
  replace Ox0 := Lib.hid (Ox0.out.ext hE)
  replace B0 := Lib.hid (B0.out.ext hE)
  replace BR := Lib.hid (BR.out.ext hE)
  replace XW := Lib.hid (XW.out.trans hE)
  clear hE
  have BG := Lib.hid ((Blk.new w5 28 (numsA .u8 R)).ext hx)
  clear hx
  clear BR
  clear BG
  go_wp2_with (first | (refine wpl_loadB B0.out aggMapNodeL hn0 rfl _ rfl rfl ?_))
  go_ret
  exact ⟨rfl, XW.out⟩
end Go.Proofs.Ytbngjhppngohaaa
