/- The walk of the law FnExactCheckName. No condition. -/
import Derived.Test.YtbippohfinbngaaChkS
import Derived.Test.YtbippohfinbngaaChkI
namespace Go.Proofs.Ytbippohfinbngaa
open Go.RowKit
set_option linter.unusedVariables false
set_option linter.unusedSimpArgs false

set_option maxHeartbeats 1000000 in
set_option maxRecDepth 100000 in
theorem FnExactCheckName_any (w : World) (x0 : List Int) (hk0 : K32 x0) (s1 : ByteArray) (hs1 : s1.size ≤ 140737488351232) (v2 : Value) (x2 : List Nd) (S2 : Nat → Prop) (h2 : RdL tNd w S2 v2 x2) :
    Calls Try.prog 9 #[.agg (numsA .u8 x0), .string s1, v2] w fun e w' => e = .returned (.bool true) ∧ Ext w w' := by
  obtain ⟨A2, cap2, rfl, _, hlen2, _⟩ := id h2
  have H2 := Lib.hid h2
  clear h2
  have hn0 : ((numsA .u8 x0) : Array Value).size = 32 := sizeN hk0.1
  by_cases hl1 : (1048576 : Int) < (s1.size : Int)
  · go_enter Try.func9, Try.ntmps9
    go_wp2_with fail
    go_ret
    exact ⟨rfl, ((Ext.refl _).alloc _)⟩
  have hm1 : s1.size ≤ 1048576 := by omega
  by_cases hz2 : (1048576 - (ndsN x2 : Nat) : Int) < 0
  · go_enter Try.func9, Try.ntmps9
    go_wp2_with (first | (refine wpl_loadB (Blk.new' (g := w.heap.size) (w := w) (by simp) 70 (numsA .u8 x0)) aggB32 hn0 rfl _ rfl rfl ?_))
    refine (szMapNodeS_u _ x2 (1048576) _ _ (H2.out.ext (by decide) (ext_alloc _ _)) (by omega) (by omega)).mono ?_
    rintro e w1 ⟨rfl, hx⟩
    rw [if_pos (by omega)]
    have B0 := Lib.hid ((Blk.new' (g := w.heap.size) (w := w) (by simp) 70 (numsA .u8 x0)).ext hx)
    have XW := Lib.hid ((ext_alloc _ _).trans hx)
    clear hx
    go_wp2_with (first | (refine wpl_loadB B0.out aggB32 hn0 rfl _ rfl rfl ?_))
    go_ret
    exact ⟨rfl, XW.out⟩
  have hln2 : x2.length ≤ 1048576 := by have := ndsN_eq x2; omega
  obtain ⟨R1, R2, R3, hR⟩ : ∃ R1 R2 R3, chkR x0 s1 x2 = (R1, R2, R3) := ⟨_, _, _, rfl⟩
  have HR := Lib.hid hR
  clear hR
  have hq1 : (R1 != R1) = false := by simp
  have hq2 : (R2.toList != R2.toList) = false := by simp
  have hq3 : (R3 != R3) = false := by simp
  go_enter Try.func9, Try.ntmps9
  go_wp2_with (first | (refine wpl_loadB (Blk.new' (g := w.heap.size) (w := w) (by simp) 70 (numsA .u8 x0)) aggB32 hn0 rfl _ rfl rfl ?_))
  refine (szMapNodeS_u _ x2 (1048576) _ _ (H2.out.ext (by decide) (ext_alloc _ _)) (by omega) (by omega)).mono ?_
  rintro e w1 ⟨rfl, hx⟩
  rw [if_neg (by omega)]
  have B0 := Lib.hid ((Blk.new' (g := w.heap.size) (w := w) (by simp) 70 (numsA .u8 x0)).ext hx)
  have XW := Lib.hid ((ext_alloc _ _).trans hx)
  clear hx
  go_wp2_with (first | (refine wpl_loadB B0.out aggB32 hn0 rfl _ rfl rfl ?_))
  refine (toKey_any x0 hk0 _).mono ?_
  rintro e w2 ⟨rfl, hx⟩
  replace B0 := Lib.hid (B0.out.ext hx)
  replace XW := Lib.hid (XW.out.trans hx)
  clear hx
  go_wp2_with (first | (refine wpl_loadB B0.out aggB32 hn0 rfl _ rfl rfl ?_))
  refine (toMapNodeS_u _ x2 _ _ (H2.out.ext (by decide) XW.out) hln2).mono ?_
  rintro e w3 ⟨vs2, rfl, ho, hx⟩
  replace B0 := Lib.hid (B0.out.ext hx)
  replace XW := Lib.hid (XW.out.trans hx)
  obtain ⟨As2, cs2, rfl⟩ := ho.shape
  have Os2 := Lib.hid ho.rd
  clear ho
  clear hx
  go_wp2_with (first | (refine wpl_loadB B0.out aggB32 hn0 rfl _ rfl rfl ?_))
  refine (specCheckName_any x0 hk0 s1 hs1 _ x2 _ _ Os2.out).mono ?_
  rintro e w4 ⟨he, hx⟩
  rw [HR.out] at he
  subst he
  replace Os2 := Lib.hid (Os2.out.ext (by decide) hx)
  replace B0 := Lib.hid (B0.out.ext hx)
  replace XW := Lib.hid (XW.out.trans hx)
  clear hx
  clear Os2
  go_wp2_with (first | (refine wpl_loadB B0.out aggB32 hn0 rfl _ rfl rfl ?_))
  refine (toMapNodeS_u _ x2 _ _ (H2.out.ext (by decide) XW.out) hln2).mono ?_
  rintro e w5 ⟨vx2, rfl, ho, hx⟩
  replace B0 := Lib.hid (B0.out.ext hx)
  replace XW := Lib.hid (XW.out.trans hx)
  obtain ⟨Ax2, cx2, rfl⟩ := ho.shape
  have Ox2 := Lib.hid ho.rd
  clear ho
  clear hx
  go_wp2_with (first | (refine wpl_loadB B0.out aggB32 hn0 rfl _ rfl rfl ?_))
  refine (toKey_any x0 hk0 _).mono ?_
  rintro e w6 ⟨rfl, hx⟩
  replace Ox2 := Lib.hid (Ox2.out.ext (by decide) hx)
  replace B0 := Lib.hid (B0.out.ext hx)
  replace XW := Lib.hid (XW.out.trans hx)
  clear hx
  go_wp2_with (first | (refine wpl_loadB B0.out aggB32 hn0 rfl _ rfl rfl ?_))
  refine (implCheckName_any x0 hk0 s1 hs1 _ x2 _ _ Ox2.out).mono ?_
  rintro e w7 ⟨he, hx⟩
  rw [HR.out] at he
  subst he
  replace Ox2 := Lib.hid (Ox2.out.ext (by decide) hx)
  replace B0 := Lib.hid (B0.out.ext hx)
  replace XW := Lib.hid (XW.out.trans hx)
  clear hx
  go_wp2_with (first | (refine wpl_loadB B0.out aggB32 hn0 rfl _ rfl rfl ?_))
  refine (toMapNodeS_u _ x2 _ _ (H2.out.ext (by decide) XW.out) hln2).mono ?_
  rintro e w8 ⟨vy2, rfl, ho, hx⟩
  replace Ox2 := Lib.hid (Ox2.out.ext (by decide) hx)
  replace B0 := Lib.hid (B0.out.ext hx)
  replace XW := Lib.hid (XW.out.trans hx)
  obtain ⟨Ay2, cy2, rfl⟩ := ho.shape
  have Oy2 := Lib.hid ho.rd
  clear ho
  clear hx
  go_wp2_with (first | (refine wpl_loadB B0.out aggB32 hn0 rfl _ rfl rfl ?_))
  refine (eqMapNodeS_u _ _ x2 _ _ _ Ox2.out Oy2.out).mono ?_
  rintro e w9 ⟨rfl, hx⟩
  replace Ox2 := Lib.hid (Ox2.out.ext (by decide) hx)
  replace Oy2 := Lib.hid (Oy2.out.ext (by decide) hx)
  replace B0 := Lib.hid (B0.out.ext hx)
  replace XW := Lib.hid (XW.out.trans hx)
  clear hx
  clear Oy2
  go_wp2_with (first | (refine wpl_loadB B0.out aggB32 hn0 rfl _ rfl rfl ?_))
  go_ret
  exact ⟨rfl, XW.out⟩
end Go.Proofs.Ytbippohfinbngaa
