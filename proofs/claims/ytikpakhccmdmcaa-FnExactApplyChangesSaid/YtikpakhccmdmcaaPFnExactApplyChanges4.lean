/- What the walk of the law FnExactApplyChanges needs, part 4 of 4. No condition. -/
import Derived.Test.YtikpakhccmdmcaaPFnExactApplyChanges3
/- The walk of the law FnExactApplyChanges. No condition. -/
namespace Go.Proofs.Ytikpakhccmdmcaa
open Go.RowKit
set_option linter.unusedVariables false
set_option linter.unusedSimpArgs false

set_option maxHeartbeats 1000000 in
set_option maxRecDepth 100000 in
theorem FnExactApplyChanges_any (w : World) (v0 : Value) (x0 : List En) (S0 : Nat → Prop) (h0 : RdL tEnt w S0 v0 x0) (v1 : Value) (x1 : List Chg) (S1 : Nat → Prop) (h1 : RdL tChg w S1 v1 x1) :
    Calls Try.prog 8 #[v0, v1] w fun e w' => e = .returned (.bool true) ∧ Ext w w' := by
  obtain ⟨A0, cap0, rfl, _, hlen0, _⟩ := id h0
  have H0 := Lib.hid h0
  clear h0
  obtain ⟨A1, cap1, rfl, _, hlen1, _⟩ := id h1
  have H1 := Lib.hid h1
  clear h1
  by_cases hz0 : (1048576 - (entsN x0 : Nat) : Int) < 0
  · go_enter Try.func8, Try.ntmps8
    go_wp2_with fail
    refine (szEntryS_u _ x0 (1048576) _ _ (H0.out.ext (by decide) (Ext.refl _)) (by omega) (by omega)).mono ?_
    rintro e w1 ⟨rfl, hx⟩
    rw [if_pos (by omega)]
    have XW := Lib.hid hx
    clear hx
    go_wp2_with fail
    go_ret
    exact ⟨rfl, XW.out⟩
  by_cases hz1 : (1048576 - (entsN x0 : Nat) - (chgsN x1 : Nat) : Int) < 0
  · go_enter Try.func8, Try.ntmps8
    go_wp2_with fail
    refine (szEntryS_u _ x0 (1048576) _ _ (H0.out.ext (by decide) (Ext.refl _)) (by omega) (by omega)).mono ?_
    rintro e w1 ⟨rfl, hx⟩
    rw [if_neg (by omega)]
    have XW := Lib.hid hx
    clear hx
    go_wp2_with fail
    refine (szChangeS_u _ x1 (1048576 - (entsN x0 : Nat)) _ _ (H1.out.ext (by decide) XW.out) (by omega) (by omega)).mono ?_
    rintro e w2 ⟨rfl, hx⟩
    rw [if_pos (by omega)]
    replace XW := Lib.hid (XW.out.trans hx)
    clear hx
    go_wp2_with fail
    go_ret
    exact ⟨rfl, XW.out⟩
  have hln0 : x0.length ≤ 1048576 := by have := entsN_eq x0; omega
  have hln1 : x1.length ≤ 1048576 := by have := chgsN_eq x1; omega
  obtain ⟨R, c, hR⟩ : ∃ R c, aplR x0 x1 = (R, c) := ⟨_, _, rfl⟩
  have HR1 := Lib.hid (congrArg Prod.fst hR)
  have HR2 := Lib.hid (congrArg Prod.snd hR)
  clear hR
  have hq : (c != c) = false := by simp
  go_enter Try.func8, Try.ntmps8
  go_wp2_with fail
  refine (szEntryS_u _ x0 (1048576) _ _ (H0.out.ext (by decide) (Ext.refl _)) (by omega) (by omega)).mono ?_
  rintro e w1 ⟨rfl, hx⟩
  rw [if_neg (by omega)]
  have XW := Lib.hid hx
  clear hx
  go_wp2_with fail
  refine (szChangeS_u _ x1 (1048576 - (entsN x0 : Nat)) _ _ (H1.out.ext (by decide) XW.out) (by omega) (by omega)).mono ?_
  rintro e w2 ⟨rfl, hx⟩
  rw [if_neg (by omega)]
  replace XW := Lib.hid (XW.out.trans hx)
  clear hx
  go_wp2_with fail
  refine (toEntryS_u _ x0 _ _ (H0.out.ext (by decide) XW.out) hln0).mono ?_
  rintro e w3 ⟨vs0, rfl, ho, hx⟩
  replace ho := ho.le (base' := w.heap.size) XW.out.size
  replace XW := Lib.hid (XW.out.trans hx)
  obtain ⟨As0, qs0, rfl⟩ := ho.shape
  have Os0 := Lib.hid ho
  clear ho
  clear hx
  go_wp2_with fail
  refine (toChangeS_u _ x1 _ _ (H1.out.ext (by decide) XW.out) hln1).mono ?_
  rintro e w4 ⟨vs1, rfl, ho, hx⟩
  have NOs0_Os1 := Lib.hid (Os0.out.apart ho (by first | exact Nat.le_refl _ | simp))
  have NOs1_Os0 := Lib.hid (Os0.out.apart' ho (by first | exact Nat.le_refl _ | simp))
  replace ho := ho.le (base' := w.heap.size) XW.out.size
  replace Os0 := Lib.hid (Os0.out.ext hx)
  replace XW := Lib.hid (XW.out.trans hx)
  obtain ⟨As1, qs1, rfl⟩ := ho.shape
  have Os1 := Lib.hid ho
  clear ho
  clear hx
  go_wp2_with fail
  refine (specApply_any _ _ x0 x1 _ _ _ Os0.out.rd Os1.out.rd).mono ?_
  rintro e w5 ⟨vW, he, ho, hx⟩
  rw [HR2.out] at he
  subst he
  rw [HR1.out] at ho
  have NOs0_OW := Lib.hid (Os0.out.apart ho (by first | exact Nat.le_refl _ | simp))
  have NOW_Os0 := Lib.hid (Os0.out.apart' ho (by first | exact Nat.le_refl _ | simp))
  have NOs1_OW := Lib.hid (Os1.out.apart ho (by first | exact Nat.le_refl _ | simp))
  have NOW_Os1 := Lib.hid (Os1.out.apart' ho (by first | exact Nat.le_refl _ | simp))
  replace ho := ho.le (base' := w.heap.size) XW.out.size
  replace Os0 := Lib.hid (Os0.out.ext hx)
  replace Os1 := Lib.hid (Os1.out.ext hx)
  replace XW := Lib.hid (XW.out.trans hx)
  obtain ⟨AW, qW, rfl⟩ := ho.shape
  have OW := Lib.hid ho
  clear ho
  clear hx
  clear Os0
  clear Os1
  go_wp2_with fail
  refine (toEntryS_u _ x0 _ _ (H0.out.ext (by decide) XW.out) hln0).mono ?_
  rintro e w6 ⟨vx0, rfl, ho, hx⟩
  have NOW_Ox0 := Lib.hid (OW.out.apart ho (by first | exact Nat.le_refl _ | simp))
  have NOx0_OW := Lib.hid (OW.out.apart' ho (by first | exact Nat.le_refl _ | simp))
  replace ho := ho.le (base' := w.heap.size) XW.out.size
  replace OW := Lib.hid (OW.out.ext hx)
  replace XW := Lib.hid (XW.out.trans hx)
  obtain ⟨Ax0, qx0, rfl⟩ := ho.shape
  have Ox0 := Lib.hid ho
  clear ho
  clear hx
  go_wp2_with fail
  refine (toChangeS_u _ x1 _ _ (H1.out.ext (by decide) XW.out) hln1).mono ?_
  rintro e w7 ⟨vx1, rfl, ho, hx⟩
  have NOW_Ox1 := Lib.hid (OW.out.apart ho (by first | exact Nat.le_refl _ | simp))
  have NOx1_OW := Lib.hid (OW.out.apart' ho (by first | exact Nat.le_refl _ | simp))
  have NOx0_Ox1 := Lib.hid (Ox0.out.apart ho (by first | exact Nat.le_refl _ | simp))
  have NOx1_Ox0 := Lib.hid (Ox0.out.apart' ho (by first | exact Nat.le_refl _ | simp))
  replace ho := ho.le (base' := w.heap.size) XW.out.size
  replace OW := Lib.hid (OW.out.ext hx)
  replace Ox0 := Lib.hid (Ox0.out.ext hx)
  replace XW := Lib.hid (XW.out.trans hx)
  obtain ⟨Ax1, qx1, rfl⟩ := ho.shape
  have Ox1 := Lib.hid ho
  clear ho
  clear hx
  go_wp2_with fail
  refine (implApply_any _ _ x0 x1 _ _ _ Ox0.out.rd Ox1.out.rd).mono ?_
  rintro e w8 ⟨vG, he, ho, hx⟩
  rw [HR2.out] at he
  subst he
  rw [HR1.out] at ho
  have NOW_OG := Lib.hid (OW.out.apart ho (by first | exact Nat.le_refl _ | simp))
  have NOG_OW := Lib.hid (OW.out.apart' ho (by first | exact Nat.le_refl _ | simp))
  have NOx0_OG := Lib.hid (Ox0.out.apart ho (by first | exact Nat.le_refl _ | simp))
  have NOG_Ox0 := Lib.hid (Ox0.out.apart' ho (by first | exact Nat.le_refl _ | simp))
  have NOx1_OG := Lib.hid (Ox1.out.apart ho (by first | exact Nat.le_refl _ | simp))
  have NOG_Ox1 := Lib.hid (Ox1.out.apart' ho (by first | exact Nat.le_refl _ | simp))
  replace ho := ho.le (base' := w.heap.size) XW.out.size
  replace OW := Lib.hid (OW.out.ext hx)
  replace Ox0 := Lib.hid (Ox0.out.ext hx)
  replace Ox1 := Lib.hid (Ox1.out.ext hx)
  replace XW := Lib.hid (XW.out.trans hx)
  obtain ⟨AG, qG, rfl⟩ := ho.shape
  have OG := Lib.hid ho
  clear ho
  clear hx
  go_wp2_with fail
  refine (eqEntryS_u _ _ R _ _ _ OG.out.rd OW.out.rd).mono ?_
  rintro e w9 ⟨rfl, hx⟩
  replace OW := Lib.hid (OW.out.ext hx)
  replace Ox0 := Lib.hid (Ox0.out.ext hx)
  replace Ox1 := Lib.hid (Ox1.out.ext hx)
  replace OG := Lib.hid (OG.out.ext hx)
  replace XW := Lib.hid (XW.out.trans hx)
  clear hx
  go_wp2_with fail
  refine (toEntryS_u _ x0 _ _ (H0.out.ext (by decide) XW.out) hln0).mono ?_
  rintro e w10 ⟨vy0, rfl, ho, hx⟩
  have NOW_Oy0 := Lib.hid (OW.out.apart ho (by first | exact Nat.le_refl _ | simp))
  have NOy0_OW := Lib.hid (OW.out.apart' ho (by first | exact Nat.le_refl _ | simp))
  have NOx0_Oy0 := Lib.hid (Ox0.out.apart ho (by first | exact Nat.le_refl _ | simp))
  have NOy0_Ox0 := Lib.hid (Ox0.out.apart' ho (by first | exact Nat.le_refl _ | simp))
  have NOx1_Oy0 := Lib.hid (Ox1.out.apart ho (by first | exact Nat.le_refl _ | simp))
  have NOy0_Ox1 := Lib.hid (Ox1.out.apart' ho (by first | exact Nat.le_refl _ | simp))
  have NOG_Oy0 := Lib.hid (OG.out.apart ho (by first | exact Nat.le_refl _ | simp))
  have NOy0_OG := Lib.hid (OG.out.apart' ho (by first | exact Nat.le_refl _ | simp))
  replace ho := ho.le (base' := w.heap.size) XW.out.size
  replace OW := Lib.hid (OW.out.ext hx)
  replace Ox0 := Lib.hid (Ox0.out.ext hx)
  replace Ox1 := Lib.hid (Ox1.out.ext hx)
  replace OG := Lib.hid (OG.out.ext hx)
  replace XW := Lib.hid (XW.out.trans hx)
  obtain ⟨Ay0, qy0, rfl⟩ := ho.shape
  have Oy0 := Lib.hid ho
  clear ho
  clear hx
  go_wp2_with fail
  refine (eqEntryS_u _ _ x0 _ _ _ Ox0.out.rd Oy0.out.rd).mono ?_
  rintro e w11 ⟨rfl, hx⟩
  replace OW := Lib.hid (OW.out.ext hx)
  replace Ox0 := Lib.hid (Ox0.out.ext hx)
  replace Ox1 := Lib.hid (Ox1.out.ext hx)
  replace OG := Lib.hid (OG.out.ext hx)
  replace Oy0 := Lib.hid (Oy0.out.ext hx)
  replace XW := Lib.hid (XW.out.trans hx)
  clear hx
  clear Oy0
  go_wp2_with fail
  refine (toChangeS_u _ x1 _ _ (H1.out.ext (by decide) XW.out) hln1).mono ?_
  rintro e w12 ⟨vy1, rfl, ho, hx⟩
  have NOW_Oy1 := Lib.hid (OW.out.apart ho (by first | exact Nat.le_refl _ | simp))
  have NOy1_OW := Lib.hid (OW.out.apart' ho (by first | exact Nat.le_refl _ | simp))
  have NOx0_Oy1 := Lib.hid (Ox0.out.apart ho (by first | exact Nat.le_refl _ | simp))
  have NOy1_Ox0 := Lib.hid (Ox0.out.apart' ho (by first | exact Nat.le_refl _ | simp))
  have NOx1_Oy1 := Lib.hid (Ox1.out.apart ho (by first | exact Nat.le_refl _ | simp))
  have NOy1_Ox1 := Lib.hid (Ox1.out.apart' ho (by first | exact Nat.le_refl _ | simp))
  have NOG_Oy1 := Lib.hid (OG.out.apart ho (by first | exact Nat.le_refl _ | simp))
  have NOy1_OG := Lib.hid (OG.out.apart' ho (by first | exact Nat.le_refl _ | simp))
  replace ho := ho.le (base' := w.heap.size) XW.out.size
  replace OW := Lib.hid (OW.out.ext hx)
  replace Ox0 := Lib.hid (Ox0.out.ext hx)
  replace Ox1 := Lib.hid (Ox1.out.ext hx)
  replace OG := Lib.hid (OG.out.ext hx)
  replace XW := Lib.hid (XW.out.trans hx)
  obtain ⟨Ay1, qy1, rfl⟩ := ho.shape
  have Oy1 := Lib.hid ho
  clear ho
  clear hx
  go_wp2_with fail
  refine (eqChangeS_u _ _ x1 _ _ _ Ox1.out.rd Oy1.out.rd).mono ?_
  rintro e w13 ⟨rfl, hx⟩
  replace OW := Lib.hid (OW.out.ext hx)
  replace Ox0 := Lib.hid (Ox0.out.ext hx)
  replace Ox1 := Lib.hid (Ox1.out.ext hx)
  replace OG := Lib.hid (OG.out.ext hx)
  replace Oy1 := Lib.hid (Oy1.out.ext hx)
  replace XW := Lib.hid (XW.out.trans hx)
  clear hx
  clear Oy1
  go_wp2_with fail
  refine (markEntryS_any _ _ (1) _ _ Ox0.out.wr (by omega) (by omega)).mono ?_
  rintro e w14 ⟨rfl, hr, hg⟩
  replace XW := Lib.hid (XW.out.grown hg (fun k hk => (Ox0.out.base_le k hk).1))
  replace OW := Lib.hid (OW.out.kept hg NOW_Ox0.out)
  replace Ox1 := Lib.hid (Ox1.out.kept hg NOx1_Ox0.out)
  replace OG := Lib.hid (OG.out.kept hg NOG_Ox0.out)
  clear Ox0 hg
  clear hr
  go_wp2_with fail
  refine (markChangeS_any _ _ (1 + (x0.length : Int) * 2) _ _ Ox1.out.wr (by omega) (by omega)).mono ?_
  rintro e w15 ⟨rfl, hr, hg⟩
  replace XW := Lib.hid (XW.out.grown hg (fun k hk => (Ox1.out.base_le k hk).1))
  replace OW := Lib.hid (OW.out.kept hg NOW_Ox1.out)
  replace OG := Lib.hid (OG.out.kept hg NOG_Ox1.out)
  clear Ox1 hg
  clear hr
  go_wp2_with fail
  refine (eqEntryS_u _ _ R _ _ _ OG.out.rd OW.out.rd).mono ?_
  rintro e w16 ⟨rfl, hx⟩
  replace OW := Lib.hid (OW.out.ext hx)
  replace OG := Lib.hid (OG.out.ext hx)
  replace XW := Lib.hid (XW.out.trans hx)
  clear hx
  have hRl := OG.out.2.1
  go_wp2_with fail
  refine (markEntryS_any _ _ 1 _ _ OG.out.wr (by omega) (by omega)).mono ?_
  rintro e w17 ⟨rfl, hr, hg⟩
  replace XW := Lib.hid (XW.out.grown hg (fun k hk => (OG.out.base_le k hk).1))
  replace OW := Lib.hid (OW.out.kept hg NOW_OG.out)
  clear OG hg
  have M := Lib.hid hr
  clear hr
  go_wp2_with fail
  refine (heldEntryS_any _ _ 1 _ _ M.out (by omega) (by omega)).mono ?_
  rintro e w18 ⟨rfl, hx⟩
  replace OW := Lib.hid (OW.out.ext hx)
  replace M := Lib.hid (M.out.ext hx)
  replace XW := Lib.hid (XW.out.trans hx)
  clear hx
  have hqm : ((1 + (R.length : Int) * 2) != 1 + (R.length : Int) * 2) = false := by simp
  go_wp2_with fail
  refine (toEntryS_u _ x0 _ _ (H0.out.ext (by decide) XW.out) hln0).mono ?_
  rintro e w19 ⟨vz0, rfl, ho, hx⟩
  have NOW_Oz0 := Lib.hid (OW.out.apart ho (by first | exact Nat.le_refl _ | simp))
  have NOz0_OW := Lib.hid (OW.out.apart' ho (by first | exact Nat.le_refl _ | simp))
  replace ho := ho.le (base' := w.heap.size) XW.out.size
  replace OW := Lib.hid (OW.out.ext hx)
  replace M := Lib.hid (M.out.ext hx)
  replace XW := Lib.hid (XW.out.trans hx)
  obtain ⟨Az0, qz0, rfl⟩ := ho.shape
  have Oz0 := Lib.hid ho
  clear ho
  clear hx
  go_wp2_with fail
  refine (toChangeS_u _ x1 _ _ (H1.out.ext (by decide) XW.out) hln1).mono ?_
  rintro e w20 ⟨vz1, rfl, ho, hx⟩
  have NOW_Oz1 := Lib.hid (OW.out.apart ho (by first | exact Nat.le_refl _ | simp))
  have NOz1_OW := Lib.hid (OW.out.apart' ho (by first | exact Nat.le_refl _ | simp))
  have NOz0_Oz1 := Lib.hid (Oz0.out.apart ho (by first | exact Nat.le_refl _ | simp))
  have NOz1_Oz0 := Lib.hid (Oz0.out.apart' ho (by first | exact Nat.le_refl _ | simp))
  replace ho := ho.le (base' := w.heap.size) XW.out.size
  replace OW := Lib.hid (OW.out.ext hx)
  replace M := Lib.hid (M.out.ext hx)
  replace Oz0 := Lib.hid (Oz0.out.ext hx)
  replace XW := Lib.hid (XW.out.trans hx)
  obtain ⟨Az1, qz1, rfl⟩ := ho.shape
  have Oz1 := Lib.hid ho
  clear ho
  clear hx
  go_wp2_with fail
  refine (implApply_any _ _ x0 x1 _ _ _ Oz0.out.rd Oz1.out.rd).mono ?_
  rintro e w21 ⟨vH, he, ho, hx⟩
  rw [HR2.out] at he
  subst he
  rw [HR1.out] at ho
  have NOW_OH := Lib.hid (OW.out.apart ho (by first | exact Nat.le_refl _ | simp))
  have NOH_OW := Lib.hid (OW.out.apart' ho (by first | exact Nat.le_refl _ | simp))
  have NOz0_OH := Lib.hid (Oz0.out.apart ho (by first | exact Nat.le_refl _ | simp))
  have NOH_Oz0 := Lib.hid (Oz0.out.apart' ho (by first | exact Nat.le_refl _ | simp))
  have NOz1_OH := Lib.hid (Oz1.out.apart ho (by first | exact Nat.le_refl _ | simp))
  have NOH_Oz1 := Lib.hid (Oz1.out.apart' ho (by first | exact Nat.le_refl _ | simp))
  replace ho := ho.le (base' := w.heap.size) XW.out.size
  replace OW := Lib.hid (OW.out.ext hx)
  replace M := Lib.hid (M.out.ext hx)
  replace Oz0 := Lib.hid (Oz0.out.ext hx)
  replace Oz1 := Lib.hid (Oz1.out.ext hx)
  replace XW := Lib.hid (XW.out.trans hx)
  obtain ⟨AH, qH, rfl⟩ := ho.shape
  have OH := Lib.hid ho
  clear ho
  clear hx
  go_wp2_with fail
  refine (eqEntryS_u _ _ R _ _ _ OH.out.rd OW.out.rd).mono ?_
  rintro e w22 ⟨rfl, hx⟩
  replace OW := Lib.hid (OW.out.ext hx)
  replace M := Lib.hid (M.out.ext hx)
  replace Oz0 := Lib.hid (Oz0.out.ext hx)
  replace Oz1 := Lib.hid (Oz1.out.ext hx)
  replace OH := Lib.hid (OH.out.ext hx)
  replace XW := Lib.hid (XW.out.trans hx)
  clear hx
  go_wp2_with fail
  refine (heldEntryS_any _ _ 1 _ _ M.out (by omega) (by omega)).mono ?_
  rintro e w23 ⟨rfl, hx⟩
  replace OW := Lib.hid (OW.out.ext hx)
  replace M := Lib.hid (M.out.ext hx)
  replace Oz0 := Lib.hid (Oz0.out.ext hx)
  replace Oz1 := Lib.hid (Oz1.out.ext hx)
  replace OH := Lib.hid (OH.out.ext hx)
  replace XW := Lib.hid (XW.out.trans hx)
  clear hx
  go_wp2_with fail
  go_ret
  exact ⟨rfl, XW.out⟩
end Go.Proofs.Ytikpakhccmdmcaa
/- A list of entries as an argument. No condition. -/
namespace Go.Proofs.Ytikpakhccmdmcaa
open Go.RowKit
theorem c_ent : ∀ {w : World} {S : Nat → Prop} (es : List Value) (x : ByteArray × ByteArray), cPair cStr cStr w S es x → es = tEnt.enc x ∧ tEnt.ok x := by
  rintro w S es x ⟨c1, c2, rfl, ⟨rfl, h1⟩, rfl, h2⟩
  exact ⟨rfl, h1, h2⟩
end Go.Proofs.Ytikpakhccmdmcaa
/- A list of changes as an argument. No condition. -/
namespace Go.Proofs.Ytikpakhccmdmcaa
open Go.RowKit
theorem opens_struct5 {α β γ δ ε : Type} {P : Program} {t : TypeId} {f g k l n : Field} {c : Cd α} {d : Cd β} {b : Cd γ} {r : Cd δ} {s : Cd ε} (ht : P.underlying t = some (.struct #[f, g, k, l, n])) (h0 : f.offset = 0) (h1 : g.offset = P.cellsOf f.type) (h2 : k.offset = P.cellsOf f.type + P.cellsOf g.type) (h3 : l.offset = P.cellsOf f.type + P.cellsOf g.type + P.cellsOf k.type) (h5 : n.offset = P.cellsOf f.type + P.cellsOf g.type + P.cellsOf k.type + P.cellsOf l.type) (hc : P.cellsOf t = P.cellsOf f.type + P.cellsOf g.type + P.cellsOf k.type + P.cellsOf l.type + P.cellsOf n.type)
    (hf : Opens P f.type c) (hg : Opens P g.type d) (hk : Opens P k.type b) (hr : Opens P l.type r) (hs : Opens P n.type s) : Opens P t (cPair c (cPair d (cPair b (cPair r s)))) := by
  intro H enc w base spare held fuel cs x h hw
  obtain ⟨xs, m, rfl, rfl, hl, hx, hi⟩ := DataW.trod_struct ht h
  match xs, hx with
  | [y0, y1, y2, y3, y4], _ =>
    have e0 := hi 0 f rfl
    have e1 := hi 1 g rfl
    have e2 := hi 2 k rfl
    have e3 := hi 3 l rfl
    have e4 := hi 4 n rfl
    simp only [List.getElem?_cons_zero, List.getElem?_cons_succ] at e0 e1 e2 e3 e4
    rw [h0, List.drop_zero] at e0
    rw [h1] at e1
    rw [h2] at e2
    rw [h3] at e3
    rw [h5, List.take_of_length_le (by rw [List.length_drop]; omega)] at e4
    obtain ⟨a, ha⟩ := hf _ _ _ _ _ _ _ _ _ e0 (fun n hn => hw n (by simp [DataW.weights, ht, DataW.weightsEach, hn]))
    obtain ⟨b', hb⟩ := hg _ _ _ _ _ _ _ _ _ e1 (fun n hn => hw n (by simp [DataW.weights, ht, DataW.weightsEach, hn]))
    obtain ⟨q, hq⟩ := hk _ _ _ _ _ _ _ _ _ e2 (fun n hn => hw n (by simp [DataW.weights, ht, DataW.weightsEach, hn]))
    obtain ⟨z, hz⟩ := hr _ _ _ _ _ _ _ _ _ e3 (fun n hn => hw n (by simp [DataW.weights, ht, DataW.weightsEach, hn]))
    obtain ⟨y, hy⟩ := hs _ _ _ _ _ _ _ _ _ e4 (fun n hn => hw n (by simp [DataW.weights, ht, DataW.weightsEach, hn]))
    refine ⟨(a, b', q, z, y), _, _, (List.take_append_drop (P.cellsOf f.type) _).symm, ha, _, cs.drop (P.cellsOf f.type + P.cellsOf g.type), ?_, hb, _, cs.drop (P.cellsOf f.type + P.cellsOf g.type + P.cellsOf k.type), ?_, hq, _, _, ?_, hz, hy⟩
    · have h4 := List.take_append_drop (P.cellsOf g.type) (cs.drop (P.cellsOf f.type))
      rw [List.drop_drop] at h4
      exact h4.symm
    · have h4 := List.take_append_drop (P.cellsOf k.type) (cs.drop (P.cellsOf f.type + P.cellsOf g.type))
      rw [List.drop_drop] at h4
      exact h4.symm
    · have h4 := List.take_append_drop (P.cellsOf l.type) (cs.drop (P.cellsOf f.type + P.cellsOf g.type + P.cellsOf k.type))
      rw [List.drop_drop] at h4
      exact h4.symm
def toChg (x : ByteArray × Bool × ByteArray × Bool × ByteArray) : Chg := ⟨x.1, x.2.1, x.2.2.1, x.2.2.2.1, x.2.2.2.2⟩
def tChgT : Ty (ByteArray × Bool × ByteArray × Bool × ByteArray) := ⟨5, fun x => tChg.enc (toChg x), fun x => tChg.ok (toChg x), fun _ _ => rfl, fun x => tChg.one (toChg x)⟩
theorem c_chg : ∀ {w : World} {S : Nat → Prop} (es : List Value) (x : ByteArray × Bool × ByteArray × Bool × ByteArray), cPair cStr (cPair cBool (cPair cStr (cPair cBool cStr))) w S es x → es = tChgT.enc x ∧ tChgT.ok x := by
  rintro w S es x ⟨c1, c2, rfl, ⟨rfl, h1⟩, c3, c4, rfl, rfl, c5, c6, rfl, ⟨rfl, h2⟩, c7, c8, rfl, rfl, rfl, h3⟩
  exact ⟨rfl, h1, h2, h3⟩
theorem rdl_chg {w : World} {S : Nat → Prop} {v : Value} {xs : List (ByteArray × Bool × ByteArray × Bool × ByteArray)} (h : RdL tChgT w S v xs) : RdL tChg w S v (xs.map toChg) := by
  obtain ⟨A, cap, e, h1, h2, h3, h4⟩ := h
  have e2 : (xs.map toChg).flatMap tChg.enc = xs.flatMap tChgT.enc := by rw [List.flatMap_map]; rfl
  refine ⟨A, cap, by rw [List.length_map]; exact e, by rw [List.length_map]; exact h1, by rw [List.length_map]; exact h2, by rw [List.length_map, e2]; exact h3, ?_⟩
  intro x hx
  obtain ⟨y, hy, rfl⟩ := List.mem_map.1 hx
  exact h4 y hy
end Go.Proofs.Ytikpakhccmdmcaa
