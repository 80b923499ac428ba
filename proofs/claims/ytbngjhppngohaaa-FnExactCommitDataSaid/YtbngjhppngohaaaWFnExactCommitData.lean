/- The walk of the law FnExactCommitData. No condition. -/
import Derived.Test.YtbngjhppngohaaaCommitDD
namespace Go.Proofs.Ytbngjhppngohaaa
open Go.RowKit
set_option linter.unusedVariables false
set_option linter.unusedSimpArgs false

set_option maxHeartbeats 1000000 in
set_option maxRecDepth 100000 in
theorem FnExactCommitData_any (w : World) (cs0 : Array Value) (x0 : Cm) (S0 : Nat → Prop) (h0 : RCommit w S0 cs0 x0) :
    Calls Try.prog 9 #[.agg cs0] w fun e w' => e = .returned (.bool true) ∧ Ext w w' := by
  have H0 := Lib.hid h0
  clear h0
  have hn0 := H0.out.st.size
  have Hs0 := Lib.hid H0.out.st
  by_cases hz0 : (1048576 - (x0.par.length + x0.note.size : Nat) : Int) < 0
  · go_enter Try.func9, Try.ntmps9
    go_wp2_with (first | (refine wpl_loadB (Blk.new' (g := w.heap.size) (w := w) (by simp) 25 cs0) aggCommitL hn0 rfl _ rfl rfl ?_))
    refine (szCommit_u _ x0 (1048576) _ _ (H0.out.ext (ext_alloc _ _)) (by omega) (by omega)).mono ?_
    rintro e w1 ⟨rfl, hx⟩
    rw [if_pos (by omega)]
    have B0 := Lib.hid ((Blk.new' (g := w.heap.size) (w := w) (by simp) 25 cs0).ext hx)
    have XW := Lib.hid ((ext_alloc _ _).trans hx)
    clear hx
    go_wp2_with (first | (refine wpl_loadB B0.out aggCommitL hn0 rfl _ rfl rfl ?_))
    go_ret
    exact ⟨rfl, XW.out⟩
  have hp0 : x0.par.length ≤ 1048576 := by omega
  obtain ⟨R, c, hR⟩ : ∃ R c, cdataR x0 = (R, c) := ⟨_, _, rfl⟩
  have HR1 := Lib.hid (congrArg Prod.fst hR)
  have HR2 := Lib.hid (congrArg Prod.snd hR)
  clear hR
  have hq : (c != c) = false := by simp
  go_enter Try.func9, Try.ntmps9
  go_wp2_with (first | (refine wpl_loadB (Blk.new' (g := w.heap.size) (w := w) (by simp) 25 cs0) aggCommitL hn0 rfl _ rfl rfl ?_))
  refine (szCommit_u _ x0 (1048576) _ _ (H0.out.ext (ext_alloc _ _)) (by omega) (by omega)).mono ?_
  rintro e w1 ⟨rfl, hx⟩
  rw [if_neg (by omega)]
  have B0 := Lib.hid ((Blk.new' (g := w.heap.size) (w := w) (by simp) 25 cs0).ext hx)
  have XW := Lib.hid ((ext_alloc _ _).trans hx)
  clear hx
  go_wp2_with (first | (refine wpl_loadB B0.out aggCommitL hn0 rfl _ rfl rfl ?_))
  refine (toCommit_o _ x0 _ _ (H0.out.ext XW.out) hp0).mono ?_
  rintro e w2 ⟨vs0, rfl, ho, hrs0, hns0, hts0, hx⟩
  have BB0_Os0 := Lib.hid (ho.far_of_lt (Nat.lt_of_lt_of_le B0.out.lt (by first | exact Nat.le_refl _ | simp)))
  replace ho := ho.le (base' := w.heap.size) XW.out.size
  replace B0 := Lib.hid (B0.out.ext hx)
  replace XW := Lib.hid (XW.out.trans hx)
  have Hrs0 := Lib.hid hrs0
  clear hrs0
  obtain ⟨As0, qs0, rfl⟩ := ho.shape
  have Os0 := Lib.hid ho
  clear ho
  clear hx
  go_wp2_with (first | (refine wpl_loadB B0.out aggCommitL hn0 rfl _ rfl rfl ?_))
  refine (specCommitData_u _ x0 _ _ ⟨_, rfl, Os0.out.rd, Hrs0.out, hns0, hts0⟩).mono ?_
  rintro e w3 ⟨vW, he, ho, hx⟩
  rw [HR2.out] at he
  subst he
  rw [HR1.out] at ho
  have NOs0_OW := Lib.hid (Os0.out.apart ho (by first | exact Nat.le_refl _ | simp))
  have NOW_Os0 := Lib.hid (Os0.out.apart' ho (by first | exact Nat.le_refl _ | simp))
  have BB0_OW := Lib.hid (ho.far_of_lt (Nat.lt_of_lt_of_le B0.out.lt (by first | exact Nat.le_refl _ | simp)))
  replace ho := ho.le (base' := w.heap.size) XW.out.size
  replace Os0 := Lib.hid (Os0.out.ext hx)
  replace B0 := Lib.hid (B0.out.ext hx)
  replace XW := Lib.hid (XW.out.trans hx)
  obtain ⟨AW, qW, rfl⟩ := ho.shape
  have OW := Lib.hid ho
  clear ho
  clear hx
  clear Os0
  go_wp2_with (first | (refine wpl_loadB B0.out aggCommitL hn0 rfl _ rfl rfl ?_))
  refine (toCommit_o _ x0 _ _ (H0.out.ext XW.out) hp0).mono ?_
  rintro e w4 ⟨vx0, rfl, ho, hrx0, hnx0, htx0, hx⟩
  have NOW_Ox0 := Lib.hid (OW.out.apart ho (by first | exact Nat.le_refl _ | simp))
  have NOx0_OW := Lib.hid (OW.out.apart' ho (by first | exact Nat.le_refl _ | simp))
  have BB0_Ox0 := Lib.hid (ho.far_of_lt (Nat.lt_of_lt_of_le B0.out.lt (by first | exact Nat.le_refl _ | simp)))
  replace ho := ho.le (base' := w.heap.size) XW.out.size
  replace OW := Lib.hid (OW.out.ext hx)
  replace B0 := Lib.hid (B0.out.ext hx)
  replace XW := Lib.hid (XW.out.trans hx)
  have Hrx0 := Lib.hid hrx0
  clear hrx0
  obtain ⟨Ax0, qx0, rfl⟩ := ho.shape
  have Ox0 := Lib.hid ho
  clear ho
  clear hx
  have Zsx0 := Lib.hid (Cm.st (x := x0) Hrx0.out Ax0 x0.par.length qx0)
  have Znx0 := Zsx0.out.size
  have BVx0_OW := Lib.hid (OW.out.far_of_ge (Nat.le_refl _))
  have BVx0_Ox0 := Lib.hid (Ox0.out.far_of_ge (Nat.le_refl _))
  go_wp2_with (first | (refine wpl_storeNewB aggCommitI Zsx0.out rfl rfl _ _ rfl rfl rfl rfl ?_) | (refine wpl_loadB (Blk.new w4 31 (x0.cells (.slice Ax0 x0.par.length qx0))) aggCommitI Znx0 rfl _ rfl rfl ?_) | (refine wpl_loadB B0.out aggCommitL hn0 rfl _ rfl rfl ?_) | (refine wpl_loadB (B0.out.alloc _) aggCommitL hn0 rfl _ rfl rfl ?_))
  refine (implCommitData_u _ x0 _ _ ((show RCommit _ _ _ x0 from ⟨_, rfl, Ox0.out.rd, Hrx0.out, hnx0, htx0⟩).ext (ext_alloc _ _))).mono ?_
  rintro e w5 ⟨vG, he, ho, hx⟩
  rw [HR2.out] at he
  subst he
  rw [HR1.out] at ho
  have NOW_OG := Lib.hid (OW.out.apart ho (by first | exact Nat.le_refl _ | simp))
  have NOG_OW := Lib.hid (OW.out.apart' ho (by first | exact Nat.le_refl _ | simp))
  have NOx0_OG := Lib.hid (Ox0.out.apart ho (by first | exact Nat.le_refl _ | simp))
  have NOG_Ox0 := Lib.hid (Ox0.out.apart' ho (by first | exact Nat.le_refl _ | simp))
  have BB0_OG := Lib.hid (ho.far_of_lt (Nat.lt_of_lt_of_le B0.out.lt (by first | exact Nat.le_refl _ | simp)))
  have BVx0_OG := Lib.hid (ho.far_of_lt (g := w4.heap.size) (by simp))
  replace ho := ho.le (base' := w.heap.size) (by have := XW.out.size; simp; omega)
  have hE := (ext_alloc w4 (.cells (x0.cells (.slice Ax0 x0.par.length qx0)) 31)).trans hx
  replace OW := Lib.hid (OW.out.ext hE)
  replace Ox0 := Lib.hid (Ox0.out.ext hE)
  replace B0 := Lib.hid (B0.out.ext hE)
  replace XW := Lib.hid (XW.out.trans hE)
  clear hE
  have Vx0 := Lib.hid ((Blk.new w4 31 (x0.cells (.slice Ax0 x0.par.length qx0))).ext hx)
  obtain ⟨AG, qG, rfl⟩ := ho.shape
  have OG := Lib.hid ho
  clear ho
  clear hx
  go_wp2_with (first | (refine wpl_loadB B0.out aggCommitL hn0 rfl _ rfl rfl ?_) | (refine wpl_loadB Vx0.out aggCommitI Znx0 rfl _ rfl rfl ?_))
  refine (eqByteS_any _ _ R R _ _ _ OG.out.rd OW.out.rd).mono ?_
  rintro e w6 ⟨rfl, hD⟩
  rw [beq_self_eq_true]
  have hx := hD.ext
  clear hD
  replace OW := Lib.hid (OW.out.ext hx)
  replace Ox0 := Lib.hid (Ox0.out.ext hx)
  replace OG := Lib.hid (OG.out.ext hx)
  replace B0 := Lib.hid (B0.out.ext hx)
  replace Vx0 := Lib.hid (Vx0.out.ext hx)
  replace XW := Lib.hid (XW.out.trans hx)
  clear hx
  go_wp2_with (first | (refine wpl_loadB B0.out aggCommitL hn0 rfl _ rfl rfl ?_) | (refine wpl_loadB Vx0.out aggCommitI Znx0 rfl _ rfl rfl ?_))
  refine wp_region_held_drew (S := fun W => Ext w6 W) (by kernel_rfl) (Ext.refl _).drew (fun hHeld => ?_)
  refine wpAnyH_take (i := 0) (oi := ?oiz1) (v := (.agg (x0.cells (.slice Ax0 x0.par.length qx0)))) ?hiz1 (by kernel_rfl) (by kernel_rfl) (by kernel_rfl) ?hQz1 ?hyz1 (by assumption) ?restz1
  case hiz1 => simp only [List.getElem?_toArray, List.getElem?_cons_zero, List.getElem?_cons_succ]; rfl
  case hQz1 => exact fun _ _ _ h => h
  case hyz1 => refine yields_loadB Vx0.out aggCommitI Znx0 ?_ _ rfl rfl; rfl
  try simp only [Act.put, List.setIfInBounds_toArray, List.set_cons_zero, List.set_cons_succ]
  refine wpAnyH_take (i := 1) (oi := ?oiz2) (v := (.agg cs0)) ?hiz2 (by kernel_rfl) (by kernel_rfl) (by kernel_rfl) ?hQz2 ?hyz2 (by assumption) ?restz2
  case hiz2 => simp only [List.getElem?_toArray, List.getElem?_cons_zero, List.getElem?_cons_succ]; rfl
  case hQz2 => exact fun _ _ _ h => h
  case hyz2 => refine yields_loadB B0.out aggCommitL hn0 ?_ _ rfl rfl; rfl
  try simp only [Act.put, List.setIfInBounds_toArray, List.set_cons_zero, List.set_cons_succ]
  refine wpAnyH_ready (rs := [2]) (by kernel_rfl) (by simp) (AllReadyH.cons (o := ?oy3) ?hy3 (fun K hK => ?sy3) AllReadyH.nil)
  case hy3 => simp only [List.getElem?_toArray, List.getElem?_cons_zero, List.getElem?_cons_succ]; rfl
  go_simp
  refine (toCommit_u _ x0 _ _ (H0.out.ext (XW.out.trans hHeld)) hp0).mono ?_
  rintro e w7 ⟨vy0, rfl, ho, hx⟩
  have hH2 := hHeld.trans hx
  refine hK.out _ _ hH2 (fun _ => ?_)
  clear hHeld hK K
  have hHeld := hH2
  clear hH2
  try simp only [Act.put, List.setIfInBounds_toArray, List.set_cons_zero, List.set_cons_succ]
  refine wpAnyH_ready (rs := [3]) (by kernel_rfl) (by simp) (AllReadyH.cons (o := ?oy4) ?hy4 (fun K hK => ?sy4) AllReadyH.nil)
  case hy4 => simp only [List.getElem?_toArray, List.getElem?_cons_zero, List.getElem?_cons_succ]; rfl
  go_simp
  refine (eqCommit_u _ _ x0 _ _ _ ((show RCommit _ _ _ x0 from ⟨_, rfl, Ox0.out.rd, Hrx0.out, hnx0, htx0⟩).ext hHeld) ho).mono ?_
  rintro e w8 ⟨rfl, hx⟩
  have hH2 := hHeld.trans hx
  refine hK.out _ _ hH2 (fun _ => ?_)
  clear hHeld hK K
  have hHeld := hH2
  clear hH2
  try simp only [Act.put, List.setIfInBounds_toArray, List.set_cons_zero, List.set_cons_succ]
  refine wpAnyH_take (i := 4) (oi := ?oiz5) (v := ?vz5) ?hiz5 (by kernel_rfl) (by kernel_rfl) (by kernel_rfl) ?hQz5 ?hyz5 (by assumption) ?restz5
  case hiz5 => simp only [List.getElem?_toArray, List.getElem?_cons_zero, List.getElem?_cons_succ]; rfl
  case hQz5 => exact fun _ _ _ h => h
  case hyz5 => exact Or.inl ⟨by rfl, by intro w hSw; go_simp; with_reducible rfl⟩
  try simp only [Act.put, List.setIfInBounds_toArray, List.set_cons_zero, List.set_cons_succ]
  refine wpAnyH_done (by kernel_rfl) ?_ _
  replace OW := Lib.hid (OW.out.ext hHeld)
  replace Ox0 := Lib.hid (Ox0.out.ext hHeld)
  replace OG := Lib.hid (OG.out.ext hHeld)
  replace B0 := Lib.hid (B0.out.ext hHeld)
  replace Vx0 := Lib.hid (Vx0.out.ext hHeld)
  replace XW := Lib.hid (XW.out.trans hHeld)
  clear hHeld
  go_wp2_with (first | (refine wpl_loadB B0.out aggCommitL hn0 rfl _ rfl rfl ?_) | (refine wpl_loadB Vx0.out aggCommitI Znx0 rfl _ rfl rfl ?_))
  refine (markCommit_any x0 _ _ (1) _ _ Hrx0.out Ox0.out.wr (by omega) (by omega)).mono ?_
  rintro e w9 ⟨rfl, hr, hg⟩
  replace XW := Lib.hid (XW.out.grown hg (fun k hk => (Ox0.out.base_le k hk).1))
  replace OW := Lib.hid (OW.out.kept hg NOW_Ox0.out)
  replace OG := Lib.hid (OG.out.kept hg NOG_Ox0.out)
  replace B0 := Lib.hid (B0.out.grown hg BB0_Ox0.out)
  replace Vx0 := Lib.hid (Vx0.out.grown hg BVx0_Ox0.out)
  clear Ox0 hg
  clear hr
  go_wp2_with (first | (refine wpl_loadB B0.out aggCommitL hn0 rfl _ rfl rfl ?_) | (refine wpl_loadB Vx0.out aggCommitI Znx0 rfl _ rfl rfl ?_))
  refine (eqByteS_any _ _ R R _ _ _ OG.out.rd OW.out.rd).mono ?_
  rintro e w10 ⟨rfl, hD⟩
  rw [beq_self_eq_true]
  have hx := hD.ext
  clear hD
  replace OW := Lib.hid (OW.out.ext hx)
  replace OG := Lib.hid (OG.out.ext hx)
  replace B0 := Lib.hid (B0.out.ext hx)
  replace Vx0 := Lib.hid (Vx0.out.ext hx)
  replace XW := Lib.hid (XW.out.trans hx)
  clear hx
  have hRl := OG.out.2.1
  go_wp2_with (first | (refine wpl_loadB B0.out aggCommitL hn0 rfl _ rfl rfl ?_) | (refine wpl_loadB Vx0.out aggCommitI Znx0 rfl _ rfl rfl ?_))
  refine (markByteS_any _ _ 1 _ _ OG.out.wr (by omega) (by omega)).mono ?_
  rintro e w11 ⟨rfl, hr, hg⟩
  replace XW := Lib.hid (XW.out.grown hg (fun k hk => (OG.out.base_le k hk).1))
  replace OW := Lib.hid (OW.out.kept hg NOW_OG.out)
  replace B0 := Lib.hid (B0.out.grown hg BB0_OG.out)
  replace Vx0 := Lib.hid (Vx0.out.grown hg BVx0_OG.out)
  clear OG hg
  have M := Lib.hid hr
  clear hr
  go_wp2_with (first | (refine wpl_loadB B0.out aggCommitL hn0 rfl _ rfl rfl ?_) | (refine wpl_loadB Vx0.out aggCommitI Znx0 rfl _ rfl rfl ?_))
  refine (heldByteS_any _ _ 1 _ _ M.out (by omega) (by omega)).mono ?_
  rintro e w12 ⟨rfl, hD⟩
  have hx := hD.ext
  clear hD
  replace OW := Lib.hid (OW.out.ext hx)
  replace M := Lib.hid (M.out.ext (by decide) hx)
  replace B0 := Lib.hid (B0.out.ext hx)
  replace Vx0 := Lib.hid (Vx0.out.ext hx)
  replace XW := Lib.hid (XW.out.trans hx)
  clear hx
  have hqm : ((1 + (R.length : Int)) != 1 + (R.length : Int)) = false := by simp
  go_wp2_with (first | (refine wpl_loadB B0.out aggCommitL hn0 rfl _ rfl rfl ?_) | (refine wpl_loadB Vx0.out aggCommitI Znx0 rfl _ rfl rfl ?_))
  refine (toCommit_o _ x0 _ _ (H0.out.ext XW.out) hp0).mono ?_
  rintro e w13 ⟨vz0, rfl, ho, hrz0, hnz0, htz0, hx⟩
  have NOW_Oz0 := Lib.hid (OW.out.apart ho (by first | exact Nat.le_refl _ | simp))
  have NOz0_OW := Lib.hid (OW.out.apart' ho (by first | exact Nat.le_refl _ | simp))
  have BB0_Oz0 := Lib.hid (ho.far_of_lt (Nat.lt_of_lt_of_le B0.out.lt (by first | exact Nat.le_refl _ | simp)))
  have BVx0_Oz0 := Lib.hid (ho.far_of_lt (Nat.lt_of_lt_of_le Vx0.out.lt (by first | exact Nat.le_refl _ | simp)))
  replace ho := ho.le (base' := w.heap.size) XW.out.size
  replace OW := Lib.hid (OW.out.ext hx)
  replace M := Lib.hid (M.out.ext (by decide) hx)
  replace B0 := Lib.hid (B0.out.ext hx)
  replace Vx0 := Lib.hid (Vx0.out.ext hx)
  replace XW := Lib.hid (XW.out.trans hx)
  have Hrz0 := Lib.hid hrz0
  clear hrz0
  obtain ⟨Az0, qz0, rfl⟩ := ho.shape
  have Oz0 := Lib.hid ho
  clear ho
  clear hx
  go_wp2_with (first | (refine wpl_loadB B0.out aggCommitL hn0 rfl _ rfl rfl ?_) | (refine wpl_loadB Vx0.out aggCommitI Znx0 rfl _ rfl rfl ?_))
  refine (implCommitData_u _ x0 _ _ ⟨_, rfl, Oz0.out.rd, Hrz0.out, hnz0, htz0⟩).mono ?_
  rintro e w14 ⟨vH, he, ho, hx⟩
  rw [HR2.out] at he
  subst he
  rw [HR1.out] at ho
  have NOW_OH := Lib.hid (OW.out.apart ho (by first | exact Nat.le_refl _ | simp))
  have NOH_OW := Lib.hid (OW.out.apart' ho (by first | exact Nat.le_refl _ | simp))
  have NOz0_OH := Lib.hid (Oz0.out.apart ho (by first | exact Nat.le_refl _ | simp))
  have NOH_Oz0 := Lib.hid (Oz0.out.apart' ho (by first | exact Nat.le_refl _ | simp))
  have BB0_OH := Lib.hid (ho.far_of_lt (Nat.lt_of_lt_of_le B0.out.lt (by first | exact Nat.le_refl _ | simp)))
  have BVx0_OH := Lib.hid (ho.far_of_lt (Nat.lt_of_lt_of_le Vx0.out.lt (by first | exact Nat.le_refl _ | simp)))
  replace ho := ho.le (base' := w.heap.size) XW.out.size
  replace OW := Lib.hid (OW.out.ext hx)
  replace M := Lib.hid (M.out.ext (by decide) hx)
  replace Oz0 := Lib.hid (Oz0.out.ext hx)
  replace B0 := Lib.hid (B0.out.ext hx)
  replace Vx0 := Lib.hid (Vx0.out.ext hx)
  replace XW := Lib.hid (XW.out.trans hx)
  obtain ⟨AH, qH, rfl⟩ := ho.shape
  have OH := Lib.hid ho
  clear ho
  clear hx
  go_wp2_with (first | (refine wpl_loadB B0.out aggCommitL hn0 rfl _ rfl rfl ?_) | (refine wpl_loadB Vx0.out aggCommitI Znx0 rfl _ rfl rfl ?_))
  refine (eqByteS_any _ _ R R _ _ _ OH.out.rd OW.out.rd).mono ?_
  rintro e w15 ⟨rfl, hD⟩
  rw [beq_self_eq_true]
  have hx := hD.ext
  clear hD
  replace OW := Lib.hid (OW.out.ext hx)
  replace M := Lib.hid (M.out.ext (by decide) hx)
  replace Oz0 := Lib.hid (Oz0.out.ext hx)
  replace OH := Lib.hid (OH.out.ext hx)
  replace B0 := Lib.hid (B0.out.ext hx)
  replace Vx0 := Lib.hid (Vx0.out.ext hx)
  replace XW := Lib.hid (XW.out.trans hx)
  clear hx
  go_wp2_with (first | (refine wpl_loadB B0.out aggCommitL hn0 rfl _ rfl rfl ?_) | (refine wpl_loadB Vx0.out aggCommitI Znx0 rfl _ rfl rfl ?_))
  refine (heldByteS_any _ _ 1 _ _ M.out (by omega) (by omega)).mono ?_
  rintro e w16 ⟨rfl, hD⟩
  have hx := hD.ext
  clear hD
  replace OW := Lib.hid (OW.out.ext hx)
  replace M := Lib.hid (M.out.ext (by decide) hx)
  replace Oz0 := Lib.hid (Oz0.out.ext hx)
  replace OH := Lib.hid (OH.out.ext hx)
  replace B0 := Lib.hid (B0.out.ext hx)
  replace Vx0 := Lib.hid (Vx0.out.ext hx)
  replace XW := Lib.hid (XW.out.trans hx)
  clear hx
  go_wp2_with (first | (refine wpl_loadB B0.out aggCommitL hn0 rfl _ rfl rfl ?_) | (refine wpl_loadB Vx0.out aggCommitI Znx0 rfl _ rfl rfl ?_))
  go_ret
  exact ⟨rfl, XW.out⟩
end Go.Proofs.Ytbngjhppngohaaa
