/- The walk of the law FnExactSameCommit. No condition. -/
import Derived.Test.YtbngjhppngohaaaSameC
namespace Go.Proofs.Ytbngjhppngohaaa
open Go.RowKit
set_option linter.unusedVariables false
set_option linter.unusedSimpArgs false

set_option maxHeartbeats 1000000 in
set_option maxRecDepth 100000 in
theorem FnExactSameCommit_any (w : World) (cs0 : Array Value) (x0 : Cm) (S0 : Nat → Prop) (h0 : RCommit w S0 cs0 x0) (cs1 : Array Value) (x1 : Cm) (S1 : Nat → Prop) (h1 : RCommit w S1 cs1 x1) :
    Calls Try.prog 3 #[.agg cs0, .agg cs1] w fun e w' => e = .returned (.bool true) ∧ Ext w w' := by
  have H0 := Lib.hid h0
  clear h0
  have H1 := Lib.hid h1
  clear h1
  have hn0 := H0.out.st.size
  have Hs0 := Lib.hid H0.out.st
  have hn1 := H1.out.st.size
  have Hs1 := Lib.hid H1.out.st
  by_cases hz0 : (1048576 - (x0.par.length + x0.note.size : Nat) : Int) < 0
  · go_enter Try.func3, Try.ntmps3
    go_wp2_with (first | (refine wpl_loadB ((Blk.new' (g := w.heap.size) (w := w) (by simp) 25 cs0).alloc _) aggCommitL hn0 rfl _ rfl rfl ?_) | (refine wpl_loadB (Blk.new' (g := w.heap.size + 1) (w := (World.alloc w _)) (by simp) 25 cs1) aggCommitL hn1 rfl _ rfl rfl ?_))
    refine (szCommit_u _ x0 (1048576) _ _ (H0.out.ext ((ext_alloc _ _).alloc _)) (by omega) (by omega)).mono ?_
    rintro e w1 ⟨rfl, hx⟩
    rw [if_pos (by omega)]
    have B0 := Lib.hid (((Blk.new' (g := w.heap.size) (w := w) (by simp) 25 cs0).alloc _).ext hx)
    have B1 := Lib.hid ((Blk.new' (g := w.heap.size + 1) (w := (World.alloc w _)) (by simp) 25 cs1).ext hx)
    have XW := Lib.hid (((ext_alloc _ _).alloc _).trans hx)
    clear hx
    go_wp2_with (first | (refine wpl_loadB B0.out aggCommitL hn0 rfl _ rfl rfl ?_) | (refine wpl_loadB B1.out aggCommitL hn1 rfl _ rfl rfl ?_))
    go_ret
    exact ⟨rfl, XW.out⟩
  by_cases hz1 : (1048576 - (x0.par.length + x0.note.size : Nat) - (x1.par.length + x1.note.size : Nat) : Int) < 0
  · go_enter Try.func3, Try.ntmps3
    go_wp2_with (first | (refine wpl_loadB ((Blk.new' (g := w.heap.size) (w := w) (by simp) 25 cs0).alloc _) aggCommitL hn0 rfl _ rfl rfl ?_) | (refine wpl_loadB (Blk.new' (g := w.heap.size + 1) (w := (World.alloc w _)) (by simp) 25 cs1) aggCommitL hn1 rfl _ rfl rfl ?_))
    refine (szCommit_u _ x0 (1048576) _ _ (H0.out.ext ((ext_alloc _ _).alloc _)) (by omega) (by omega)).mono ?_
    rintro e w1 ⟨rfl, hx⟩
    rw [if_neg (by omega)]
    have B0 := Lib.hid (((Blk.new' (g := w.heap.size) (w := w) (by simp) 25 cs0).alloc _).ext hx)
    have B1 := Lib.hid ((Blk.new' (g := w.heap.size + 1) (w := (World.alloc w _)) (by simp) 25 cs1).ext hx)
    have XW := Lib.hid (((ext_alloc _ _).alloc _).trans hx)
    clear hx
    go_wp2_with (first | (refine wpl_loadB B0.out aggCommitL hn0 rfl _ rfl rfl ?_) | (refine wpl_loadB B1.out aggCommitL hn1 rfl _ rfl rfl ?_))
    refine (szCommit_u _ x1 (1048576 - (x0.par.length + x0.note.size : Nat)) _ _ (H1.out.ext XW.out) (by omega) (by omega)).mono ?_
    rintro e w2 ⟨rfl, hx⟩
    rw [if_pos (by omega)]
    replace B0 := Lib.hid (B0.out.ext hx)
    replace B1 := Lib.hid (B1.out.ext hx)
    replace XW := Lib.hid (XW.out.trans hx)
    clear hx
    go_wp2_with (first | (refine wpl_loadB B0.out aggCommitL hn0 rfl _ rfl rfl ?_) | (refine wpl_loadB B1.out aggCommitL hn1 rfl _ rfl rfl ?_))
    go_ret
    exact ⟨rfl, XW.out⟩
  have hp0 : x0.par.length ≤ 1048576 := by omega
  have hp1 : x1.par.length ≤ 1048576 := by omega
  obtain ⟨R, hR⟩ : ∃ R, sameCm x0 x1 = R := ⟨_, rfl⟩
  have HR := Lib.hid hR
  clear hR
  have hq : (R != R) = false := by simp
  go_enter Try.func3, Try.ntmps3
  go_wp2_with (first | (refine wpl_loadB ((Blk.new' (g := w.heap.size) (w := w) (by simp) 25 cs0).alloc _) aggCommitL hn0 rfl _ rfl rfl ?_) | (refine wpl_loadB (Blk.new' (g := w.heap.size + 1) (w := (World.alloc w _)) (by simp) 25 cs1) aggCommitL hn1 rfl _ rfl rfl ?_))
  refine (szCommit_u _ x0 (1048576) _ _ (H0.out.ext ((ext_alloc _ _).alloc _)) (by omega) (by omega)).mono ?_
  rintro e w1 ⟨rfl, hx⟩
  rw [if_neg (by omega)]
  have B0 := Lib.hid (((Blk.new' (g := w.heap.size) (w := w) (by simp) 25 cs0).alloc _).ext hx)
  have B1 := Lib.hid ((Blk.new' (g := w.heap.size + 1) (w := (World.alloc w _)) (by simp) 25 cs1).ext hx)
  have XW := Lib.hid (((ext_alloc _ _).alloc _).trans hx)
  clear hx
  go_wp2_with (first | (refine wpl_loadB B0.out aggCommitL hn0 rfl _ rfl rfl ?_) | (refine wpl_loadB B1.out aggCommitL hn1 rfl _ rfl rfl ?_))
  refine (szCommit_u _ x1 (1048576 - (x0.par.length + x0.note.size : Nat)) _ _ (H1.out.ext XW.out) (by omega) (by omega)).mono ?_
  rintro e w2 ⟨rfl, hx⟩
  rw [if_neg (by omega)]
  replace B0 := Lib.hid (B0.out.ext hx)
  replace B1 := Lib.hid (B1.out.ext hx)
  replace XW := Lib.hid (XW.out.trans hx)
  clear hx
  go_wp2_with (first | (refine wpl_loadB B0.out aggCommitL hn0 rfl _ rfl rfl ?_) | (refine wpl_loadB B1.out aggCommitL hn1 rfl _ rfl rfl ?_))
  refine wp_region_held_drew (S := fun W => Ext w2 W) (by kernel_rfl) (Ext.refl _).drew (fun hHeld => ?_)
  refine wpAnyH_take (i := 0) (oi := ?oiz1) (v := (.agg cs0)) ?hiz1 (by kernel_rfl) (by kernel_rfl) (by kernel_rfl) ?hQz1 ?hyz1 (by assumption) ?restz1
  case hiz1 => simp only [List.getElem?_toArray, List.getElem?_cons_zero, List.getElem?_cons_succ]; rfl
  case hQz1 => exact fun _ _ _ h => h
  case hyz1 => refine yields_loadB B0.out aggCommitL hn0 ?_ _ rfl rfl; rfl
  try simp only [Act.put, List.setIfInBounds_toArray, List.set_cons_zero, List.set_cons_succ]
  refine wpAnyH_take (i := 2) (oi := ?oiz2) (v := (.agg cs1)) ?hiz2 (by kernel_rfl) (by kernel_rfl) (by kernel_rfl) ?hQz2 ?hyz2 (by assumption) ?restz2
  case hiz2 => simp only [List.getElem?_toArray, List.getElem?_cons_zero, List.getElem?_cons_succ]; rfl
  case hQz2 => exact fun _ _ _ h => h
  case hyz2 => refine yields_loadB B1.out aggCommitL hn1 ?_ _ rfl rfl; rfl
  try simp only [Act.put, List.setIfInBounds_toArray, List.set_cons_zero, List.set_cons_succ]
  refine wpAnyH_ready (rs := [1]) (by kernel_rfl) (by simp) (AllReadyH.cons (o := ?oy3) ?hy3 (fun K hK => ?sy3) AllReadyH.nil)
  case hy3 => simp only [List.getElem?_toArray, List.getElem?_cons_zero, List.getElem?_cons_succ]; rfl
  go_simp
  refine (toCommit_u _ x0 _ _ (H0.out.ext (XW.out.trans hHeld)) hp0).mono ?_
  rintro e w3 ⟨vs0, rfl, ho, hx⟩
  have Os0 := Lib.hid ho
  clear ho
  have hH2 := hHeld.trans hx
  refine hK.out _ _ hH2 (fun _ => ?_)
  clear hHeld hK K
  have hHeld := hH2
  clear hH2
  try simp only [Act.put, List.setIfInBounds_toArray, List.set_cons_zero, List.set_cons_succ]
  refine wpAnyH_ready (rs := [3]) (by kernel_rfl) (by simp) (AllReadyH.cons (o := ?oy4) ?hy4 (fun K hK => ?sy4) AllReadyH.nil)
  case hy4 => simp only [List.getElem?_toArray, List.getElem?_cons_zero, List.getElem?_cons_succ]; rfl
  go_simp
  refine (toCommit_u _ x1 _ _ (H1.out.ext (XW.out.trans hHeld)) hp1).mono ?_
  rintro e w4 ⟨vs1, rfl, ho, hx⟩
  have Os1 := Lib.hid ho
  clear ho
  replace Os0 := Lib.hid (Os0.out.ext hx)
  have hH2 := hHeld.trans hx
  refine hK.out _ _ hH2 (fun _ => ?_)
  clear hHeld hK K
  have hHeld := hH2
  clear hH2
  try simp only [Act.put, List.setIfInBounds_toArray, List.set_cons_zero, List.set_cons_succ]
  refine wpAnyH_ready (rs := [4]) (by kernel_rfl) (by simp) (AllReadyH.cons (o := ?oy5) ?hy5 (fun K hK => ?sy5) AllReadyH.nil)
  case hy5 => simp only [List.getElem?_toArray, List.getElem?_cons_zero, List.getElem?_cons_succ]; rfl
  go_simp
  refine (specSameCommit_u _ _ x0 x1 _ _ _ Os0.out Os1.out).mono ?_
  rintro e w5 ⟨he, hx⟩
  rw [HR.out] at he
  subst he
  clear Os0 Os1
  have hH2 := hHeld.trans hx
  refine hK.out _ _ hH2 (fun _ => ?_)
  clear hHeld hK K
  have hHeld := hH2
  clear hH2
  try simp only [Act.put, List.setIfInBounds_toArray, List.set_cons_zero, List.set_cons_succ]
  refine wpAnyH_take (i := 5) (oi := ?oiz6) (v := ?vz6) ?hiz6 (by kernel_rfl) (by kernel_rfl) (by kernel_rfl) ?hQz6 ?hyz6 (by assumption) ?restz6
  case hiz6 => simp only [List.getElem?_toArray, List.getElem?_cons_zero, List.getElem?_cons_succ]; rfl
  case hQz6 => exact fun _ _ _ h => h
  case hyz6 => exact Or.inl ⟨by rfl, by intro w hSw; go_simp; with_reducible rfl⟩
  try simp only [Act.put, List.setIfInBounds_toArray, List.set_cons_zero, List.set_cons_succ]
  refine wpAnyH_done (by kernel_rfl) ?_ _
  replace B0 := Lib.hid (B0.out.ext hHeld)
  replace B1 := Lib.hid (B1.out.ext hHeld)
  replace XW := Lib.hid (XW.out.trans hHeld)
  clear hHeld
  go_wp2_with (first | (refine wpl_loadB B0.out aggCommitL hn0 rfl _ rfl rfl ?_) | (refine wpl_loadB B1.out aggCommitL hn1 rfl _ rfl rfl ?_))
  refine (toCommit_u _ x0 _ _ (H0.out.ext XW.out) hp0).mono ?_
  rintro e w6 ⟨vx0, rfl, ho, hx⟩
  replace B0 := Lib.hid (B0.out.ext hx)
  replace B1 := Lib.hid (B1.out.ext hx)
  replace XW := Lib.hid (XW.out.trans hx)
  have Ox0 := Lib.hid ho
  clear ho
  have Znx0 := Ox0.out.st.size
  have Zsx0 := Lib.hid Ox0.out.st
  clear hx
  go_wp2_with (first | (refine wpl_storeNewB aggCommitI Zsx0.out rfl rfl _ _ rfl rfl rfl rfl ?_) | (refine wpl_loadB (Blk.new w6 31 vx0) aggCommitI Znx0 rfl _ rfl rfl ?_) | (refine wpl_loadB B0.out aggCommitL hn0 rfl _ rfl rfl ?_) | (refine wpl_loadB (B0.out.alloc _) aggCommitL hn0 rfl _ rfl rfl ?_) | (refine wpl_loadB B1.out aggCommitL hn1 rfl _ rfl rfl ?_) | (refine wpl_loadB (B1.out.alloc _) aggCommitL hn1 rfl _ rfl rfl ?_))
  refine (toCommit_u _ x1 _ _ (H1.out.ext (XW.out.alloc _)) hp1).mono ?_
  rintro e w7 ⟨vx1, rfl, ho, hx⟩
  have hE := (ext_alloc w6 (.cells vx0 31)).trans hx
  replace Ox0 := Lib.hid (Ox0.out.ext hE)
  replace B0 := Lib.hid (B0.out.ext hE)
  replace B1 := Lib.hid (B1.out.ext hE)
  replace XW := Lib.hid (XW.out.trans hE)
  clear hE
  have Vx0 := Lib.hid ((Blk.new w6 31 vx0).ext hx)
  have Ox1 := Lib.hid ho
  clear ho
  have Znx1 := Ox1.out.st.size
  have Zsx1 := Lib.hid Ox1.out.st
  clear hx
  go_wp2_with (first | (refine wpl_storeNewB aggCommitI Zsx1.out rfl rfl _ _ rfl rfl rfl rfl ?_) | (refine wpl_loadB (Blk.new w7 31 vx1) aggCommitI Znx1 rfl _ rfl rfl ?_) | (refine wpl_loadB B0.out aggCommitL hn0 rfl _ rfl rfl ?_) | (refine wpl_loadB (B0.out.alloc _) aggCommitL hn0 rfl _ rfl rfl ?_) | (refine wpl_loadB B1.out aggCommitL hn1 rfl _ rfl rfl ?_) | (refine wpl_loadB (B1.out.alloc _) aggCommitL hn1 rfl _ rfl rfl ?_) | (refine wpl_loadB Vx0.out aggCommitI Znx0 rfl _ rfl rfl ?_) | (refine wpl_loadB (Vx0.out.alloc _) aggCommitI Znx0 rfl _ rfl rfl ?_))
  refine (implSameCommit_u _ _ x0 x1 _ _ _ (Ox0.out.ext (ext_alloc _ _)) (Ox1.out.ext (ext_alloc _ _))).mono ?_
  rintro e w8 ⟨he, hx⟩
  rw [HR.out] at he
  subst he
  have hE := (ext_alloc w7 (.cells vx1 31)).trans hx
  replace Ox0 := Lib.hid (Ox0.out.ext hE)
  replace Ox1 := Lib.hid (Ox1.out.ext hE)
  replace B0 := Lib.hid (B0.out.ext hE)
  replace B1 := Lib.hid (B1.out.ext hE)
  replace Vx0 := Lib.hid (Vx0.out.ext hE)
  replace XW := Lib.hid (XW.out.trans hE)
  clear hE
  have Vx1 := Lib.hid ((Blk.new w7 31 vx1).ext hx)
  clear hx
  go_wp2_with (first | (refine wpl_loadB B0.out aggCommitL hn0 rfl _ rfl rfl ?_) | (refine wpl_loadB B1.out aggCommitL hn1 rfl _ rfl rfl ?_) | (refine wpl_loadB Vx0.out aggCommitI Znx0 rfl _ rfl rfl ?_) | (refine wpl_loadB Vx1.out aggCommitI Znx1 rfl _ rfl rfl ?_))
  refine wp_region_held_drew (S := fun W => Ext w8 W) (by kernel_rfl) (Ext.refl _).drew (fun hHeld => ?_)
  refine wpAnyH_take (i := 0) (oi := ?oiz7) (v := (.agg vx0)) ?hiz7 (by kernel_rfl) (by kernel_rfl) (by kernel_rfl) ?hQz7 ?hyz7 (by assumption) ?restz7
  case hiz7 => simp only [List.getElem?_toArray, List.getElem?_cons_zero, List.getElem?_cons_succ]; rfl
  case hQz7 => exact fun _ _ _ h => h
  case hyz7 => refine yields_loadB Vx0.out aggCommitI Znx0 ?_ _ rfl rfl; rfl
  try simp only [Act.put, List.setIfInBounds_toArray, List.set_cons_zero, List.set_cons_succ]
  refine wpAnyH_take (i := 1) (oi := ?oiz8) (v := (.agg cs0)) ?hiz8 (by kernel_rfl) (by kernel_rfl) (by kernel_rfl) ?hQz8 ?hyz8 (by assumption) ?restz8
  case hiz8 => simp only [List.getElem?_toArray, List.getElem?_cons_zero, List.getElem?_cons_succ]; rfl
  case hQz8 => exact fun _ _ _ h => h
  case hyz8 => refine yields_loadB B0.out aggCommitL hn0 ?_ _ rfl rfl; rfl
  try simp only [Act.put, List.setIfInBounds_toArray, List.set_cons_zero, List.set_cons_succ]
  refine wpAnyH_ready (rs := [2]) (by kernel_rfl) (by simp) (AllReadyH.cons (o := ?oy9) ?hy9 (fun K hK => ?sy9) AllReadyH.nil)
  case hy9 => simp only [List.getElem?_toArray, List.getElem?_cons_zero, List.getElem?_cons_succ]; rfl
  go_simp
  refine (toCommit_u _ x0 _ _ (H0.out.ext (XW.out.trans hHeld)) hp0).mono ?_
  rintro e w9 ⟨vy0, rfl, ho, hx⟩
  have hH2 := hHeld.trans hx
  refine hK.out _ _ hH2 (fun _ => ?_)
  clear hHeld hK K
  have hHeld := hH2
  clear hH2
  try simp only [Act.put, List.setIfInBounds_toArray, List.set_cons_zero, List.set_cons_succ]
  refine wpAnyH_ready (rs := [3]) (by kernel_rfl) (by simp) (AllReadyH.cons (o := ?oy10) ?hy10 (fun K hK => ?sy10) AllReadyH.nil)
  case hy10 => simp only [List.getElem?_toArray, List.getElem?_cons_zero, List.getElem?_cons_succ]; rfl
  go_simp
  refine (eqCommit_u _ _ x0 _ _ _ (Ox0.out.ext hHeld) ho).mono ?_
  rintro e w10 ⟨rfl, hx⟩
  have hH2 := hHeld.trans hx
  refine hK.out _ _ hH2 (fun _ => ?_)
  clear hHeld hK K
  have hHeld := hH2
  clear hH2
  try simp only [Act.put, List.setIfInBounds_toArray, List.set_cons_zero, List.set_cons_succ]
  refine wpAnyH_take (i := 4) (oi := ?oiz11) (v := ?vz11) ?hiz11 (by kernel_rfl) (by kernel_rfl) (by kernel_rfl) ?hQz11 ?hyz11 (by assumption) ?restz11
  case hiz11 => simp only [List.getElem?_toArray, List.getElem?_cons_zero, List.getElem?_cons_succ]; rfl
  case hQz11 => exact fun _ _ _ h => h
  case hyz11 => exact Or.inl ⟨by rfl, by intro w hSw; go_simp; with_reducible rfl⟩
  try simp only [Act.put, List.setIfInBounds_toArray, List.set_cons_zero, List.set_cons_succ]
  refine wpAnyH_done (by kernel_rfl) ?_ _
  replace Ox0 := Lib.hid (Ox0.out.ext hHeld)
  replace Ox1 := Lib.hid (Ox1.out.ext hHeld)
  replace B0 := Lib.hid (B0.out.ext hHeld)
  replace B1 := Lib.hid (B1.out.ext hHeld)
  replace Vx0 := Lib.hid (Vx0.out.ext hHeld)
  replace Vx1 := Lib.hid (Vx1.out.ext hHeld)
  replace XW := Lib.hid (XW.out.trans hHeld)
  clear hHeld
  go_wp2_with (first | (refine wpl_loadB B0.out aggCommitL hn0 rfl _ rfl rfl ?_) | (refine wpl_loadB B1.out aggCommitL hn1 rfl _ rfl rfl ?_) | (refine wpl_loadB Vx0.out aggCommitI Znx0 rfl _ rfl rfl ?_) | (refine wpl_loadB Vx1.out aggCommitI Znx1 rfl _ rfl rfl ?_))
  refine wp_region_held_drew (S := fun W => Ext w10 W) (by kernel_rfl) (Ext.refl _).drew (fun hHeld => ?_)
  refine wpAnyH_take (i := 0) (oi := ?oiz12) (v := (.agg vx1)) ?hiz12 (by kernel_rfl) (by kernel_rfl) (by kernel_rfl) ?hQz12 ?hyz12 (by assumption) ?restz12
  case hiz12 => simp only [List.getElem?_toArray, List.getElem?_cons_zero, List.getElem?_cons_succ]; rfl
  case hQz12 => exact fun _ _ _ h => h
  case hyz12 => refine yields_loadB Vx1.out aggCommitI Znx1 ?_ _ rfl rfl; rfl
  try simp only [Act.put, List.setIfInBounds_toArray, List.set_cons_zero, List.set_cons_succ]
  refine wpAnyH_take (i := 1) (oi := ?oiz13) (v := (.agg cs1)) ?hiz13 (by kernel_rfl) (by kernel_rfl) (by kernel_rfl) ?hQz13 ?hyz13 (by assumption) ?restz13
  case hiz13 => simp only [List.getElem?_toArray, List.getElem?_cons_zero, List.getElem?_cons_succ]; rfl
  case hQz13 => exact fun _ _ _ h => h
  case hyz13 => refine yields_loadB B1.out aggCommitL hn1 ?_ _ rfl rfl; rfl
  try simp only [Act.put, List.setIfInBounds_toArray, List.set_cons_zero, List.set_cons_succ]
  refine wpAnyH_ready (rs := [2]) (by kernel_rfl) (by simp) (AllReadyH.cons (o := ?oy14) ?hy14 (fun K hK => ?sy14) AllReadyH.nil)
  case hy14 => simp only [List.getElem?_toArray, List.getElem?_cons_zero, List.getElem?_cons_succ]; rfl
  go_simp
  refine (toCommit_u _ x1 _ _ (H1.out.ext (XW.out.trans hHeld)) hp1).mono ?_
  rintro e w11 ⟨vy1, rfl, ho, hx⟩
  have hH2 := hHeld.trans hx
  refine hK.out _ _ hH2 (fun _ => ?_)
  clear hHeld hK K
  have hHeld := hH2
  clear hH2
  try simp only [Act.put, List.setIfInBounds_toArray, List.set_cons_zero, List.set_cons_succ]
  refine wpAnyH_ready (rs := [3]) (by kernel_rfl) (by simp) (AllReadyH.cons (o := ?oy15) ?hy15 (fun K hK => ?sy15) AllReadyH.nil)
  case hy15 => simp only [List.getElem?_toArray, List.getElem?_cons_zero, List.getElem?_cons_succ]; rfl
  go_simp
  refine (eqCommit_u _ _ x1 _ _ _ (Ox1.out.ext hHeld) ho).mono ?_
  rintro e w12 ⟨rfl, hx⟩
  have hH2 := hHeld.trans hx
  refine hK.out _ _ hH2 (fun _ => ?_)
  clear hHeld hK K
  have hHeld := hH2
  clear hH2
  try simp only [Act.put, List.setIfInBounds_toArray, List.set_cons_zero, List.set_cons_succ]
  refine wpAnyH_take (i := 4) (oi := ?oiz16) (v := ?vz16) ?hiz16 (by kernel_rfl) (by kernel_rfl) (by kernel_rfl) ?hQz16 ?hyz16 (by assumption) ?restz16
  case hiz16 => simp only [List.getElem?_toArray, List.getElem?_cons_zero, List.getElem?_cons_succ]; rfl
  case hQz16 => exact fun _ _ _ h => h
  case hyz16 => exact Or.inl ⟨by rfl, by intro w hSw; go_simp; with_reducible rfl⟩
  try simp only [Act.put, List.setIfInBounds_toArray, List.set_cons_zero, List.set_cons_succ]
  refine wpAnyH_done (by kernel_rfl) ?_ _
  replace Ox0 := Lib.hid (Ox0.out.ext hHeld)
  replace Ox1 := Lib.hid (Ox1.out.ext hHeld)
  replace B0 := Lib.hid (B0.out.ext hHeld)
  replace B1 := Lib.hid (B1.out.ext hHeld)
  replace Vx0 := Lib.hid (Vx0.out.ext hHeld)
  replace Vx1 := Lib.hid (Vx1.out.ext hHeld)
  replace XW := Lib.hid (XW.out.trans hHeld)
  clear hHeld
  go_wp2_with (first | (refine wpl_loadB B0.out aggCommitL hn0 rfl _ rfl rfl ?_) | (refine wpl_loadB B1.out aggCommitL hn1 rfl _ rfl rfl ?_) | (refine wpl_loadB Vx0.out aggCommitI Znx0 rfl _ rfl rfl ?_) | (refine wpl_loadB Vx1.out aggCommitI Znx1 rfl _ rfl rfl ?_))
  go_ret
  exact ⟨rfl, XW.out⟩
end Go.Proofs.Ytbngjhppngohaaa
