/- The walk of the law FnExactCommitKey. No condition. -/
import Derived.Test.YtbngjhppngohaaaCommitK
namespace Go.Proofs.Ytbngjhppngohaaa
open Go.RowKit
set_option linter.unusedVariables false
set_option linter.unusedSimpArgs false

set_option maxHeartbeats 1000000 in
set_option maxRecDepth 100000 in
theorem FnExactCommitKey_any (w : World) (cs0 : Array Value) (x0 : Cm) (S0 : Nat → Prop) (h0 : RCommit w S0 cs0 x0) :
    Calls Try.prog 12 #[.agg cs0] w fun e w' => e = .returned (.bool true) ∧ Ext w w' := by
  have H0 := Lib.hid h0
  clear h0
  have hn0 := H0.out.st.size
  have Hs0 := Lib.hid H0.out.st
  by_cases hz0 : (1048576 - (x0.par.length + x0.note.size : Nat) : Int) < 0
  · go_enter Try.func12, Try.ntmps12
    go_wp2_with (first | (refine wpl_loadB (Blk.new' (g := w.heap.size) (w := w) (by simp) 25 cs0) aggCommitL hn0 rfl _ rfl rfl ?_))
    refine (szCommit_u _ x0 (1048576) _ _ (H0.out.ext (ext_alloc _ _)) (by omega) (by omega)).mono ?_
    rintro e w1 ⟨rfl, hx⟩
    rw [if_pos (by omega)]
    have B0 := Lib.hid ((Blk.new' (g := w.heap.size) (w := w) (by simp) 25 cs0).ext hx)
    have XW := Lib.hid ((ext_alloc _ _).trans hx)
    clear hx
    go_wp2_with (first | (refine wpl_loadB B0.out aggCommitL hn0 rfl _ rfl rfl ?_))
    go_ret
    exact ⟨rfl, XW.out⟩
  have hp0 : x0.par.length ≤ 1048576 := by omega
  have hK := commitKR_ok x0
  obtain ⟨R, c, hR⟩ : ∃ R c, commitKR x0 = (R, c) := ⟨_, _, rfl⟩
  rw [hR] at hK
  have HR := Lib.hid hR
  clear hR
  have hk := hK.1
  have HK := Lib.hid hK
  clear hK
  have hq : (c != c) = false := by simp
  go_enter Try.func12, Try.ntmps12
  go_wp2_with (first | (refine wpl_loadB (Blk.new' (g := w.heap.size) (w := w) (by simp) 25 cs0) aggCommitL hn0 rfl _ rfl rfl ?_))
  refine (szCommit_u _ x0 (1048576) _ _ (H0.out.ext (ext_alloc _ _)) (by omega) (by omega)).mono ?_
  rintro e w1 ⟨rfl, hx⟩
  rw [if_neg (by omega)]
  have B0 := Lib.hid ((Blk.new' (g := w.heap.size) (w := w) (by simp) 25 cs0).ext hx)
  have XW := Lib.hid ((ext_alloc _ _).trans hx)
  clear hx
  go_wp2_with (first | (refine wpl_loadB B0.out aggCommitL hn0 rfl _ rfl rfl ?_))
  refine (toCommit_u _ x0 _ _ (H0.out.ext XW.out) hp0).mono ?_
  rintro e w2 ⟨vs0, rfl, ho, hx⟩
  replace B0 := Lib.hid (B0.out.ext hx)
  replace XW := Lib.hid (XW.out.trans hx)
  have Os0 := Lib.hid ho
  clear ho
  have Zns0 := Os0.out.st.size
  have Zss0 := Lib.hid Os0.out.st
  clear hx
  go_wp2_with (first | (refine wpl_loadB B0.out aggCommitL hn0 rfl _ rfl rfl ?_))
  refine (specCommitKey_u _ x0 _ _ Os0.out).mono ?_
  rintro e w3 ⟨he, hx⟩
  rw [HR.out] at he
  subst he
  replace Os0 := Lib.hid (Os0.out.ext hx)
  replace B0 := Lib.hid (B0.out.ext hx)
  replace XW := Lib.hid (XW.out.trans hx)
  clear hx
  clear Os0
  go_wp2_with (first | (refine wpl_storeNew aggKey hk rfl rfl _ _ rfl rfl rfl rfl ?_) | (refine wpl_loadB (Blk.new w3 28 (numsA .u8 R)) aggKey (sizeN hk) rfl _ rfl rfl ?_) | (refine wpl_loadB B0.out aggCommitL hn0 rfl _ rfl rfl ?_) | (refine wpl_loadB (B0.out.alloc _) aggCommitL hn0 rfl _ rfl rfl ?_))
  refine (toCommit_u _ x0 _ _ (H0.out.ext (XW.out.alloc _)) hp0).mono ?_
  rintro e w4 ⟨vx0, rfl, ho, hx⟩
  have hE := (ext_alloc w3 (.cells (numsA .u8 R) 28)).trans hx
  replace B0 := Lib.hid (B0.out.ext hE)
  replace XW := Lib.hid (XW.out.trans hE)
  clear hE
  have BR := Lib.hid ((Blk.new w3 28 (numsA .u8 R)).ext hx)
  have Ox0 := Lib.hid ho
  clear ho
  have Znx0 := Ox0.out.st.size
  have Zsx0 := Lib.hid Ox0.out.st
  clear hx
  go_wp2_with (first | (refine wpl_storeNewB aggCommitI Zsx0.out rfl rfl _ _ rfl rfl rfl rfl ?_) | (refine wpl_loadB (Blk.new w4 31 vx0) aggCommitI Znx0 rfl _ rfl rfl ?_) | (refine wpl_loadB B0.out aggCommitL hn0 rfl _ rfl rfl ?_) | (refine wpl_loadB (B0.out.alloc _) aggCommitL hn0 rfl _ rfl rfl ?_) | (refine wpl_loadB BR.out aggKey (sizeN hk) rfl _ rfl rfl ?_) | (refine wpl_loadB (BR.out.alloc _) aggKey (sizeN hk) rfl _ rfl rfl ?_))
  refine (implCommitKey_u _ x0 _ _ (Ox0.out.ext (ext_alloc _ _))).mono ?_
  rintro e w5 ⟨he, hx⟩
  rw [HR.out] at he
  subst he
  have hE := (ext_alloc w4 (.cells vx0 31)).trans hx
  replace Ox0 := Lib.hid (Ox0.out.ext hE)
  replace B0 := Lib.hid (B0.out.ext hE)
  replace BR := Lib.hid (BR.out.ext hE)
  replace XW := Lib.hid (XW.out.trans hE)
  clear hE
  have Vx0 := Lib.hid ((Blk.new w4 31 vx0).ext hx)
  clear hx
  go_wp2_with (first | (refine wpl_storeNew aggKey hk rfl rfl _ _ rfl rfl rfl rfl ?_) | (refine wpl_loadB (Blk.new w5 28 (numsA .u8 R)) aggKey (sizeN hk) rfl _ rfl rfl ?_) | (refine wpl_loadB B0.out aggCommitL hn0 rfl _ rfl rfl ?_) | (refine wpl_loadB (B0.out.alloc _) aggCommitL hn0 rfl _ rfl rfl ?_) | (refine wpl_loadB BR.out aggKey (sizeN hk) rfl _ rfl rfl ?_) | (refine wpl_loadB (BR.out.alloc _) aggKey (sizeN hk) rfl _ rfl rfl ?_) | (refine wpl_loadB Vx0.out aggCommitI Znx0 rfl _ rfl rfl ?_) | (refine wpl_loadB (Vx0.out.alloc _) aggCommitI Znx0 rfl _ rfl rfl ?_))
  refine (eqKey_any _ _ HK.out HK.out _).mono ?_
  rintro e w6 ⟨rfl, hx⟩
  rw [beq_self_eq_true]
  have hE := (ext_alloc w5 (.cells (numsA .u8 R) 28)).trans hx
  replace Ox0 := Lib.hid (Ox0.out.ext hE)
  replace B0 := Lib.hid (B0.out.ext hE)
  replace BR := Lib.hid (BR.out.ext hE)
  replace Vx0 := Lib.hid (Vx0.out.ext hE)
  replace XW := Lib.hid (XW.out.trans hE)
  clear hE
  have BG := Lib.hid ((Blk.new w5 28 (numsA .u8 R)).ext hx)
  clear hx
  clear BR
  clear BG
  go_wp2_with (first | (refine wpl_loadB B0.out aggCommitL hn0 rfl _ rfl rfl ?_) | (refine wpl_loadB Vx0.out aggCommitI Znx0 rfl _ rfl rfl ?_))
  refine wp_region_held_drew (S := fun W => Ext w6 W) (by kernel_rfl) (Ext.refl _).drew (fun hHeld => ?_)
  refine wpAnyH_take (i := 0) (oi := ?oiz1) (v := (.agg vx0)) ?hiz1 (by kernel_rfl) (by kernel_rfl) (by kernel_rfl) ?hQz1 ?hyz1 (by assumption) ?restz1
  case hiz1 => simp only [List.getElem?_toArray, List.getElem?_cons_zero, List.getElem?_cons_succ]; rfl
  case hQz1 => exact fun _ _ _ h => h
  case hyz1 => refine yields_loadB Vx0.out aggCommitI Znx0 ?_ _ rfl rfl; rfl
  try simp only [Act.put, List.setIfInBounds_toArray, List.set_cons_zero, List.set_cons_succ]
  refine wpAnyH_take (i := 1) (oi := ?oiz2) (v := (.agg cs0)) ?hiz2 (by kernel_rfl) (by kernel_rfl) (by kernel_rfl) ?hQz2 ?hyz2 (by assumption) ?restz2
  case hiz2 => simp only [List.getElem?_toArray, List.getElem?_cons_zero, List.getElem?_cons_succ]; rfl
  case hQz2 => exact fun _ _ _ h => h
  case hyz2 => refine yields_loadB B0.out aggCommitL hn0 ?_ _ rfl rfl; rfl
  try simp only [Act.put, List.setIfInBounds_toArray, List.set_cons_zero, List.set_cons_succ]
  refine wpAnyH_ready (rs := [2]) (by kernel_rfl) (by simp) (AllReadyH.cons (o := ?oy3) ?hy3 (fun K hK => ?sy3) AllReadyH.nil)
  case hy3 => simp only [List.getElem?_toArray, List.getElem?_cons_zero, List.getElem?_cons_succ]; rfl
  go_simp
  refine (toCommit_u _ x0 _ _ (H0.out.ext (XW.out.trans hHeld)) hp0).mono ?_
  rintro e w7 ⟨vy0, rfl, ho, hx⟩
  have hH2 := hHeld.trans hx
  refine hK.out _ _ hH2 (fun _ => ?_)
  clear hHeld hK K
  have hHeld := hH2
  clear hH2
  try simp only [Act.put, List.setIfInBounds_toArray, List.set_cons_zero, List.set_cons_succ]
  refine wpAnyH_ready (rs := [3]) (by kernel_rfl) (by simp) (AllReadyH.cons (o := ?oy4) ?hy4 (fun K hK => ?sy4) AllReadyH.nil)
  case hy4 => simp only [List.getElem?_toArray, List.getElem?_cons_zero, List.getElem?_cons_succ]; rfl
  go_simp
  refine (eqCommit_u _ _ x0 _ _ _ (Ox0.out.ext hHeld) ho).mono ?_
  rintro e w8 ⟨rfl, hx⟩
  have hH2 := hHeld.trans hx
  refine hK.out _ _ hH2 (fun _ => ?_)
  clear hHeld hK K
  have hHeld := hH2
  clear hH2
  try simp only [Act.put, List.setIfInBounds_toArray, List.set_cons_zero, List.set_cons_succ]
  refine wpAnyH_take (i := 4) (oi := ?oiz5) (v := ?vz5) ?hiz5 (by kernel_rfl) (by kernel_rfl) (by kernel_rfl) ?hQz5 ?hyz5 (by assumption) ?restz5
  case hiz5 => simp only [List.getElem?_toArray, List.getElem?_cons_zero, List.getElem?_cons_succ]; rfl
  case hQz5 => exact fun _ _ _ h => h
  case hyz5 => exact Or.inl ⟨by rfl, by intro w hSw; go_simp; with_reducible rfl⟩
  try simp only [Act.put, List.setIfInBounds_toArray, List.set_cons_zero, List.set_cons_succ]
  refine wpAnyH_done (by kernel_rfl) ?_ _
  replace Ox0 := Lib.hid (Ox0.out.ext hHeld)
  replace B0 := Lib.hid (B0.out.ext hHeld)
  replace Vx0 := Lib.hid (Vx0.out.ext hHeld)
  replace XW := Lib.hid (XW.out.trans hHeld)
  clear hHeld
  go_wp2_with (first | (refine wpl_loadB B0.out aggCommitL hn0 rfl _ rfl rfl ?_) | (refine wpl_loadB Vx0.out aggCommitI Znx0 rfl _ rfl rfl ?_))
  go_ret
  exact ⟨rfl, XW.out⟩
end Go.Proofs.Ytbngjhppngohaaa
