/- The walk of the law FnExactPutEntry. No condition. -/
import Derived.Test.YtbippohfinbngaaPutI
import Derived.Test.YtbippohfinbngaaMarkE
import Derived.Test.YtbippohfinbngaaEntU
import Derived.Test.YtbippohfinbngaaMarkK
namespace Go.Proofs.Ytbippohfinbngaa
open Go.RowKit
set_option linter.unusedVariables false
set_option linter.unusedSimpArgs false

set_option maxHeartbeats 1000000 in
set_option maxRecDepth 100000 in
theorem FnExactPutEntry_any (w : World) (v0 : Value) (x0 : List En) (S0 : Nat → Prop) (h0 : RdL tEnt w S0 v0 x0) (x1 : En) (he1 : tEnt.ok x1) :
    Calls Try.prog 7 #[v0, .agg #[.string x1.1, .string x1.2]] w fun e w' => e = .returned (.bool true) ∧ Ext w w' := by
  obtain ⟨A0, cap0, rfl, _, hlen0, _⟩ := id h0
  have H0 := Lib.hid h0
  clear h0
  have hn1 : (#[.string x1.1, .string x1.2] : Array Value).size = 2 := rfl
  by_cases hz0 : (1048576 - (entsN x0 : Nat) : Int) < 0
  · go_enter Try.func7, Try.ntmps7
    go_wp2_with (first | (refine wpl_loadB (Blk.new' (g := w.heap.size) (w := w) (by simp) 63 #[.string x1.1, .string x1.2]) aggEntryL hn1 rfl _ rfl rfl ?_))
    refine (szEntryS_u _ x0 (1048576) _ _ (H0.out.ext (by decide) (ext_alloc _ _)) (by omega) (by omega)).mono ?_
    rintro e w1 ⟨rfl, hx⟩
    rw [if_pos (by omega)]
    have B1 := Lib.hid ((Blk.new' (g := w.heap.size) (w := w) (by simp) 63 #[.string x1.1, .string x1.2]).ext hx)
    have XW := Lib.hid ((ext_alloc _ _).trans hx)
    clear hx
    go_wp2_with (first | (refine wpl_loadB B1.out aggEntryL hn1 rfl _ rfl rfl ?_))
    go_ret
    exact ⟨rfl, XW.out⟩
  by_cases hz1 : (1048576 - (entsN x0 : Nat) - (x1.1.size + x1.2.size : Nat) : Int) < 0
  · go_enter Try.func7, Try.ntmps7
    go_wp2_with (first | (refine wpl_loadB (Blk.new' (g := w.heap.size) (w := w) (by simp) 63 #[.string x1.1, .string x1.2]) aggEntryL hn1 rfl _ rfl rfl ?_))
    refine (szEntryS_u _ x0 (1048576) _ _ (H0.out.ext (by decide) (ext_alloc _ _)) (by omega) (by omega)).mono ?_
    rintro e w1 ⟨rfl, hx⟩
    rw [if_neg (by omega)]
    have B1 := Lib.hid ((Blk.new' (g := w.heap.size) (w := w) (by simp) 63 #[.string x1.1, .string x1.2]).ext hx)
    have XW := Lib.hid ((ext_alloc _ _).trans hx)
    clear hx
    go_wp2_with (first | (refine wpl_loadB B1.out aggEntryL hn1 rfl _ rfl rfl ?_))
    refine (szEntry_u x1 he1 (1048576 - (entsN x0 : Nat)) _ (by omega) (by omega)).mono ?_
    rintro e w2 ⟨rfl, hx⟩
    rw [if_pos (by omega)]
    replace B1 := Lib.hid (B1.out.ext hx)
    replace XW := Lib.hid (XW.out.trans hx)
    clear hx
    go_wp2_with (first | (refine wpl_loadB B1.out aggEntryL hn1 rfl _ rfl rfl ?_))
    go_ret
    exact ⟨rfl, XW.out⟩
  have hln0 : x0.length ≤ 1048576 := by have := entsN_eq x0; omega
  obtain ⟨R, c, hR⟩ : ∃ R c, putR x0 x1 = (R, c) := ⟨_, _, rfl⟩
  have HR1 := Lib.hid (congrArg Prod.fst hR)
  have HR2 := Lib.hid (congrArg Prod.snd hR)
  clear hR
  have hq : (c != c) = false := by simp
  go_enter Try.func7, Try.ntmps7
  go_wp2_with (first | (refine wpl_loadB (Blk.new' (g := w.heap.size) (w := w) (by simp) 63 #[.string x1.1, .string x1.2]) aggEntryL hn1 rfl _ rfl rfl ?_))
  refine (szEntryS_u _ x0 (1048576) _ _ (H0.out.ext (by decide) (ext_alloc _ _)) (by omega) (by omega)).mono ?_
  rintro e w1 ⟨rfl, hx⟩
  rw [if_neg (by omega)]
  have B1 := Lib.hid ((Blk.new' (g := w.heap.size) (w := w) (by simp) 63 #[.string x1.1, .string x1.2]).ext hx)
  have XW := Lib.hid ((ext_alloc _ _).trans hx)
  clear hx
  go_wp2_with (first | (refine wpl_loadB B1.out aggEntryL hn1 rfl _ rfl rfl ?_))
  refine (szEntry_u x1 he1 (1048576 - (entsN x0 : Nat)) _ (by omega) (by omega)).mono ?_
  rintro e w2 ⟨rfl, hx⟩
  rw [if_neg (by omega)]
  replace B1 := Lib.hid (B1.out.ext hx)
  replace XW := Lib.hid (XW.out.trans hx)
  clear hx
  go_wp2_with (first | (refine wpl_loadB B1.out aggEntryL hn1 rfl _ rfl rfl ?_))
  refine wp_region_held_drew (S := fun W => Ext w2 W) (by kernel_rfl) (Ext.refl _).drew (fun hHeld => ?_)
  refine wpAnyH_take (i := 0) (oi := ?oiz1) (v := ?vz1) ?hiz1 (by kernel_rfl) (by kernel_rfl) (by kernel_rfl) ?hQz1 ?hyz1 (by assumption) ?restz1
  case hiz1 => simp only [List.getElem?_toArray, List.getElem?_cons_zero, List.getElem?_cons_succ]; rfl
  case hQz1 => exact fun _ _ _ h => h
  case hyz1 => exact Or.inl ⟨by rfl, by intro w hSw; (try dsimp only at hSw); go_simp; with_reducible rfl⟩
  try simp only [Act.put, List.setIfInBounds_toArray, List.set_cons_zero, List.set_cons_succ]
  refine wpAnyH_take (i := 2) (oi := ?oiz2) (v := (.agg #[.string x1.1, .string x1.2])) ?hiz2 (by kernel_rfl) (by kernel_rfl) (by kernel_rfl) ?hQz2 ?hyz2 (by assumption) ?restz2
  case hiz2 => simp only [List.getElem?_toArray, List.getElem?_cons_zero, List.getElem?_cons_succ]; rfl
  case hQz2 => exact fun _ _ _ h => h
  case hyz2 => refine yields_loadB B1.out aggEntryL hn1 ?_ _ rfl rfl; rfl
  try simp only [Act.put, List.setIfInBounds_toArray, List.set_cons_zero, List.set_cons_succ]
  refine wpAnyH_ready (rs := [1]) (by kernel_rfl) (by simp) (AllReadyH.cons (o := ?oy31) ?hy31 (fun K hK => ?sy31) AllReadyH.nil)
  case hy31 => simp only [List.getElem?_toArray, List.getElem?_cons_zero, List.getElem?_cons_succ]; rfl
  go_simp
  refine (toEntryS_u _ x0 _ _ (H0.out.ext (by decide) (XW.out.trans hHeld)) hln0).mono ?_
  rintro e w3 ⟨vs0, rfl, ho, hx⟩
  replace ho := ho.le (base' := w.heap.size) (XW.out.trans hHeld).size
  obtain ⟨As0, qs0, rfl⟩ := ho.shape
  have Os0 := Lib.hid ho
  clear ho
  have hH2 := hHeld.trans hx
  refine hK.out _ _ hH2 (fun _ => ?_)
  clear hHeld hK K
  have hHeld := hH2
  clear hH2
  try simp only [Act.put, List.setIfInBounds_toArray, List.set_cons_zero, List.set_cons_succ]
  refine wpAnyH_ready (rs := [3]) (by kernel_rfl) (by simp) (AllReadyH.cons (o := ?oy43) ?hy43 (fun K hK => ?sy43) AllReadyH.nil)
  case hy43 => simp only [List.getElem?_toArray, List.getElem?_cons_zero, List.getElem?_cons_succ]; rfl
  go_simp
  refine (toEntry_any x1.1 x1.2 _).mono ?_
  rintro e w4 ⟨rfl, hx⟩
  replace Os0 := Lib.hid (Os0.out.ext hx)
  have hH2 := hHeld.trans hx
  refine hK.out _ _ hH2 (fun _ => ?_)
  clear hHeld hK K
  have hHeld := hH2
  clear hH2
  try simp only [Act.put, List.setIfInBounds_toArray, List.set_cons_zero, List.set_cons_succ]
  refine wpAnyH_ready (rs := [4]) (by kernel_rfl) (by simp) (AllReadyH.cons (o := ?oy54) ?hy54 (fun K hK => ?sy54) AllReadyH.nil)
  case hy54 => simp only [List.getElem?_toArray, List.getElem?_cons_zero, List.getElem?_cons_succ]; rfl
  go_simp
  refine (specPutEntry_any _ x0 x1 he1 _ _ Os0.out.rd).mono ?_
  rintro e w5 ⟨vW, he, ho, hx⟩
  rw [HR2.out] at he
  subst he
  rw [HR1.out] at ho
  have BB1_OW := Lib.hid (ho.far_of_lt (Nat.lt_of_lt_of_le B1.out.lt hHeld.size))
  replace ho := ho.le (base' := w.heap.size) (XW.out.trans hHeld).size
  obtain ⟨AW, qW, rfl⟩ := ho.shape
  have OW := Lib.hid ho
  clear ho Os0
  have hH2 := hHeld.trans hx
  refine hK.out _ _ hH2 (fun _ => ?_)
  clear hHeld hK K
  have hHeld := hH2
  clear hH2
  try simp only [Act.put, List.setIfInBounds_toArray, List.set_cons_zero, List.set_cons_succ]
  refine wpAnyH_take (i := 5) (oi := ?oiz6) (v := ?vz6) ?hiz6 (by kernel_rfl) (by kernel_rfl) (by kernel_rfl) ?hQz6 ?hyz6 (by assumption) ?restz6
  case hiz6 => simp only [List.getElem?_toArray, List.getElem?_cons_zero, List.getElem?_cons_succ]; rfl
  case hQz6 => exact fun _ _ _ h => h
  case hyz6 => exact Or.inl ⟨by rfl, by intro w hSw; (try dsimp only at hSw); go_simp; with_reducible rfl⟩
  try simp only [Act.put, List.setIfInBounds_toArray, List.set_cons_zero, List.set_cons_succ]
  refine wpAnyH_take (i := 6) (oi := ?oiz7) (v := ?vz7) ?hiz7 (by kernel_rfl) (by kernel_rfl) (by kernel_rfl) ?hQz7 ?hyz7 (by assumption) ?restz7
  case hiz7 => simp only [List.getElem?_toArray, List.getElem?_cons_zero, List.getElem?_cons_succ]; rfl
  case hQz7 => exact fun _ _ _ h => h
  case hyz7 => exact Or.inl ⟨by rfl, by intro w hSw; (try dsimp only at hSw); go_simp; with_reducible rfl⟩
  try simp only [Act.put, List.setIfInBounds_toArray, List.set_cons_zero, List.set_cons_succ]
  refine wpAnyH_take (i := 7) (oi := ?oiz8) (v := ?vz8) ?hiz8 (by kernel_rfl) (by kernel_rfl) (by kernel_rfl) ?hQz8 ?hyz8 (by assumption) ?restz8
  case hiz8 => simp only [List.getElem?_toArray, List.getElem?_cons_zero, List.getElem?_cons_succ]; rfl
  case hQz8 => exact fun _ _ _ h => h
  case hyz8 => exact Or.inl ⟨by rfl, by intro w hSw; (try dsimp only at hSw); go_simp; with_reducible rfl⟩
  try simp only [Act.put, List.setIfInBounds_toArray, List.set_cons_zero, List.set_cons_succ]
  refine wpAnyH_take (i := 8) (oi := ?oiz9) (v := ?vz9) ?hiz9 (by kernel_rfl) (by kernel_rfl) (by kernel_rfl) ?hQz9 ?hyz9 (by assumption) ?restz9
  case hiz9 => simp only [List.getElem?_toArray, List.getElem?_cons_zero, List.getElem?_cons_succ]; rfl
  case hQz9 => exact fun _ _ _ h => h
  case hyz9 => exact Or.inl ⟨by rfl, by intro w hSw; (try dsimp only at hSw); go_simp; with_reducible rfl⟩
  try simp only [Act.put, List.setIfInBounds_toArray, List.set_cons_zero, List.set_cons_succ]
  refine wpAnyH_take (i := 9) (oi := ?oiz10) (v := ?vz10) ?hiz10 (by kernel_rfl) (by kernel_rfl) (by kernel_rfl) ?hQz10 ?hyz10 (by assumption) ?restz10
  case hiz10 => simp only [List.getElem?_toArray, List.getElem?_cons_zero, List.getElem?_cons_succ]; rfl
  case hQz10 => exact fun _ _ _ h => h
  case hyz10 => exact Or.inl ⟨by rfl, by intro w hSw; (try dsimp only at hSw); go_simp; with_reducible rfl⟩
  try simp only [Act.put, List.setIfInBounds_toArray, List.set_cons_zero, List.set_cons_succ]
  refine wpAnyH_done (by kernel_rfl) ?_ _
  replace B1 := Lib.hid (B1.out.ext hHeld)
  replace XW := Lib.hid (XW.out.trans hHeld)
  clear hHeld
  go_wp2_with (first | (refine wpl_loadB B1.out aggEntryL hn1 rfl _ rfl rfl ?_))
  refine (toEntryS_u _ x0 _ _ (H0.out.ext (by decide) XW.out) hln0).mono ?_
  rintro e w6 ⟨vx0, rfl, ho, hx⟩
  have NOW_Ox0 := Lib.hid (OW.out.apart ho (by first | exact Nat.le_refl _ | simp))
  have NOx0_OW := Lib.hid (OW.out.apart' ho (by first | exact Nat.le_refl _ | simp))
  have BB1_Ox0 := Lib.hid (ho.far_of_lt (Nat.lt_of_lt_of_le B1.out.lt (by first | exact Nat.le_refl _ | simp)))
  replace ho := ho.le (base' := w.heap.size) XW.out.size
  replace OW := Lib.hid (OW.out.ext hx)
  replace B1 := Lib.hid (B1.out.ext hx)
  replace XW := Lib.hid (XW.out.trans hx)
  obtain ⟨Ax0, qx0, rfl⟩ := ho.shape
  have Ox0 := Lib.hid ho
  clear ho
  clear hx
  go_wp2_with (first | (refine wpl_loadB B1.out aggEntryL hn1 rfl _ rfl rfl ?_))
  refine (toEntry_any x1.1 x1.2 _).mono ?_
  rintro e w7 ⟨rfl, hx⟩
  replace OW := Lib.hid (OW.out.ext hx)
  replace Ox0 := Lib.hid (Ox0.out.ext hx)
  replace B1 := Lib.hid (B1.out.ext hx)
  replace XW := Lib.hid (XW.out.trans hx)
  clear hx
  go_wp2_with (first | (refine wpl_loadB B1.out aggEntryL hn1 rfl _ rfl rfl ?_))
  refine (implPutEntry_any _ x0 x1 he1 _ _ Ox0.out.rd).mono ?_
  rintro e w8 ⟨vG, he, ho, hx⟩
  rw [HR2.out] at he
  subst he
  rw [HR1.out] at ho
  have NOW_OG := Lib.hid (OW.out.apart ho (by first | exact Nat.le_refl _ | simp))
  have NOG_OW := Lib.hid (OW.out.apart' ho (by first | exact Nat.le_refl _ | simp))
  have NOx0_OG := Lib.hid (Ox0.out.apart ho (by first | exact Nat.le_refl _ | simp))
  have NOG_Ox0 := Lib.hid (Ox0.out.apart' ho (by first | exact Nat.le_refl _ | simp))
  have BB1_OG := Lib.hid (ho.far_of_lt (Nat.lt_of_lt_of_le B1.out.lt (by first | exact Nat.le_refl _ | simp)))
  replace ho := ho.le (base' := w.heap.size) XW.out.size
  replace OW := Lib.hid (OW.out.ext hx)
  replace Ox0 := Lib.hid (Ox0.out.ext hx)
  replace B1 := Lib.hid (B1.out.ext hx)
  replace XW := Lib.hid (XW.out.trans hx)
  obtain ⟨AG, qG, rfl⟩ := ho.shape
  have OG := Lib.hid ho
  clear ho
  clear hx
  go_wp2_with (first | (refine wpl_loadB B1.out aggEntryL hn1 rfl _ rfl rfl ?_))
  refine (eqEntryS_u _ _ R _ _ _ OG.out.rd OW.out.rd).mono ?_
  rintro e w9 ⟨rfl, hx⟩
  replace OW := Lib.hid (OW.out.ext hx)
  replace Ox0 := Lib.hid (Ox0.out.ext hx)
  replace OG := Lib.hid (OG.out.ext hx)
  replace B1 := Lib.hid (B1.out.ext hx)
  replace XW := Lib.hid (XW.out.trans hx)
  clear hx
  go_wp2_with (first | (refine wpl_loadB B1.out aggEntryL hn1 rfl _ rfl rfl ?_))
  refine (toEntryS_u _ x0 _ _ (H0.out.ext (by decide) XW.out) hln0).mono ?_
  rintro e w10 ⟨vy0, rfl, ho, hx⟩
  have NOW_Oy0 := Lib.hid (OW.out.apart ho (by first | exact Nat.le_refl _ | simp))
  have NOy0_OW := Lib.hid (OW.out.apart' ho (by first | exact Nat.le_refl _ | simp))
  have NOx0_Oy0 := Lib.hid (Ox0.out.apart ho (by first | exact Nat.le_refl _ | simp))
  have NOy0_Ox0 := Lib.hid (Ox0.out.apart' ho (by first | exact Nat.le_refl _ | simp))
  have NOG_Oy0 := Lib.hid (OG.out.apart ho (by first | exact Nat.le_refl _ | simp))
  have NOy0_OG := Lib.hid (OG.out.apart' ho (by first | exact Nat.le_refl _ | simp))
  have BB1_Oy0 := Lib.hid (ho.far_of_lt (Nat.lt_of_lt_of_le B1.out.lt (by first | exact Nat.le_refl _ | simp)))
  replace ho := ho.le (base' := w.heap.size) XW.out.size
  replace OW := Lib.hid (OW.out.ext hx)
  replace Ox0 := Lib.hid (Ox0.out.ext hx)
  replace OG := Lib.hid (OG.out.ext hx)
  replace B1 := Lib.hid (B1.out.ext hx)
  replace XW := Lib.hid (XW.out.trans hx)
  obtain ⟨Ay0, qy0, rfl⟩ := ho.shape
  have Oy0 := Lib.hid ho
  clear ho
  clear hx
  go_wp2_with (first | (refine wpl_loadB B1.out aggEntryL hn1 rfl _ rfl rfl ?_))
  refine (eqEntryS_u _ _ x0 _ _ _ Ox0.out.rd Oy0.out.rd).mono ?_
  rintro e w11 ⟨rfl, hx⟩
  replace OW := Lib.hid (OW.out.ext hx)
  replace Ox0 := Lib.hid (Ox0.out.ext hx)
  replace OG := Lib.hid (OG.out.ext hx)
  replace Oy0 := Lib.hid (Oy0.out.ext hx)
  replace B1 := Lib.hid (B1.out.ext hx)
  replace XW := Lib.hid (XW.out.trans hx)
  clear hx
  clear Oy0
  go_wp2_with (first | (refine wpl_loadB B1.out aggEntryL hn1 rfl _ rfl rfl ?_))
  refine (markEntryS_any _ _ (1) _ _ Ox0.out.wr (by omega) (by omega)).mono ?_
  rintro e w12 ⟨rfl, hr, hg⟩
  replace XW := Lib.hid (XW.out.grown hg (fun k hk => (Ox0.out.base_le k hk).1))
  replace OW := Lib.hid (OW.out.kept hg NOW_Ox0.out)
  replace OG := Lib.hid (OG.out.kept hg NOG_Ox0.out)
  replace B1 := Lib.hid (B1.out.grown hg BB1_Ox0.out)
  clear Ox0 hg
  clear hr
  go_wp2_with (first | (refine wpl_loadB B1.out aggEntryL hn1 rfl _ rfl rfl ?_))
  refine (eqEntryS_u _ _ R _ _ _ OG.out.rd OW.out.rd).mono ?_
  rintro e w13 ⟨rfl, hx⟩
  replace OW := Lib.hid (OW.out.ext hx)
  replace OG := Lib.hid (OG.out.ext hx)
  replace B1 := Lib.hid (B1.out.ext hx)
  replace XW := Lib.hid (XW.out.trans hx)
  clear hx
  have hRl := OG.out.2.1
  go_wp2_with (first | (refine wpl_loadB B1.out aggEntryL hn1 rfl _ rfl rfl ?_))
  refine (markEntryS_any _ _ 1 _ _ OG.out.wr (by omega) (by omega)).mono ?_
  rintro e w14 ⟨rfl, hr, hg⟩
  replace XW := Lib.hid (XW.out.grown hg (fun k hk => (OG.out.base_le k hk).1))
  replace OW := Lib.hid (OW.out.kept hg NOW_OG.out)
  replace B1 := Lib.hid (B1.out.grown hg BB1_OG.out)
  clear OG hg
  have M := Lib.hid hr
  clear hr
  go_wp2_with (first | (refine wpl_loadB B1.out aggEntryL hn1 rfl _ rfl rfl ?_))
  refine (heldEntryS_any _ _ 1 _ _ M.out (by omega) (by omega)).mono ?_
  rintro e w15 ⟨rfl, hx⟩
  replace OW := Lib.hid (OW.out.ext hx)
  replace M := Lib.hid (M.out.ext hx)
  replace B1 := Lib.hid (B1.out.ext hx)
  replace XW := Lib.hid (XW.out.trans hx)
  clear hx
  have hqm : ((1 + (R.length : Int) * 2) != 1 + (R.length : Int) * 2) = false := by simp
  go_wp2_with (first | (refine wpl_loadB B1.out aggEntryL hn1 rfl _ rfl rfl ?_))
  refine wp_region_held_drew (S := fun W => Ext w15 W) (by kernel_rfl) (Ext.refl _).drew (fun hHeld => ?_)
  refine wpAnyH_take (i := 0) (oi := ?oiz11) (v := ?vz11) ?hiz11 (by kernel_rfl) (by kernel_rfl) (by kernel_rfl) ?hQz11 ?hyz11 (by assumption) ?restz11
  case hiz11 => simp only [List.getElem?_toArray, List.getElem?_cons_zero, List.getElem?_cons_succ]; rfl
  case hQz11 => exact fun _ _ _ h => h
  case hyz11 => exact Or.inl ⟨by rfl, by intro w hSw; (try dsimp only at hSw); go_simp; with_reducible rfl⟩
  try simp only [Act.put, List.setIfInBounds_toArray, List.set_cons_zero, List.set_cons_succ]
  refine wpAnyH_take (i := 2) (oi := ?oiz12) (v := (.agg #[.string x1.1, .string x1.2])) ?hiz12 (by kernel_rfl) (by kernel_rfl) (by kernel_rfl) ?hQz12 ?hyz12 (by assumption) ?restz12
  case hiz12 => simp only [List.getElem?_toArray, List.getElem?_cons_zero, List.getElem?_cons_succ]; rfl
  case hQz12 => exact fun _ _ _ h => h
  case hyz12 => refine yields_loadB B1.out aggEntryL hn1 ?_ _ rfl rfl; rfl
  try simp only [Act.put, List.setIfInBounds_toArray, List.set_cons_zero, List.set_cons_succ]
  refine wpAnyH_ready (rs := [1]) (by kernel_rfl) (by simp) (AllReadyH.cons (o := ?oy131) ?hy131 (fun K hK => ?sy131) AllReadyH.nil)
  case hy131 => simp only [List.getElem?_toArray, List.getElem?_cons_zero, List.getElem?_cons_succ]; rfl
  go_simp
  refine (toEntryS_u _ x0 _ _ (H0.out.ext (by decide) (XW.out.trans hHeld)) hln0).mono ?_
  rintro e w16 ⟨vz0, rfl, ho, hx⟩
  replace ho := ho.le (base' := w.heap.size) (XW.out.trans hHeld).size
  obtain ⟨Az0, qz0, rfl⟩ := ho.shape
  have Oz0 := Lib.hid ho
  clear ho
  have hH2 := hHeld.trans hx
  refine hK.out _ _ hH2 (fun _ => ?_)
  clear hHeld hK K
  have hHeld := hH2
  clear hH2
  try simp only [Act.put, List.setIfInBounds_toArray, List.set_cons_zero, List.set_cons_succ]
  refine wpAnyH_ready (rs := [3]) (by kernel_rfl) (by simp) (AllReadyH.cons (o := ?oy143) ?hy143 (fun K hK => ?sy143) AllReadyH.nil)
  case hy143 => simp only [List.getElem?_toArray, List.getElem?_cons_zero, List.getElem?_cons_succ]; rfl
  go_simp
  refine (toEntry_any x1.1 x1.2 _).mono ?_
  rintro e w17 ⟨rfl, hx⟩
  replace Oz0 := Lib.hid (Oz0.out.ext hx)
  have hH2 := hHeld.trans hx
  refine hK.out _ _ hH2 (fun _ => ?_)
  clear hHeld hK K
  have hHeld := hH2
  clear hH2
  try simp only [Act.put, List.setIfInBounds_toArray, List.set_cons_zero, List.set_cons_succ]
  refine wpAnyH_ready (rs := [4]) (by kernel_rfl) (by simp) (AllReadyH.cons (o := ?oy154) ?hy154 (fun K hK => ?sy154) AllReadyH.nil)
  case hy154 => simp only [List.getElem?_toArray, List.getElem?_cons_zero, List.getElem?_cons_succ]; rfl
  go_simp
  refine (implPutEntry_any _ x0 x1 he1 _ _ Oz0.out.rd).mono ?_
  rintro e w18 ⟨vH, he, ho, hx⟩
  rw [HR2.out] at he
  subst he
  rw [HR1.out] at ho
  have NOW_OH := Lib.hid (OW.out.apart ho (by first | exact hHeld.size | exact Nat.le_refl _ | simp))
  have NOH_OW := Lib.hid (OW.out.apart' ho (by first | exact hHeld.size | exact Nat.le_refl _ | simp))
  have BB1_OH := Lib.hid (ho.far_of_lt (Nat.lt_of_lt_of_le B1.out.lt hHeld.size))
  replace ho := ho.le (base' := w.heap.size) (XW.out.trans hHeld).size
  obtain ⟨AH, qH, rfl⟩ := ho.shape
  have OH := Lib.hid ho
  clear ho Oz0
  have hH2 := hHeld.trans hx
  refine hK.out _ _ hH2 (fun _ => ?_)
  clear hHeld hK K
  have hHeld := hH2
  clear hH2
  try simp only [Act.put, List.setIfInBounds_toArray, List.set_cons_zero, List.set_cons_succ]
  refine wpAnyH_take (i := 5) (oi := ?oiz16) (v := ?vz16) ?hiz16 (by kernel_rfl) (by kernel_rfl) (by kernel_rfl) ?hQz16 ?hyz16 (by assumption) ?restz16
  case hiz16 => simp only [List.getElem?_toArray, List.getElem?_cons_zero, List.getElem?_cons_succ]; rfl
  case hQz16 => exact fun _ _ _ h => h
  case hyz16 => exact Or.inl ⟨by rfl, by intro w hSw; (try dsimp only at hSw); go_simp; with_reducible rfl⟩
  try simp only [Act.put, List.setIfInBounds_toArray, List.set_cons_zero, List.set_cons_succ]
  refine wpAnyH_take (i := 6) (oi := ?oiz17) (v := ?vz17) ?hiz17 (by kernel_rfl) (by kernel_rfl) (by kernel_rfl) ?hQz17 ?hyz17 (by assumption) ?restz17
  case hiz17 => simp only [List.getElem?_toArray, List.getElem?_cons_zero, List.getElem?_cons_succ]; rfl
  case hQz17 => exact fun _ _ _ h => h
  case hyz17 => exact Or.inl ⟨by rfl, by intro w hSw; (try dsimp only at hSw); go_simp; with_reducible rfl⟩
  try simp only [Act.put, List.setIfInBounds_toArray, List.set_cons_zero, List.set_cons_succ]
  refine wpAnyH_take (i := 7) (oi := ?oiz18) (v := ?vz18) ?hiz18 (by kernel_rfl) (by kernel_rfl) (by kernel_rfl) ?hQz18 ?hyz18 (by assumption) ?restz18
  case hiz18 => simp only [List.getElem?_toArray, List.getElem?_cons_zero, List.getElem?_cons_succ]; rfl
  case hQz18 => exact fun _ _ _ h => h
  case hyz18 => exact Or.inl ⟨by rfl, by intro w hSw; (try dsimp only at hSw); go_simp; with_reducible rfl⟩
  try simp only [Act.put, List.setIfInBounds_toArray, List.set_cons_zero, List.set_cons_succ]
  refine wpAnyH_take (i := 8) (oi := ?oiz19) (v := ?vz19) ?hiz19 (by kernel_rfl) (by kernel_rfl) (by kernel_rfl) ?hQz19 ?hyz19 (by assumption) ?restz19
  case hiz19 => simp only [List.getElem?_toArray, List.getElem?_cons_zero, List.getElem?_cons_succ]; rfl
  case hQz19 => exact fun _ _ _ h => h
  case hyz19 => exact Or.inl ⟨by rfl, by intro w hSw; (try dsimp only at hSw); go_simp; with_reducible rfl⟩
  try simp only [Act.put, List.setIfInBounds_toArray, List.set_cons_zero, List.set_cons_succ]
  refine wpAnyH_take (i := 9) (oi := ?oiz20) (v := ?vz20) ?hiz20 (by kernel_rfl) (by kernel_rfl) (by kernel_rfl) ?hQz20 ?hyz20 (by assumption) ?restz20
  case hiz20 => simp only [List.getElem?_toArray, List.getElem?_cons_zero, List.getElem?_cons_succ]; rfl
  case hQz20 => exact fun _ _ _ h => h
  case hyz20 => exact Or.inl ⟨by rfl, by intro w hSw; (try dsimp only at hSw); go_simp; with_reducible rfl⟩
  try simp only [Act.put, List.setIfInBounds_toArray, List.set_cons_zero, List.set_cons_succ]
  refine wpAnyH_done (by kernel_rfl) ?_ _
  replace OW := Lib.hid (OW.out.ext hHeld)
  replace M := Lib.hid (M.out.ext hHeld)
  replace B1 := Lib.hid (B1.out.ext hHeld)
  replace XW := Lib.hid (XW.out.trans hHeld)
  clear hHeld
  go_wp2_with (first | (refine wpl_loadB B1.out aggEntryL hn1 rfl _ rfl rfl ?_))
  refine (eqEntryS_u _ _ R _ _ _ OH.out.rd OW.out.rd).mono ?_
  rintro e w19 ⟨rfl, hx⟩
  replace OW := Lib.hid (OW.out.ext hx)
  replace M := Lib.hid (M.out.ext hx)
  replace OH := Lib.hid (OH.out.ext hx)
  replace B1 := Lib.hid (B1.out.ext hx)
  replace XW := Lib.hid (XW.out.trans hx)
  clear hx
  go_wp2_with (first | (refine wpl_loadB B1.out aggEntryL hn1 rfl _ rfl rfl ?_))
  refine (heldEntryS_any _ _ 1 _ _ M.out (by omega) (by omega)).mono ?_
  rintro e w20 ⟨rfl, hx⟩
  replace OW := Lib.hid (OW.out.ext hx)
  replace M := Lib.hid (M.out.ext hx)
  replace OH := Lib.hid (OH.out.ext hx)
  replace B1 := Lib.hid (B1.out.ext hx)
  replace XW := Lib.hid (XW.out.trans hx)
  clear hx
  go_wp2_with (first | (refine wpl_loadB B1.out aggEntryL hn1 rfl _ rfl rfl ?_))
  go_ret
  exact ⟨rfl, XW.out⟩
end Go.Proofs.Ytbippohfinbngaa
