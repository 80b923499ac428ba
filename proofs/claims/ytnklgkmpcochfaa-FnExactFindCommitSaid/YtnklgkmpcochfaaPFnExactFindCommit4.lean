/- What the walk of the law FnExactFindCommit needs, part 4 of 5. No condition. -/
import Derived.OrdersHeld
import Derived.Deep.RegionHeld
import Derived.Great.BuildSlice
import Derived.Test.YtnklgkmpcochfaaPFnExactFindCommit3
/- The nodes of a map and its key: the reference. No condition. -/
namespace Go.Proofs.Ytnklgkmpcochfaa
open Go.RowKit
set_option linter.unusedVariables false
set_option linter.unusedSimpArgs false

def NodesC (f : Nat) : Prop := ∀ (v : Value) (L : List En), L.length ≤ f → L.length ≤ 64 → good L → ∀ (w : World) (S : Nat → Prop), RdL tEnt w S v L →
    Calls Try.prog 105 #[v] w fun e w' => ∃ v', e = .returned (.tuple #[v', .agg (numsA .u8 (trF f L).key)]) ∧ Own tNd 171 w' w.heap.size v' (trF f L).all ∧ Ext w w'
set_option maxHeartbeats 1000000 in
set_option maxRecDepth 100000 in
theorem nodes_nil (f : Nat) (v : Value) (L : List En) (h0 : L.length = 0) (w : World) (S : Nat → Prop) (h : RdL tEnt w S v L) :
    Calls Try.prog 105 #[v] w fun e w' => ∃ v', e = .returned (.tuple #[v', .agg (numsA .u8 (trF f L).key)]) ∧ Own tNd 171 w' w.heap.size v' (trF f L).all ∧ Ext w w' := by
  rw [trF_nil _ _ h0]
  obtain ⟨A, cap, rfl, hcap, hlen, _⟩ := h
  rw [h0]
  have hk := emptyL_ok.1
  clear h0 hcap hlen
  show Calls Try.prog 105 #[.slice A 0 cap] w fun e w' => ∃ v', e = .returned (.tuple #[v', .agg (numsA .u8 emptyL)]) ∧ Own tNd 171 w' w.heap.size v' [] ∧ Ext w w'
  go_enter Try.func105, Try.ntmps105
  go_wp2_with fail
  refine (l04Empty_any _).mono ?_
  rintro e w1 ⟨rfl, hx⟩
  have B3 := Lib.hid (((Blk.new w 53 _).alloc _).ext hx)
  have OE := Lib.hid ((Own.empty' tNd (g := w.heap.size + 1) (w := w.alloc _) (by simp) 171 w.heap.size (by simp)).ext hx)
  have XW := Lib.hid (((ext_alloc w _).alloc _).trans hx)
  clear hx
  go_wp2_with (refine wpl_storeN B3.out aggKey hk rfl rfl _ _ rfl rfl rfl rfl ?_)
  refine bodyPost_ret (results_tb rfl _ rfl aggKey (sizeN hk) (B3.out.setRow _) rfl) rfl ?_
  exact ⟨_, rfl, OE.out.kept (grown_row (grown_refl _ _) _) (.inr (fun e => absurd (Option.some.inj e) (by show ¬ (w.heap.size + 1 = w.heap.size); omega))), XW.out.setRow (Nat.le_refl _) _⟩
set_option maxHeartbeats 1000000 in
set_option maxRecDepth 100000 in
theorem nodes_cons1 (f : Nat) (ih : NodesC f) (A : Option Addr) (cap : Nat) (L : List En) (h0 : ¬ L.length = 0) (hf : L.length ≤ f + 1) (h64 : L.length ≤ 64) (hg : good L) (hcase : cap = topE L + 1) (w : World) (S : Nat → Prop) (h : RdL tEnt w S (.slice A L.length cap) L) :
    Calls Try.prog 105 #[.slice A L.length cap] w fun e w' => ∃ v', e = .returned (.tuple #[v', .agg (numsA .u8 (trF (f + 1) L).key)]) ∧ Own tNd 171 w' w.heap.size v' (trF (f + 1) L).all ∧ Ext w w' := by
  have hlt := topE_lt (L := L) (by omega)
  have hND := trF_ok (f + 1) L hg
  have hLL := trF_len f (L.take (topE L))
  have hLR := trF_len f (L.drop (topE L + 1))
  have htop := fun W hW => l04Top_any (.slice A L.length cap) L (by omega) hg W S hW
  rw [trF_cons _ _ h0] at hND ⊢
  obtain ⟨k, hk⟩ : ∃ k, topE L = k := ⟨_, rfl⟩
  simp only [hk] at hlt hND hLL hLR htop hcase ⊢
  rw [gE_lt hlt] at hND ⊢
  subst hcase
  have H := Lib.hid h
  obtain ⟨A', cap', e', hcap, hlen, hrd, hok⟩ := h
  injection e' with e1 _ e3
  subst e1 e3
  obtain ⟨g, o, rfl, hs0, hc⟩ := hrd.elem hok k hlt
  have ihl := fun W hW => ih _ (L.take k) (by rw [List.length_take]; omega) (by rw [List.length_take]; omega) (hg.take k) W S (RdL.head (k := k) (show RdL tEnt W S (.slice (some ⟨g, o, none⟩) L.length (k + 1)) L from hW) (by omega))
  have ihr := fun W hW => ih _ (L.drop (k + 1)) (by rw [List.length_drop]; omega) (by rw [List.length_drop]; omega) (hg.drop (k + 1)) W S (RdL.cut (k := k + 1) (show RdL tEnt W S (.slice (some ⟨g, o, none⟩) L.length (k + 1)) L from hW) (by omega))
  simp only [Option.map_some, Addr.add_lit, show tEnt.sz = 2 from rfl, eq_self, if_true, Nat.sub_self] at ihr
  obtain ⟨TL, hTL⟩ : ∃ T, trF f (L.take k) = T := ⟨_, rfl⟩
  obtain ⟨TR, hTR⟩ : ∃ T, trF f (L.drop (k + 1)) = T := ⟨_, rfl⟩
  simp only [hTL] at ihl hLL hND ⊢
  simp only [hTR] at ihr hLR hND ⊢
  rw [List.length_take] at hLL
  rw [List.length_drop] at hLR
  have HND := Lib.hid hND.1
  have HEB := Lib.hid hND.2.1
  have KL := Lib.hid TL.key_ok.1
  have KR := Lib.hid TR.key_ok.1
  have hc0 : ∀ W, Ext w W → ∀ j u, ([Value.string L[k].1, .string L[k].2] : List Value)[j]? = some u → W.cell? ⟨g, o + k * 2 + j, none⟩ = some u := fun W hW j u hu => hW.cell (hc j u hu)
  have HC := Lib.hid hc0
  have hi : (0 : Int) ≤ (k : Int) := by omega
  have hi2 : (k : Int) ≤ (L.length : Int) := by omega
  have hi3 : (k : Int) < (L.length : Int) := by omega
  have hi4 : (k : Int) + 1 ≤ (L.length : Int) := by omega
  have hi5 : (0 : Int) ≤ (k : Int) + 1 := by omega
  have hi6 : (k : Int) ≤ ((k + 1 : Nat) : Int) := by omega
  have hi7 : ((L.length : Int) == 0) = false := by rw [beq_eq_false_iff_ne]; omega
  have hi8 : (L.length : Int) ≤ ((k + 1 : Nat) : Int) := by omega
  have hi9 : (k : Int) + 1 ≤ ((k + 1 : Nat) : Int) := by omega
  have HLL := Lib.hid hLL
  have HLR := Lib.hid hLR
  have HCAP := Lib.hid hcap
  clear hc hrd hok hTL hTR hk hND hc0 hLL hLR hcap
  show Calls Try.prog 105 #[.slice (some ⟨g, o, none⟩) L.length (k + 1)] w fun e w' => ∃ v', e = .returned (.tuple #[v', .agg (numsA .u8 (hashL 5 (nodeL ⟨TL.key, TR.key, L[k].1, L[k].2⟩)))]) ∧ Own tNd 171 w' w.heap.size v' (⟨TL.key, TR.key, L[k].1, L[k].2⟩ :: (TL.all ++ TR.all)) ∧ Ext w w'
  go_enter Try.func105, Try.ntmps105
  go_wp2_with fail
  refine (htop _ (H.out.ext (by decide) (ext_alloc _ _))).mono ?_
  rintro e w1 ⟨rfl, hx⟩
  have B3 := Lib.hid ((Blk.new w 53 _).ext hx)
  have XW := Lib.hid ((ext_alloc w _).trans hx)
  have HN := Lib.hid (show w.heap.size + 1 ≤ w1.heap.size by have := hx.size; simpa using this)
  clear hx htop
  go_wp2_with fail
  refine (ihl _ (H.out.ext (by decide) XW.out)).mono ?_
  rintro e w2 ⟨vl, rfl, ho, hx⟩
  replace B3 := Lib.hid (B3.out.ext hx)
  replace XW := Lib.hid (XW.out.trans hx)
  have HN2 := Lib.hid (show w.heap.size + 1 ≤ w2.heap.size by have := hx.size; have := HN.out; omega)
  obtain ⟨AL, cl, rfl⟩ := ho.shape
  have OL := Lib.hid ho.rd
  clear ho hx ihl
  go_wp2_with (refine wpl_storeNew aggKey KL.out rfl rfl _ _ rfl rfl rfl rfl ?_)
  refine (ihr _ (H.out.ext (by decide) (XW.out.alloc _))).mono ?_
  rintro e w3 ⟨vr, rfl, ho, hx⟩
  replace B3 := Lib.hid ((B3.out.alloc _).ext hx)
  replace XW := Lib.hid ((XW.out.alloc _).trans hx)
  have B6 := Lib.hid (((Blk.new w2 53 (numsA .u8 TL.key)).ext hx).alloc (.cells (numsA .u8 TR.key) 53))
  replace OL := Lib.hid ((OL.out.ext (by decide) (ext_alloc _ _)).ext (by decide) hx)
  obtain ⟨AR, cr, rfl⟩ := ho.shape
  have OR := Lib.hid ho.rd
  replace HN2 := Lib.hid (show w.heap.size + 1 ≤ w3.heap.size by have := hx.size; have := HN2.out; simp only [size_alloc] at *; omega)
  clear ho hx ihr
  have B8 := Lib.hid (Blk.new w3 53 (numsA .u8 TR.key))
  have HD := Lib.hid (HC.out _ (XW.out.alloc (.cells (numsA .u8 TR.key) 53)))
  go_wp2_with (refine wpl_storeNew aggKey KR.out rfl rfl _ _ rfl rfl rfl rfl ?_)
  refine wp_region_held_drew (S := fun W => Ext (w3.alloc (.cells (numsA .u8 TR.key) 53)) W) (by kernel_rfl) (Ext.refl _).drew (fun hHeld => ?_)
  refine tkI 0 (v := (.agg (numsA .u8 TL.key))) (by simp only [List.getElem?_toArray, List.getElem?_cons_zero, List.getElem?_cons_succ]; rfl) (by kernel_rfl) (by exact fun _ _ _ h => h) (by refine yields_loadB B6.out aggKey (sizeN KL.out) ?_ _ rfl rfl; rfl) (by assumption) ?_
  try simp only [Act.put, List.setIfInBounds_toArray, List.set_cons_zero, List.set_cons_succ]
  refine tkI 1 (v := (.agg (numsA .u8 TR.key))) (by simp only [List.getElem?_toArray, List.getElem?_cons_zero, List.getElem?_cons_succ]; rfl) (by kernel_rfl) (by exact fun _ _ _ h => h) (by refine yields_loadB B8.out aggKey (sizeN KR.out) ?_ _ rfl rfl; rfl) (by assumption) ?_
  try simp only [Act.put, List.setIfInBounds_toArray, List.set_cons_zero, List.set_cons_succ]
  iterate 3
    refine tkD 0 (by simp only [List.size_toArray, List.length_cons, List.length_nil]; rfl) (by simp only [List.getElem?_toArray, List.getElem?_cons_zero, List.getElem?_cons_succ]; rfl) (by kernel_rfl) (by exact fun _ _ _ h => h) (by first | (exact Or.inl ⟨by rfl, by intro w hSw; (try dsimp only at hSw); go_simp; with_reducible rfl⟩) | (exact Or.inr ⟨by rfl, by rfl⟩)) (by assumption) ?_
    try simp only [Act.put, List.setIfInBounds_toArray, List.set_cons_zero, List.set_cons_succ]
  refine tkI 5 (v := (.agg #[.string L[k].1, .string L[k].2])) (by simp only [List.getElem?_toArray, List.getElem?_cons_zero, List.getElem?_cons_succ]; rfl) (by kernel_rfl) (by exact fun _ _ _ h => h) (by refine yields_loadR g (o + k * 2) [.string L[k].1, .string L[k].2] aggEntryI HD.out ?_ _ rfl rfl; rfl) (by assumption) ?_
  try simp only [Act.put, List.setIfInBounds_toArray, List.set_cons_zero, List.set_cons_succ]
  refine tkI 6 (v := (.agg (Nd.enc ⟨TL.key, TR.key, L[k].1, L[k].2⟩).toArray)) (by simp only [List.getElem?_toArray, List.getElem?_cons_zero, List.getElem?_cons_succ]; rfl) (by kernel_rfl) (by exact fun _ _ _ h => h) (by refine yields_build ?_ rfl (built_node ⟨TL.key, TR.key, L[k].1, L[k].2⟩ HND.out); rfl) (by assumption) ?_
  try simp only [Act.put, List.setIfInBounds_toArray, List.set_cons_zero, List.set_cons_succ]
  have hs9 := hHeld.size
  have HX9 := Lib.hid hHeld
  generalize hw9 : (w3.alloc (.cells (numsA .u8 TR.key) 53)).drew = w9 at hHeld HX9 hs9 ⊢
  clear hw9
  refine wpAnyH_ready (rs := [7]) (by kernel_rfl) (by simp) (AllReadyH.cons (o := ?oy87) ?hy87 (fun K hK => ?sy87) AllReadyH.nil)
  case hy87 => simp only [List.getElem?_toArray, List.getElem?_cons_zero, List.getElem?_cons_succ]; rfl
  refine stp_alloc zNd.toArray (by kernel_rfl) rfl rfl ?_
  have hH2 := hHeld.alloc (.cells zNd.toArray 171)
  refine hK.out _ _ hH2 (fun _ => ?_)
  clear hK K hH2
  try simp only [Act.put, List.setIfInBounds_toArray, List.set_cons_zero, List.set_cons_succ]
  refine wpAnyH_ready (rs := [8]) (by kernel_rfl) (by simp) (AllReadyH.cons (o := ?oy98) ?hy98 (fun K hK => ?sy98) AllReadyH.nil)
  case hy98 => simp only [List.getElem?_toArray, List.getElem?_cons_zero, List.getElem?_cons_succ]; rfl
  refine stp_storeP (Blk.new w9 171 _) aggNodeI (Nd.st HND.out) (by simp [zNd]) rfl _ _ rfl rfl rfl rfl ?_
  have hH3 := hHeld.alloc (.cells (Nd.enc ⟨TL.key, TR.key, L[k].1, L[k].2⟩).toArray 171)
  rw [splice_all _ _ (by rw [Array.length_toList, (Nd.st HND.out).size]; rfl), setRow_alloc, Array.toArray_toList]
  refine hK.out _ _ hH3 (fun _ => ?_)
  clear hK K hH3 hHeld
  try simp only [Act.put, List.setIfInBounds_toArray, List.set_cons_zero, List.set_cons_succ]
  refine wpAnyH_done (by kernel_rfl) ?_ _
  have HW9 := Lib.hid ((XW.out.alloc (.cells (numsA .u8 TR.key) 53)).trans HX9.out)
  have HN9 := Lib.hid (show w.heap.size + 1 ≤ w9.heap.size by have := hs9; have := HN2.out; simp only [size_alloc] at *; omega)
  have B3x := Lib.hid ((B3.out.alloc (.cells (numsA .u8 TR.key) 53)).ext HX9.out)
  have OLx := Lib.hid ((OL.out.ext (by decide) (ext_alloc _ (.cells (numsA .u8 TR.key) 53))).ext (by decide) HX9.out)
  have ORx := Lib.hid ((OR.out.ext (by decide) (ext_alloc _ (.cells (numsA .u8 TR.key) 53))).ext (by decide) HX9.out)
  clear hs9 HX9 B3 B6 B8 OL OR XW HN2
  obtain ⟨x, hx0⟩ : ∃ x : Nd, x = ⟨TL.key, TR.key, L[k].1, L[k].2⟩ := ⟨_, rfl⟩
  have HXO := Lib.hid (show x.ok by rw [hx0]; exact HND.out)
  have HXE := Lib.hid (show entB x.n x.v = true by rw [hx0]; exact HEB.out)
  simp only [← hx0, Array.toArray_toList]
  have HXX := Lib.hid hx0
  clear hx0 HND HEB
  obtain ⟨wa, hwa⟩ : ∃ wa, w9.alloc (.cells x.enc.toArray 171) = wa := ⟨_, rfl⟩
  have HA := Lib.hid (show Ext w9 wa by rw [← hwa]; exact ext_alloc _ _)
  have HNA := Lib.hid (show Blk wa w9.heap.size 171 x.enc.toArray by rw [← hwa]; exact Blk.new w9 _ _)
  have HSA := Lib.hid (show wa.heap.size = w9.heap.size + 1 by rw [← hwa]; simp)
  rw [hwa]
  clear hwa
  have OL2 := Lib.hid ((OLx.out.ext (by decide) HA.out).ext (by decide) (ext_alloc wa (.cells x.enc.toArray 171)))
  have hsz := (Nd.st HXO.out).size
  have henc := Nd.enc_length HXO.out
  have OS := Lib.hid (Own.of_blk tNd (w := wa.alloc (.cells x.enc.toArray 171)) (base := wa.heap.size) (xs := [x]) (by rw [show [x].flatMap tNd.enc = x.enc from by rw [List.flatMap_cons, List.flatMap_nil, List.append_nil]; rfl]; exact Blk.new wa 171 x.enc.toArray) (Nat.le_refl _) (by simp) (by intro y hy; obtain rfl := List.mem_singleton.1 hy; exact HXO.out))
  go_wp2_with (first
    | (refine wpl_loadB HNA.out aggNodeI hsz rfl _ rfl rfl ?_)
    | (at_builtin; rw [fold_fill x.enc _ (by rw [henc]; rfl)]; refine wpl_append rowNd rfl _ _ rfl (v := .slice (some ⟨wa.heap.size, 0, none⟩) 1 1) rfl OS.out _ _ rfl (ys := TL.all) rfl (rd_nd OL2.out) (ok_nd OL2.out) (by have := HLL.out; simp only [List.length_singleton]; omega) (by simp) ?_; intro v5 w5 ho1 hg1 hat1; have HX5 := Lib.hid (OS.out.ext_app (ext_alloc wa _) hg1); obtain ⟨B5, n5, c5, rfl⟩ := ho1.shape3; have HO5 := Lib.hid ho1; clear ho1 hg1 hat1)
    | (at_builtin; refine wpl_append rowNd rfl _ _ rfl (v := .slice B5 n5 c5) rfl HO5.out _ _ rfl (ys := TR.all) rfl (rd_nd ((ORx.out.ext (by decide) HA.out).ext (by decide) HX5.out)) (ok_nd ORx.out) (by have := HLL.out; have := HLR.out; simp only [List.length_append, List.length_singleton]; omega) HX5.out.size ?_; intro v6 w6 ho1 hg1 hat1; have HX6 := Lib.hid (HO5.out.ext_app HX5.out hg1); have HO6 := Lib.hid ho1; clear ho1 hg1 hat1))
  refine (l04NodeKey_any x HXO.out HXE.out w9.heap.size _ (HNA.out.ext HX6.out)).mono ?_
  rintro e w7 ⟨rfl, hx⟩
  have HO7 := Lib.hid (HO6.out.ext hx)
  have B3y := Lib.hid (((B3x.out.ext HA.out).ext HX6.out).ext hx)
  have HX7 := Lib.hid (((HW9.out.trans HA.out).trans HX6.out).trans hx)
  have hkx := (hashL_ok 5 (nodeL x)).1
  have HLT := Lib.hid (show w.heap.size < wa.heap.size by have := HSA.out; have := HN9.out; omega)
  clear hx HO6
  go_wp2_with (refine wpl_storeN B3y.out aggKey hkx rfl rfl _ _ rfl rfl rfl rfl ?_)
  refine bodyPost_ret (results_tb rfl _ rfl aggKey (sizeN hkx) (B3y.out.setRow _) rfl) rfl ?_
  have ho8 := HO7.out
  rw [show [x] ++ TL.all ++ TR.all = x :: (TL.all ++ TR.all) by simp] at ho8
  rw [← HXX.out]
  refine ⟨_, rfl, ?_, HX7.out.setRow (Nat.le_refl _) _⟩
  exact (ho8.kept (grown_row (g := w.heap.size) (grown_refl _ _) _) (.inr (fun e => by have := (ho8.base_le _ e).1; have := HLT.out; omega))).le (Nat.le_of_lt HLT.out)
set_option maxHeartbeats 1000000 in
set_option maxRecDepth 100000 in
theorem nodes_cons2 (f : Nat) (ih : NodesC f) (A : Option Addr) (cap : Nat) (L : List En) (h0 : ¬ L.length = 0) (hf : L.length ≤ f + 1) (h64 : L.length ≤ 64) (hg : good L) (hcase : ¬ cap = topE L + 1) (w : World) (S : Nat → Prop) (h : RdL tEnt w S (.slice A L.length cap) L) :
    Calls Try.prog 105 #[.slice A L.length cap] w fun e w' => ∃ v', e = .returned (.tuple #[v', .agg (numsA .u8 (trF (f + 1) L).key)]) ∧ Own tNd 171 w' w.heap.size v' (trF (f + 1) L).all ∧ Ext w w' := by
  have hlt := topE_lt (L := L) (by omega)
  have hND := trF_ok (f + 1) L hg
  have hLL := trF_len f (L.take (topE L))
  have hLR := trF_len f (L.drop (topE L + 1))
  have htop := fun W hW => l04Top_any (.slice A L.length cap) L (by omega) hg W S hW
  rw [trF_cons _ _ h0] at hND ⊢
  obtain ⟨k, hk⟩ : ∃ k, topE L = k := ⟨_, rfl⟩
  simp only [hk] at hlt hND hLL hLR htop hcase ⊢
  rw [gE_lt hlt] at hND ⊢

  have H := Lib.hid h
  obtain ⟨A', cap', e', hcap, hlen, hrd, hok⟩ := h
  injection e' with e1 _ e3
  subst e1 e3
  obtain ⟨g, o, rfl, hs0, hc⟩ := hrd.elem hok k hlt
  have ihl := fun W hW => ih _ (L.take k) (by rw [List.length_take]; omega) (by rw [List.length_take]; omega) (hg.take k) W S (RdL.head (k := k) (show RdL tEnt W S (.slice (some ⟨g, o, none⟩) L.length cap) L from hW) (by omega))
  have ihr := fun W hW => ih _ (L.drop (k + 1)) (by rw [List.length_drop]; omega) (by rw [List.length_drop]; omega) (hg.drop (k + 1)) W S (RdL.cut (k := k + 1) (show RdL tEnt W S (.slice (some ⟨g, o, none⟩) L.length cap) L from hW) (by omega))
  simp only [Option.map_some, Addr.add_lit, show tEnt.sz = 2 from rfl, if_neg hcase] at ihr
  obtain ⟨TL, hTL⟩ : ∃ T, trF f (L.take k) = T := ⟨_, rfl⟩
  obtain ⟨TR, hTR⟩ : ∃ T, trF f (L.drop (k + 1)) = T := ⟨_, rfl⟩
  simp only [hTL] at ihl hLL hND ⊢
  simp only [hTR] at ihr hLR hND ⊢
  rw [List.length_take] at hLL
  rw [List.length_drop] at hLR
  have HND := Lib.hid hND.1
  have HEB := Lib.hid hND.2.1
  have KL := Lib.hid TL.key_ok.1
  have KR := Lib.hid TR.key_ok.1
  have hc0 : ∀ W, Ext w W → ∀ j u, ([Value.string L[k].1, .string L[k].2] : List Value)[j]? = some u → W.cell? ⟨g, o + k * 2 + j, none⟩ = some u := fun W hW j u hu => hW.cell (hc j u hu)
  have HC := Lib.hid hc0
  have hi : (0 : Int) ≤ (k : Int) := by omega
  have hi2 : (k : Int) ≤ (L.length : Int) := by omega
  have hi3 : (k : Int) < (L.length : Int) := by omega
  have hi4 : (k : Int) + 1 ≤ (L.length : Int) := by omega
  have hi5 : (0 : Int) ≤ (k : Int) + 1 := by omega
  have hi6 : (k : Int) ≤ (cap : Int) := by omega
  have hi7 : ((L.length : Int) == 0) = false := by rw [beq_eq_false_iff_ne]; omega
  have hi8 : (L.length : Int) ≤ (cap : Int) := by omega
  have hi9 : (k : Int) + 1 ≤ (cap : Int) := by omega
  have HLL := Lib.hid hLL
  have HLR := Lib.hid hLR
  have HCAP := Lib.hid hcap
  clear hc hrd hok hTL hTR hk hND hc0 hLL hLR hcap
  show Calls Try.prog 105 #[.slice (some ⟨g, o, none⟩) L.length cap] w fun e w' => ∃ v', e = .returned (.tuple #[v', .agg (numsA .u8 (hashL 5 (nodeL ⟨TL.key, TR.key, L[k].1, L[k].2⟩)))]) ∧ Own tNd 171 w' w.heap.size v' (⟨TL.key, TR.key, L[k].1, L[k].2⟩ :: (TL.all ++ TR.all)) ∧ Ext w w'
  go_enter Try.func105, Try.ntmps105
  go_wp2_with fail
  refine (htop _ (H.out.ext (by decide) (ext_alloc _ _))).mono ?_
  rintro e w1 ⟨rfl, hx⟩
  have B3 := Lib.hid ((Blk.new w 53 _).ext hx)
  have XW := Lib.hid ((ext_alloc w _).trans hx)
  have HN := Lib.hid (show w.heap.size + 1 ≤ w1.heap.size by have := hx.size; simpa using this)
  clear hx htop
  go_wp2_with fail
  refine (ihl _ (H.out.ext (by decide) XW.out)).mono ?_
  rintro e w2 ⟨vl, rfl, ho, hx⟩
  replace B3 := Lib.hid (B3.out.ext hx)
  replace XW := Lib.hid (XW.out.trans hx)
  have HN2 := Lib.hid (show w.heap.size + 1 ≤ w2.heap.size by have := hx.size; have := HN.out; omega)
  obtain ⟨AL, cl, rfl⟩ := ho.shape
  have OL := Lib.hid ho.rd
  clear ho hx ihl
  go_wp2_with (refine wpl_storeNew aggKey KL.out rfl rfl _ _ rfl rfl rfl rfl ?_)
  refine (ihr _ (H.out.ext (by decide) (XW.out.alloc _))).mono ?_
  rintro e w3 ⟨vr, rfl, ho, hx⟩
  replace B3 := Lib.hid ((B3.out.alloc _).ext hx)
  replace XW := Lib.hid ((XW.out.alloc _).trans hx)
  have B6 := Lib.hid (((Blk.new w2 53 (numsA .u8 TL.key)).ext hx).alloc (.cells (numsA .u8 TR.key) 53))
  replace OL := Lib.hid ((OL.out.ext (by decide) (ext_alloc _ _)).ext (by decide) hx)
  obtain ⟨AR, cr, rfl⟩ := ho.shape
  have OR := Lib.hid ho.rd
  replace HN2 := Lib.hid (show w.heap.size + 1 ≤ w3.heap.size by have := hx.size; have := HN2.out; simp only [size_alloc] at *; omega)
  clear ho hx ihr
  have B8 := Lib.hid (Blk.new w3 53 (numsA .u8 TR.key))
  have HD := Lib.hid (HC.out _ (XW.out.alloc (.cells (numsA .u8 TR.key) 53)))
  go_wp2_with (refine wpl_storeNew aggKey KR.out rfl rfl _ _ rfl rfl rfl rfl ?_)
  refine wp_region_held_drew (S := fun W => Ext (w3.alloc (.cells (numsA .u8 TR.key) 53)) W) (by kernel_rfl) (Ext.refl _).drew (fun hHeld => ?_)
  refine tkI 0 (v := (.agg (numsA .u8 TL.key))) (by simp only [List.getElem?_toArray, List.getElem?_cons_zero, List.getElem?_cons_succ]; rfl) (by kernel_rfl) (by exact fun _ _ _ h => h) (by refine yields_loadB B6.out aggKey (sizeN KL.out) ?_ _ rfl rfl; rfl) (by assumption) ?_
  try simp only [Act.put, List.setIfInBounds_toArray, List.set_cons_zero, List.set_cons_succ]
  refine tkI 1 (v := (.agg (numsA .u8 TR.key))) (by simp only [List.getElem?_toArray, List.getElem?_cons_zero, List.getElem?_cons_succ]; rfl) (by kernel_rfl) (by exact fun _ _ _ h => h) (by refine yields_loadB B8.out aggKey (sizeN KR.out) ?_ _ rfl rfl; rfl) (by assumption) ?_
  try simp only [Act.put, List.setIfInBounds_toArray, List.set_cons_zero, List.set_cons_succ]
  iterate 3
    refine tkD 0 (by simp only [List.size_toArray, List.length_cons, List.length_nil]; rfl) (by simp only [List.getElem?_toArray, List.getElem?_cons_zero, List.getElem?_cons_succ]; rfl) (by kernel_rfl) (by exact fun _ _ _ h => h) (by first | (exact Or.inl ⟨by rfl, by intro w hSw; (try dsimp only at hSw); go_simp; with_reducible rfl⟩) | (exact Or.inr ⟨by rfl, by rfl⟩)) (by assumption) ?_
    try simp only [Act.put, List.setIfInBounds_toArray, List.set_cons_zero, List.set_cons_succ]
  refine tkI 5 (v := (.agg #[.string L[k].1, .string L[k].2])) (by simp only [List.getElem?_toArray, List.getElem?_cons_zero, List.getElem?_cons_succ]; rfl) (by kernel_rfl) (by exact fun _ _ _ h => h) (by refine yields_loadR g (o + k * 2) [.string L[k].1, .string L[k].2] aggEntryI HD.out ?_ _ rfl rfl; rfl) (by assumption) ?_
  try simp only [Act.put, List.setIfInBounds_toArray, List.set_cons_zero, List.set_cons_succ]
  refine tkI 6 (v := (.agg (Nd.enc ⟨TL.key, TR.key, L[k].1, L[k].2⟩).toArray)) (by simp only [List.getElem?_toArray, List.getElem?_cons_zero, List.getElem?_cons_succ]; rfl) (by kernel_rfl) (by exact fun _ _ _ h => h) (by refine yields_build ?_ rfl (built_node ⟨TL.key, TR.key, L[k].1, L[k].2⟩ HND.out); rfl) (by assumption) ?_
  try simp only [Act.put, List.setIfInBounds_toArray, List.set_cons_zero, List.set_cons_succ]
  have hs9 := hHeld.size
  have HX9 := Lib.hid hHeld
  generalize hw9 : (w3.alloc (.cells (numsA .u8 TR.key) 53)).drew = w9 at hHeld HX9 hs9 ⊢
  clear hw9
  refine wpAnyH_ready (rs := [7]) (by kernel_rfl) (by simp) (AllReadyH.cons (o := ?oy177) ?hy177 (fun K hK => ?sy177) AllReadyH.nil)
  case hy177 => simp only [List.getElem?_toArray, List.getElem?_cons_zero, List.getElem?_cons_succ]; rfl
  refine stp_alloc zNd.toArray (by kernel_rfl) rfl rfl ?_
  have hH2 := hHeld.alloc (.cells zNd.toArray 171)
  refine hK.out _ _ hH2 (fun _ => ?_)
  clear hK K hH2
  try simp only [Act.put, List.setIfInBounds_toArray, List.set_cons_zero, List.set_cons_succ]
  refine wpAnyH_ready (rs := [8]) (by kernel_rfl) (by simp) (AllReadyH.cons (o := ?oy188) ?hy188 (fun K hK => ?sy188) AllReadyH.nil)
  case hy188 => simp only [List.getElem?_toArray, List.getElem?_cons_zero, List.getElem?_cons_succ]; rfl
  refine stp_storeP (Blk.new w9 171 _) aggNodeI (Nd.st HND.out) (by simp [zNd]) rfl _ _ rfl rfl rfl rfl ?_
  have hH3 := hHeld.alloc (.cells (Nd.enc ⟨TL.key, TR.key, L[k].1, L[k].2⟩).toArray 171)
  rw [splice_all _ _ (by rw [Array.length_toList, (Nd.st HND.out).size]; rfl), setRow_alloc, Array.toArray_toList]
  refine hK.out _ _ hH3 (fun _ => ?_)
  clear hK K hH3 hHeld
  try simp only [Act.put, List.setIfInBounds_toArray, List.set_cons_zero, List.set_cons_succ]
  refine wpAnyH_done (by kernel_rfl) ?_ _
  have HW9 := Lib.hid ((XW.out.alloc (.cells (numsA .u8 TR.key) 53)).trans HX9.out)
  have HN9 := Lib.hid (show w.heap.size + 1 ≤ w9.heap.size by have := hs9; have := HN2.out; simp only [size_alloc] at *; omega)
  have B3x := Lib.hid ((B3.out.alloc (.cells (numsA .u8 TR.key) 53)).ext HX9.out)
  have OLx := Lib.hid ((OL.out.ext (by decide) (ext_alloc _ (.cells (numsA .u8 TR.key) 53))).ext (by decide) HX9.out)
  have ORx := Lib.hid ((OR.out.ext (by decide) (ext_alloc _ (.cells (numsA .u8 TR.key) 53))).ext (by decide) HX9.out)
  clear hs9 HX9 B3 B6 B8 OL OR XW HN2
  obtain ⟨x, hx0⟩ : ∃ x : Nd, x = ⟨TL.key, TR.key, L[k].1, L[k].2⟩ := ⟨_, rfl⟩
  have HXO := Lib.hid (show x.ok by rw [hx0]; exact HND.out)
  have HXE := Lib.hid (show entB x.n x.v = true by rw [hx0]; exact HEB.out)
  simp only [← hx0, Array.toArray_toList]
  have HXX := Lib.hid hx0
  clear hx0 HND HEB
  obtain ⟨wa, hwa⟩ : ∃ wa, w9.alloc (.cells x.enc.toArray 171) = wa := ⟨_, rfl⟩
  have HA := Lib.hid (show Ext w9 wa by rw [← hwa]; exact ext_alloc _ _)
  have HNA := Lib.hid (show Blk wa w9.heap.size 171 x.enc.toArray by rw [← hwa]; exact Blk.new w9 _ _)
  have HSA := Lib.hid (show wa.heap.size = w9.heap.size + 1 by rw [← hwa]; simp)
  rw [hwa]
  clear hwa
  have OL2 := Lib.hid ((OLx.out.ext (by decide) HA.out).ext (by decide) (ext_alloc wa (.cells x.enc.toArray 171)))
  have hsz := (Nd.st HXO.out).size
  have henc := Nd.enc_length HXO.out
  have OS := Lib.hid (Own.of_blk tNd (w := wa.alloc (.cells x.enc.toArray 171)) (base := wa.heap.size) (xs := [x]) (by rw [show [x].flatMap tNd.enc = x.enc from by rw [List.flatMap_cons, List.flatMap_nil, List.append_nil]; rfl]; exact Blk.new wa 171 x.enc.toArray) (Nat.le_refl _) (by simp) (by intro y hy; obtain rfl := List.mem_singleton.1 hy; exact HXO.out))
  go_wp2_with (first
    | (refine wpl_loadB HNA.out aggNodeI hsz rfl _ rfl rfl ?_)
    | (at_builtin; rw [fold_fill x.enc _ (by rw [henc]; rfl)]; refine wpl_append rowNd rfl _ _ rfl (v := .slice (some ⟨wa.heap.size, 0, none⟩) 1 1) rfl OS.out _ _ rfl (ys := TL.all) rfl (rd_nd OL2.out) (ok_nd OL2.out) (by have := HLL.out; simp only [List.length_singleton]; omega) (by simp) ?_; intro v5 w5 ho1 hg1 hat1; have HX5 := Lib.hid (OS.out.ext_app (ext_alloc wa _) hg1); obtain ⟨B5, n5, c5, rfl⟩ := ho1.shape3; have HO5 := Lib.hid ho1; clear ho1 hg1 hat1)
    | (at_builtin; refine wpl_append rowNd rfl _ _ rfl (v := .slice B5 n5 c5) rfl HO5.out _ _ rfl (ys := TR.all) rfl (rd_nd ((ORx.out.ext (by decide) HA.out).ext (by decide) HX5.out)) (ok_nd ORx.out) (by have := HLL.out; have := HLR.out; simp only [List.length_append, List.length_singleton]; omega) HX5.out.size ?_; intro v6 w6 ho1 hg1 hat1; have HX6 := Lib.hid (HO5.out.ext_app HX5.out hg1); have HO6 := Lib.hid ho1; clear ho1 hg1 hat1))
  refine (l04NodeKey_any x HXO.out HXE.out w9.heap.size _ (HNA.out.ext HX6.out)).mono ?_
  rintro e w7 ⟨rfl, hx⟩
  have HO7 := Lib.hid (HO6.out.ext hx)
  have B3y := Lib.hid (((B3x.out.ext HA.out).ext HX6.out).ext hx)
  have HX7 := Lib.hid (((HW9.out.trans HA.out).trans HX6.out).trans hx)
  have hkx := (hashL_ok 5 (nodeL x)).1
  have HLT := Lib.hid (show w.heap.size < wa.heap.size by have := HSA.out; have := HN9.out; omega)
  clear hx HO6
  go_wp2_with (refine wpl_storeN B3y.out aggKey hkx rfl rfl _ _ rfl rfl rfl rfl ?_)
  refine bodyPost_ret (results_tb rfl _ rfl aggKey (sizeN hkx) (B3y.out.setRow _) rfl) rfl ?_
  have ho8 := HO7.out
  rw [show [x] ++ TL.all ++ TR.all = x :: (TL.all ++ TR.all) by simp] at ho8
  rw [← HXX.out]
  refine ⟨_, rfl, ?_, HX7.out.setRow (Nat.le_refl _) _⟩
  exact (ho8.kept (grown_row (g := w.heap.size) (grown_refl _ _) _) (.inr (fun e => by have := (ho8.base_le _ e).1; have := HLT.out; omega))).le (Nat.le_of_lt HLT.out)
theorem l04Nodes_any (f : Nat) : NodesC f := by
  induction f with
  | zero => exact fun v L hf h64 hg w S h => nodes_nil 0 v L (by omega) w S h
  | succ f ih =>
    intro v L hf h64 hg w S h
    by_cases h0 : L.length = 0
    · exact nodes_nil (f + 1) v L h0 w S h
    · obtain ⟨A, cap, rfl, _⟩ := id h
      by_cases hc : cap = topE L + 1
      · exact nodes_cons1 f ih A cap L h0 hf h64 hg hc w S h
      · exact nodes_cons2 f ih A cap L h0 hf h64 hg hc w S h
end Go.Proofs.Ytnklgkmpcochfaa
/- The program's key of a node; nodes in the laws' words. No condition. -/
namespace Go.Proofs.Ytnklgkmpcochfaa
open Go.RowKit
set_option linter.unusedVariables false
set_option linter.unusedSimpArgs false

set_option maxHeartbeats 1000000 in
set_option maxRecDepth 100000 in
theorem nodeKey_any (x : Nd) (hok : x.ok) (he : entB x.n x.v = true) (w : World) :
    Calls Try.prog 112 #[.agg x.enc.toArray] w fun e w' => e = .returned (.agg (numsA .u8 (hashL 5 (nodeL x)))) ∧ Ext w w' := by
  have hk := (hashL_ok 5 (nodeL x)).1
  have hle := entB_le he
  have hnl := nodeL_length hok
  have Hnl : Hid ((nodeL x).length ≤ 1000) := Lib.hid (by omega)
  have hsz := (Nd.st hok).size
  clear hle hnl
  go_enter Try.func112, Try.ntmps112
  go_wp2_with (refine wpl_loadB ((Blk.new w _ _).alloc _) aggNodeI hsz rfl _ rfl rfl ?_)
  refine (nodeBytes_any x hok he _).mono ?_
  rintro e w1 ⟨v1, rfl, ho, hx⟩
  obtain ⟨A1, n1, c1, rfl⟩ := ho.shape3
  have B1 := Lib.hid ((Blk.new' (g := w.heap.size + 1) (w := w.alloc _) (by simp) 53 _).ext hx)
  have XW := Lib.hid (((ext_alloc w _).alloc _).trans hx)
  have HO := Lib.hid ho
  clear hx ho
  go_wp2_with fail
  refine (hash_any 5 (by decide) _ (nodeL x) _ _ HO.out.rd (by have := Hnl.out; omega)).mono ?_
  rintro e w2 ⟨rfl, hx⟩
  replace B1 := Lib.hid (B1.out.ext hx)
  replace XW := Lib.hid (XW.out.trans hx)
  clear hx HO
  go_wp2_with (refine wpl_storeN B1.out aggKey hk rfl rfl _ _ rfl rfl rfl rfl ?_)
  refine bodyPost_ret (results_blk rfl _ rfl aggKey hk (B1.out.setRow _)) rfl ?_
  exact ⟨rfl, XW.out.setRow (by omega) _⟩
end Go.Proofs.Ytnklgkmpcochfaa
/- The tree of a map: the program's, and its key. No condition. -/
namespace Go.Proofs.Ytnklgkmpcochfaa
open Go.RowKit
set_option linter.unusedVariables false
set_option linter.unusedSimpArgs false

/-- v points to the tree T -/
def TrAt (w : World) : Value → Tr → Prop
  | v, .leaf => v = .pointer none
  | v, .node x l r => ∃ g pl pr, v = .pointer (some ⟨g, 0, none⟩) ∧ Blk w g 173 (x.enc ++ [pl, pr]).toArray ∧ TrAt w pl l ∧ TrAt w pr r
theorem TrAt.ext {w w' : World} {v : Value} {T : Tr} (h : TrAt w v T) (e : Ext w w') : TrAt w' v T := by
  induction T generalizing v with
  | leaf => exact h
  | node x l r il ir =>
    obtain ⟨g, pl, pr, h1, h2, h3, h4⟩ := h
    exact ⟨g, pl, pr, h1, h2.ext e, il h3, ir h4⟩
theorem TrAt.ptr {w : World} {v : Value} {T : Tr} (h : TrAt w v T) : ∃ p, v = .pointer p := by
  cases T with
  | leaf => exact ⟨_, h⟩
  | node x l r =>
    obtain ⟨g, pl, pr, h1, _⟩ := h
    exact ⟨_, h1⟩
theorem enc_in (x : Nd) (a b : Value) (j : Nat) (u : Value) (hu : x.enc.toArray[j]? = some u) : (x.enc ++ [a, b]).toArray[0 + j]? = some u := by
  rw [Nat.zero_add, List.getElem?_toArray] at *
  have hj := (List.getElem?_eq_some_iff.1 hu).1
  rw [List.getElem?_append_left hj]
  exact hu
def zTr : List Value := zNd ++ [Value.pointer none, Value.pointer none]
theorem built_tree (p q : Option Addr) : Try.prog.built 173 [(1, .pointer p), (2, .pointer q)] = some (zNd ++ [Value.pointer p, Value.pointer q]).toArray := by
  have hb : ∀ parts, Try.prog.built 173 parts = Instr.fill (fun i => #[(0, 66), (66, 1), (67, 1)][i]?) zTr.toArray parts := fun parts => by kernel_rfl
  have e1 : splice zTr.toArray 66 [.pointer p] = (zNd ++ [Value.pointer p] ++ [Value.pointer none]).toArray := by
    have := splice_next zNd [Value.pointer none, Value.pointer none] [.pointer p] (o := 66) rfl
    exact this
  have e2 : splice (zNd ++ [Value.pointer p] ++ [Value.pointer none]).toArray 67 [.pointer q] = (zNd ++ [Value.pointer p, Value.pointer q]).toArray := by
    have := splice_next (zNd ++ [Value.pointer p]) [.pointer none] [.pointer q] (o := 67) rfl
    rw [show ([Value.pointer none]).drop ([Value.pointer q]).length = [] from rfl, List.append_nil, List.append_assoc] at this
    exact this
  have c1 : (Value.pointer p).cells.toList = [.pointer p] := rfl
  have c2 : (Value.pointer q).cells.toList = [.pointer q] := rfl
  have z1 : zTr.length = 68 := rfl
  rw [hb, fill_one _ _ 1 66 1 _ _ rfl rfl (by rw [List.size_toArray, z1]; decide), c1, e1, fill_one _ _ 2 67 1 _ _ rfl rfl (by rw [List.size_toArray, List.length_append, List.length_append]; exact Nat.le_refl 68), c2, e2, Instr.fill]
set_option maxHeartbeats 1000000 in
set_option maxRecDepth 100000 in
theorem treeKey_any (T : Tr) (hok : T.ok) (v : Value) (w : World) (h : TrAt w v T) : Calls Try.prog 86 #[v] w fun e w' => e = .returned (.agg (numsA .u8 T.key)) ∧ Ext w w' := by
  cases T with
  | leaf =>
    obtain rfl := h
    have hk := emptyL_ok.1
    show Calls Try.prog 86 #[.pointer none] w fun e w' => e = .returned (.agg (numsA .u8 emptyL)) ∧ Ext w w'
    go_enter Try.func86, Try.ntmps86
    go_wp2_with fail
    refine (implEmptyMapKey_any _).mono ?_
    rintro e w1 ⟨rfl, hx⟩
    have B2 := Lib.hid ((Blk.new w 53 _).ext hx)
    have XW := Lib.hid ((ext_alloc w _).trans hx)
    clear hx
    go_wp2_with (refine wpl_storeN B2.out aggKey hk rfl rfl _ _ rfl rfl rfl rfl ?_)
    refine bodyPost_ret (results_blk rfl _ rfl aggKey hk (B2.out.setRow _)) rfl ?_
    exact ⟨rfl, XW.out.setRow (Nat.le_refl _) _⟩
  | node x l r =>
    obtain ⟨g, pl, pr, rfl, hb, _⟩ := h
    obtain ⟨hx0, he, _⟩ := hok
    have HB := Lib.hid hb
    have HX0 := Lib.hid hx0
    have HE := Lib.hid he
    have hk := (hashL_ok 5 (nodeL x)).1
    have hsz := (Nd.st hx0).size
    clear hb hx0 he
    show Calls Try.prog 86 #[.pointer (some ⟨g, 0, none⟩)] w fun e w' => e = .returned (.agg (numsA .u8 (hashL 5 (nodeL x)))) ∧ Ext w w'
    go_enter Try.func86, Try.ntmps86
    go_wp2_with (refine wpl_loadP (off := 0) (sub := x.enc.toArray) (HB.out.alloc _) aggNodeI hsz (enc_in x pl pr) rfl _ rfl rfl ?_)
    refine (nodeKey_any x HX0.out HE.out _).mono ?_
    rintro e w1 ⟨rfl, hx⟩
    have B2 := Lib.hid ((Blk.new w 53 _).ext hx)
    have XW := Lib.hid ((ext_alloc w _).trans hx)
    clear hx
    go_wp2_with (refine wpl_storeN B2.out aggKey hk rfl rfl _ _ rfl rfl rfl rfl ?_)
    refine bodyPost_ret (results_blk rfl _ rfl aggKey hk (B2.out.setRow _)) rfl ?_
    exact ⟨rfl, XW.out.setRow (Nat.le_refl _) _⟩
def mapKR (L : List En) : List Int × Int := if okE L then ((trF L.length L).key, 0) else (List.replicate 32 0, 1)
theorem mapKR_ok (L : List En) : K32 (mapKR L).1 := by unfold mapKR; split; exact Tr.key_ok _; exact zero_ok
set_option maxHeartbeats 1000000 in
set_option maxRecDepth 100000 in
theorem specMapKey_any (v : Value) (L : List En) (w : World) (S : Nat → Prop) (h : RdL tEnt w S v L) :
    Calls Try.prog 79 #[v] w fun e w' => e = .returned (.tuple #[.agg (numsA .u8 (mapKR L).1), .int .i64 (mapKR L).2]) ∧ Ext w w' := by
  have H := Lib.hid h
  have hok := h.choose_spec.choose_spec.2.2.2.2
  have hc := fun W hW => l04Ok_any v L W S hW
  have hn := fun (hb : okE L = true) W hW => l04Nodes_any L.length v L (Nat.le_refl _) (by have := hb; rw [okE_eq, Bool.and_eq_true] at this; simpa using this.2) (good_of hb hok) W S hW
  obtain ⟨A, cap, rfl, hcap, hlen, _⟩ := h
  cases hb : okE L with
  | false =>
    simp only [mapKR, hb, Bool.false_eq_true, if_false]
    simp only [hb] at hc
    clear hb hn
    go_enter Try.func79, Try.ntmps79
    go_wp2_with fail
    refine (hc _ (H.out.ext (by decide) (ext_alloc _ _))).mono ?_
    rintro e w1 ⟨rfl, hx⟩
    have B2 := Lib.hid ((Blk.new w 53 _).ext hx)
    have XW := Lib.hid ((ext_alloc w _).trans hx)
    clear hx
    go_wp2_with (refine wpl_storeN (xs := List.replicate 32 0) B2.out aggKey rfl rfl rfl _ _ rfl rfl rfl rfl ?_)
    refine bodyPost_ret (results_blk2 rfl _ rfl aggKey rfl (B2.out.setRow _) rfl) rfl ?_
    exact ⟨rfl, XW.out.setRow (Nat.le_refl _) _⟩
  | true =>
    replace hn := hn hb
    simp only [mapKR, hb, if_true]
    simp only [hb] at hc
    clear hb
    obtain ⟨T, hT⟩ : ∃ T, trF L.length L = T := ⟨_, rfl⟩
    rw [hT] at hn ⊢
    have hk := T.key_ok.1
    clear hT
    go_enter Try.func79, Try.ntmps79
    go_wp2_with fail
    refine (hc _ (H.out.ext (by decide) (ext_alloc _ _))).mono ?_
    rintro e w1 ⟨rfl, hx⟩
    have B2 := Lib.hid ((Blk.new w 53 _).ext hx)
    have XW := Lib.hid ((ext_alloc w _).trans hx)
    clear hx
    go_wp2_with fail
    refine (hn _ (H.out.ext (by decide) XW.out)).mono ?_
    rintro e w2 ⟨v2, rfl, ho, hx⟩
    replace B2 := Lib.hid (B2.out.ext hx)
    replace XW := Lib.hid (XW.out.trans hx)
    obtain ⟨A2, n2, c2, rfl⟩ := ho.shape3
    clear hx ho
    go_wp2_with (first
      | (refine wpl_storeNew aggKey hk rfl rfl _ _ rfl rfl rfl rfl ?_)
      | (refine wpl_loadN (Blk.new w2 53 (numsA .u8 T.key)) aggKey hk rfl _ rfl rfl ?_)
      | (refine wpl_storeN (B2.out.alloc _) aggKey hk rfl rfl _ _ rfl rfl rfl rfl ?_))
    refine bodyPost_ret (results_blk2 rfl _ rfl aggKey hk ((B2.out.alloc _).setRow _) rfl) rfl ?_
    exact ⟨rfl, (XW.out.alloc _).setRow (Nat.le_refl _) _⟩
/-- the tree that grows of entries with their priorities -/
def GrowC (f : Nat) : Prop := ∀ (v u : Value) (L : List En), L.length ≤ f → L.length ≤ 64 → good L → ∀ (w : World) (S S' : Nat → Prop), RdL tEnt w S v L → RdL tKey w S' u (prios L) →
    Calls Try.prog 110 #[v, u] w fun e w' => ∃ v', e = .returned v' ∧ TrAt w' v' (trF f L) ∧ Ext w w'
set_option maxHeartbeats 1000000 in
set_option maxRecDepth 100000 in
theorem grow_nil (f : Nat) (v u : Value) (L : List En) (h0 : L.length = 0) (w : World) (S S' : Nat → Prop) (h : RdL tEnt w S v L) (h' : RdL tKey w S' u (prios L)) :
    Calls Try.prog 110 #[v, u] w fun e w' => ∃ v', e = .returned v' ∧ TrAt w' v' (trF f L) ∧ Ext w w' := by
  rw [trF_nil _ _ h0]
  obtain ⟨A, cap, rfl, hcap, hlen, _⟩ := h
  obtain ⟨A', cap', rfl, hcap', hlen', _⟩ := h'
  rw [h0]
  clear h0 hcap hlen hcap' hlen'
  go_enter Try.func110, Try.ntmps110
  go_wp2
  go_ret
  exact ⟨_, rfl, rfl, Ext.refl _⟩
theorem yields_loadS {P : Program} {ops : Array Oper} {op : Oper} {a : Act} {S : World → Prop} {t : Nat} (g o : Nat) (cs : List Value) (ht : Agg P t cs.length) (hc : ∀ W, S W → ∀ j u, cs[j]? = some u → W.cell? ⟨g, o + j, none⟩ = some u) (hw : Region.wanted op (yielded ops a.tmps) = true) (x : Operand) (ho : op.op = .load t x) (hx : a.eval x = .pointer (some ⟨g, o, none⟩)) :
    YieldsIf P ops S op (.agg cs.toArray) a := Or.inl ⟨hw, fun W hW => by
  have hl := run_loadVar_at (P := P) (w := W) (t := t) ⟨g, o, none⟩ cs ht (fun j u hu => by rw [Addr.add_lit]; exact hc W hW j u hu)
  unfold execOp
  simp only [ho, hx, Instr.loadAt, Instr.sureAddr, Sem.run_bind, Sem.run_pure, Result.andThen_ok, hl]⟩
theorem enc_66 {x : Nd} (h : x.ok) (p q : Value) : (x.enc ++ [p, q]).toArray[66]? = some p := by
  rw [List.getElem?_toArray, List.getElem?_append_right (by rw [Nd.enc_length h]; decide), Nd.enc_length h]; rfl
theorem enc_67 {x : Nd} (h : x.ok) (p q : Value) : (x.enc ++ [p, q]).toArray[67]? = some q := by
  rw [List.getElem?_toArray, List.getElem?_append_right (by rw [Nd.enc_length h]; decide), Nd.enc_length h]; rfl
theorem splice_tr {x : Nd} (h : x.ok) (p q : Value) : splice (zNd ++ [p, q]).toArray 0 x.enc.toArray.toList = (x.enc ++ [p, q]).toArray := by
  have := splice_next [] (zNd ++ [p, q]) x.enc (o := 0) rfl
  rw [Nd.enc_length h, show (zNd ++ [p, q]).drop 66 = [p, q] from rfl] at this
  simpa using this
theorem RdL.headN {α : Type} {T : Ty α} {w : World} {S : Nat → Prop} {A : Option Addr} {xs : List α} {n cap : Nat} (h : RdL T w S (.slice A n cap) xs) (hn : n = xs.length) {k : Nat} (hk : k ≤ n) : RdL T w S (.slice A k cap) (xs.take k) := by
  subst hn; exact h.head hk
theorem RdL.cutN {α : Type} {T : Ty α} {w : World} {S : Nat → Prop} {A : Option Addr} {xs : List α} {n cap : Nat} (h : RdL T w S (.slice A n cap) xs) (hn : n = xs.length) {k : Nat} (hk : k ≤ n) :
    RdL T w S (.slice (if cap = k then A else A.map (·.add (k * T.sz))) (n - k) (cap - k)) (xs.drop k) := by
  subst hn; exact h.cut hk
set_option maxHeartbeats 1000000 in
set_option maxRecDepth 100000 in
theorem grow_cons (f : Nat) (ih : GrowC f) (A A' : Option Addr) (cap cap' : Nat) (L : List En) (h0 : ¬ L.length = 0) (hf : L.length ≤ f + 1) (h64 : L.length ≤ 64) (hg : good L) (w : World) (S S' : Nat → Prop) (h : RdL tEnt w S (.slice A L.length cap) L) (h' : RdL tKey w S' (.slice A' L.length cap') (prios L)) :
    Calls Try.prog 110 #[.slice A L.length cap, .slice A' L.length cap'] w fun e w' => ∃ v', e = .returned v' ∧ TrAt w' v' (trF (f + 1) L) ∧ Ext w w' := by
  have hlt := topE_lt (L := L) (by omega)
  have hND := trF_ok (f + 1) L hg
  rw [trF_cons _ _ h0] at hND ⊢
  have HTE := Lib.hid (show topE L = topI (prios L) L.length from rfl)
  obtain ⟨k, hk⟩ : ∃ k, topE L = k := ⟨_, rfl⟩
  simp only [hk] at hlt hND ⊢
  rw [hk] at HTE
  rw [gE_lt hlt] at hND ⊢
  have H := Lib.hid h
  have HP := Lib.hid h'
  obtain ⟨A1, cap1, e1, hcap, hlen, hrd, hok⟩ := h
  injection e1 with e1 e2 e3
  subst e1 e3
  clear e2
  obtain ⟨A1, cap1, e1, hcap', hlen', hrd', hok'⟩ := h'
  injection e1 with e1 e2 e3
  subst e1 e3
  clear e2
  have hpl := prios_length L
  rw [hpl] at hcap'
  obtain ⟨gl, ol, rfl, hs0, hc⟩ := hrd.elem hok k hlt
  obtain ⟨g, o, rfl, hs1, hc1⟩ := hrd'.elem hok' 0 (by omega)
  have ihl := fun (W : World) (hW : RdL tEnt W S (.slice (some ⟨gl, ol, none⟩) L.length cap) L) (hW' : RdL tKey W S' (.slice (some ⟨g, o, none⟩) L.length cap') (prios L)) => ih _ _ (L.take k) (by rw [List.length_take]; omega) (by rw [List.length_take]; omega) (hg.take k) W S S' (RdL.headN (k := k) (show RdL tEnt W S (.slice (some ⟨gl, ol, none⟩) L.length cap) L from hW) rfl (by omega)) (by rw [prios_take]; exact RdL.headN (k := k) (show RdL tKey W S' (.slice (some ⟨g, o, none⟩) L.length cap') (prios L) from hW') hpl.symm (by omega))
  have ihr := fun (W : World) (hW : RdL tEnt W S (.slice (some ⟨gl, ol, none⟩) L.length cap) L) (hW' : RdL tKey W S' (.slice (some ⟨g, o, none⟩) L.length cap') (prios L)) => ih _ _ (L.drop (k + 1)) (by rw [List.length_drop]; omega) (by rw [List.length_drop]; omega) (hg.drop (k + 1)) W S S' (RdL.cutN (k := k + 1) (show RdL tEnt W S (.slice (some ⟨gl, ol, none⟩) L.length cap) L from hW) rfl (by omega)) (by rw [prios_drop]; exact RdL.cutN (k := k + 1) (show RdL tKey W S' (.slice (some ⟨g, o, none⟩) L.length cap') (prios L) from hW') hpl.symm (by omega))
  simp only [Option.map_some, Addr.add_lit, show tEnt.sz = 2 from rfl, show tKey.sz = 32 from rfl] at ihr
  obtain ⟨TL, hTL⟩ : ∃ T, trF f (L.take k) = T := ⟨_, rfl⟩
  obtain ⟨TR, hTR⟩ : ∃ T, trF f (L.drop (k + 1)) = T := ⟨_, rfl⟩
  simp only [hTL] at ihl hND ⊢
  simp only [hTR] at ihr hND ⊢
  have HND := Lib.hid hND.1
  have HOKL := Lib.hid hND.2.2.2.2.1
  have HOKR := Lib.hid hND.2.2.2.2.2
  have KL := Lib.hid TL.key_ok.1
  have KR := Lib.hid TR.key_ok.1
  have hc0 : ∀ W, Ext w W → ∀ j u, ([Value.string L[k].1, .string L[k].2] : List Value)[j]? = some u → W.cell? ⟨gl, ol + k * 2 + j, none⟩ = some u := fun W hW j u hu => hW.cell (hc j u hu)
  have HC := Lib.hid hc0
  obtain ⟨ps, hps⟩ : ∃ ps, prios L = ps := ⟨_, rfl⟩
  rw [hps] at hpl hrd' hok' HP HTE
  simp only [hps] at ihl ihr
  have Hrd' := Lib.hid hrd'
  have Hok' := Lib.hid hok'
  have HPL := Lib.hid hpl
  have HTK := Lib.hid (show ∀ i, i ≤ L.length → topI ps i < L.length from fun i hi => by
    rcases Nat.eq_zero_or_pos i with rfl | h
    · rw [topI_zero]; omega
    · have := topI_lt ps i h; omega)
  have HTS := Lib.hid (topI_succ ps)
  have HT0 := Lib.hid (topI_zero ps)
  have hi7 : ((L.length : Int) == 0) = false := by rw [beq_eq_false_iff_ne]; omega
  have hi8 : (L.length : Int) ≤ (cap : Int) := by omega
  have hi9 : (L.length : Int) ≤ (cap' : Int) := by omega
  clear hc hc1 hrd hok hrd' hok' hTL hTR hk hND hc0 hpl hps hs0 hs1
  go_enter Try.func110, Try.ntmps110
  go_wp2
  go_loopw [5, 14] (fun b i wr => ∃ j : Nat, j ≤ L.length ∧ i = .int .i64 j ∧ b = .int .i64 (topI ps j) ∧ Ext w wr) (fun _ i _ => L.length - (intOf i).toNat)
  case atStart => exact ⟨0, by omega, rfl, by rw [HT0.out]; rfl, Ext.refl _⟩
  case round =>
    obtain ⟨i, hi, rfl, rfl, hx⟩ := hrel
    have HX := Lib.hid hx
    clear hx
    obtain ⟨t, ht⟩ : ∃ t, topI ps i = t := ⟨_, rfl⟩
    have htl := HTK.out i hi
    have hts := HTS.out i
    rw [ht] at htl hts ⊢
    have HT := Lib.hid ht
    clear ht
    by_cases hlt2 : i < L.length
    · have hil : i < ps.length := by rw [HPL.out]; exact hlt2
      have htl2 : t < ps.length := by rw [HPL.out]; exact htl
      rw [gK_lt hil, gK_lt htl2] at hts
      have HTSI := Lib.hid hts
      clear hts
      obtain ⟨g2, o2, e2, hs2, hci⟩ := Hrd'.out.elem Hok'.out i hil
      injection e2 with e2
      injection e2 with e3 e4
      subst e3 e4
      obtain ⟨g2, o2, e2, hs2, hct⟩ := Hrd'.out.elem Hok'.out t htl2
      injection e2 with e2
      injection e2 with e3 e4
      subst e3 e4
      have HKI := Lib.hid (show K32 ps[i] from Hok'.out _ (List.getElem_mem hil))
      have HKT := Lib.hid (show K32 ps[t] from Hok'.out _ (List.getElem_mem htl2))
      have HDI := Lib.hid (show ∀ j u, (nums .u8 ps[i])[j]? = some u → wr.cell? ⟨g, o + i * 32 + j, none⟩ = some u from fun j u hu => HX.out.cell (hci j u hu))
      have HDT := Lib.hid (show ∀ j u, (nums .u8 ps[t])[j]? = some u → (wr.alloc (.cells (numsA .u8 ps[i]) 53)).cell? ⟨g, o + t * 32 + j, none⟩ = some u from fun j u hu => (HX.out.alloc _).cell (hct j u hu))
      have B7 := Lib.hid (Blk.new wr 53 (numsA .u8 ps[i]))
      have hj : (0 : Int) ≤ (i : Int) := by omega
      have hj2 : (i : Int) < (L.length : Int) := by omega
      have hj3 : (0 : Int) ≤ (t : Int) := by omega
      have hj4 : (t : Int) < (L.length : Int) := by omega
      clear hci hct
      go_wp2_with (first
        | (refine wpl_load ⟨g, o + i * 32, none⟩ (nums .u8 ps[i]) (by rw [nums_length, HKI.out.1]; exact aggKey) rfl _ rfl rfl (fun j u hu => by rw [Addr.add_lit]; exact HDI.out j u hu) ?_)
        | (refine wpl_storeNew aggKey HKI.out.1 rfl rfl _ _ rfl rfl rfl rfl ?_))
      refine wp_region_held_drew (S := fun W => Ext (wr.alloc (.cells (numsA .u8 ps[i]) 53)) W) (by kernel_rfl) (Ext.refl _).drew (fun hHeld => ?_)
      refine tkI 0 (v := (.agg (numsA .u8 ps[i]))) (by simp only [List.getElem?_toArray, List.getElem?_cons_zero, List.getElem?_cons_succ]; rfl) (by kernel_rfl) (by exact fun _ _ _ h => h) (by refine yields_loadB B7.out aggKey (sizeN HKI.out.1) ?_ _ rfl rfl; rfl) (by assumption) ?_
      try simp only [Act.put, List.setIfInBounds_toArray, List.set_cons_zero, List.set_cons_succ]
      iterate 3
        refine tkD 0 (by simp only [List.size_toArray, List.length_cons, List.length_nil]; rfl) (by simp only [List.getElem?_toArray, List.getElem?_cons_zero, List.getElem?_cons_succ]; rfl) (by kernel_rfl) (by exact fun _ _ _ h => h) (by first | (exact Or.inl ⟨by rfl, by intro w hSw; (try dsimp only at hSw); go_simp; with_reducible rfl⟩) | (exact Or.inr ⟨by rfl, by rfl⟩)) (by assumption) ?_
        try simp only [Act.put, List.setIfInBounds_toArray, List.set_cons_zero, List.set_cons_succ]
      refine tkI 4 (v := (.agg (numsA .u8 ps[t]))) (by simp only [List.getElem?_toArray, List.getElem?_cons_zero, List.getElem?_cons_succ]; rfl) (by kernel_rfl) (by exact fun _ _ _ h => h) (by refine yields_loadR g (o + t * 32) (nums .u8 ps[t]) (by rw [nums_length, HKT.out.1]; exact aggKey) HDT.out ?_ _ rfl rfl; rfl) (by assumption) ?_
      try simp only [Act.put, List.setIfInBounds_toArray, List.set_cons_zero, List.set_cons_succ]
      refine wpAnyH_ready (rs := [5]) (by kernel_rfl) (by simp) (AllReadyH.cons (o := ?oy65) ?hy65 (fun K hK => ?sy65) AllReadyH.nil)
      case hy65 => simp only [List.getElem?_toArray, List.getElem?_cons_zero, List.getElem?_cons_succ]; rfl
      go_simp
      refine (compareKeys_any ps[i] ps[t] HKI.out HKT.out _).mono ?_
      rintro e w2 ⟨rfl, hx⟩
      have hH2 := hHeld.trans hx
      refine hK.out _ _ hH2 (fun _ => ?_)
      clear hHeld hK K
      have hHeld := hH2
      clear hH2
      try simp only [Act.put, List.setIfInBounds_toArray, List.set_cons_zero, List.set_cons_succ]
      refine tkI 6 (by simp only [List.getElem?_toArray, List.getElem?_cons_zero, List.getElem?_cons_succ]; rfl) (by kernel_rfl) (by exact fun _ _ _ h => h) (by first | (exact Or.inl ⟨by rfl, by intro w hSw; (try dsimp only at hSw); go_simp; with_reducible rfl⟩) | (exact Or.inr ⟨by rfl, by rfl⟩)) (by assumption) ?_
      try simp only [Act.put, List.setIfInBounds_toArray, List.set_cons_zero, List.set_cons_succ]
      refine wpAnyH_done (by kernel_rfl) ?_ _
      have HX2 := Lib.hid ((HX.out.alloc (.cells (numsA .u8 ps[i]) 53)).trans hHeld)
      clear hHeld
      by_cases hcm : 0 < cmpL ps[i] ps[t]
      · have HS := Lib.hid (show topI ps (i + 1) = i by rw [HTSI.out, if_pos hcm])
        go_wp2
        go_roundw
        case rel => exact ⟨i + 1, by omega, by go_num, by rw [HS.out], HX2.out⟩
        case measure => simp [intOf]; omega
      · have HS := Lib.hid (show topI ps (i + 1) = t by rw [HTSI.out, if_neg hcm])
        go_wp2
        go_roundw
        case rel => exact ⟨i + 1, by omega, by go_num, by rw [HS.out], HX2.out⟩
        case measure => simp [intOf]; omega
    · obtain rfl : i = L.length := by omega
      have htk : t = k := by rw [← HT.out, HTE.out]
      subst htk
      clear hts htl HTK HTS HT0 hi
      have q1 : (t : Int) ≤ (cap : Int) := by omega
      have q2 : (t : Int) ≤ (cap' : Int) := by omega
      have q3 : (t : Int) + 1 ≤ (L.length : Int) := by omega
      have q4 : (t : Int) + 1 ≤ (cap : Int) := by omega
      have q5 : (t : Int) + 1 ≤ (cap' : Int) := by omega
      have q6 : (0 : Int) ≤ (t : Int) + 1 := by omega
      have q7 : (0 : Int) ≤ (t : Int) := by omega
      have q8 : IntKind.i64.wrap ((t : Int) + 1) = (t : Int) + 1 := by rw [IntKind.wrap_i64]; omega
      go_wp2_with fail
      refine wp_region_held_drew (S := fun W => Ext wr W) (by kernel_rfl) (Ext.refl _).drew (fun hHeld => ?_)
      iterate 6
        refine tkD 0 (by simp only [List.size_toArray, List.length_cons, List.length_nil]; rfl) (by simp only [List.getElem?_toArray, List.getElem?_cons_zero, List.getElem?_cons_succ]; rfl) (by kernel_rfl) (by exact fun _ _ _ h => h) (by first | (exact Or.inl ⟨by rfl, by intro w hSw; (try dsimp only at hSw); go_simp; with_reducible rfl⟩) | (exact Or.inr ⟨by rfl, by rfl⟩)) (by assumption) ?_
        try simp only [Act.put, List.setIfInBounds_toArray, List.set_cons_zero, List.set_cons_succ]
      iterate 8
        refine tkD 1 (by simp only [List.size_toArray, List.length_cons, List.length_nil]; rfl) (by simp only [List.getElem?_toArray, List.getElem?_cons_zero, List.getElem?_cons_succ]; rfl) (by kernel_rfl) (by exact fun _ _ _ h => h) (by first | (exact Or.inl ⟨by rfl, by intro w hSw; (try dsimp only at hSw); go_simp; with_reducible rfl⟩) | (exact Or.inr ⟨by rfl, by rfl⟩)) (by assumption) ?_
        try simp only [Act.put, List.setIfInBounds_toArray, List.set_cons_zero, List.set_cons_succ]
      refine wpAnyH_ready (rs := [6]) (by kernel_rfl) (by simp) (AllReadyH.cons (o := ?oy226) ?hy226 (fun K hK => ?sy226) AllReadyH.nil)
      case hy226 => simp only [List.getElem?_toArray, List.getElem?_cons_zero, List.getElem?_cons_succ]; rfl
      go_simp
      refine (ihl _ (H.out.ext (by decide) (HX.out.trans hHeld)) (HP.out.ext (by decide) (HX.out.trans hHeld))).mono ?_
      rintro e wl ⟨vl, rfl, htl, hx⟩
      obtain ⟨pl, rfl⟩ := htl.ptr
      have HTL := Lib.hid htl
      clear htl
      have hH2 := hHeld.trans hx
      refine hK.out _ _ hH2 (fun _ => ?_)
      clear hHeld hK K
      have hHeld := hH2
      clear hH2
      try simp only [Act.put, List.setIfInBounds_toArray, List.set_cons_zero, List.set_cons_succ]
      refine wpAnyH_ready (rs := [15]) (by kernel_rfl) (by simp) (AllReadyH.cons (o := ?oy2315) ?hy2315 (fun K hK => ?sy2315) AllReadyH.nil)
      case hy2315 => simp only [List.getElem?_toArray, List.getElem?_cons_zero, List.getElem?_cons_succ]; rfl
      go_simp
      refine (ihr _ (H.out.ext (by decide) (HX.out.trans hHeld)) (HP.out.ext (by decide) (HX.out.trans hHeld))).mono ?_
      rintro e wR ⟨vr, rfl, htr, hx⟩
      obtain ⟨pr, rfl⟩ := htr.ptr
      have HTR := Lib.hid htr
      replace HTL := Lib.hid (HTL.out.ext hx)
      clear htr
      have hH2 := hHeld.trans hx
      refine hK.out _ _ hH2 (fun _ => ?_)
      clear hHeld hK K
      have hHeld := hH2
      clear hH2
      try simp only [Act.put, List.setIfInBounds_toArray, List.set_cons_zero, List.set_cons_succ]
      refine tkI 16 (v := (.agg (zNd ++ [Value.pointer pl, Value.pointer pr]).toArray)) (by simp only [List.getElem?_toArray, List.getElem?_cons_zero, List.getElem?_cons_succ]; rfl) (by kernel_rfl) (by exact fun _ _ _ h => h) (by refine yields_build ?_ rfl (built_tree pl pr); rfl) (by assumption) ?_
      try simp only [Act.put, List.setIfInBounds_toArray, List.set_cons_zero, List.set_cons_succ]
      refine wpAnyH_ready (rs := [17]) (by kernel_rfl) (by simp) (AllReadyH.cons (o := ?oy2517) ?hy2517 (fun K hK => ?sy2517) AllReadyH.nil)
      case hy2517 => simp only [List.getElem?_toArray, List.getElem?_cons_zero, List.getElem?_cons_succ]; rfl
      refine stp_box rfl _ rfl rfl ?_
      have HXR := Lib.hid (HX.out.trans hHeld)
      have hH2 := hHeld.alloc (.cells (zNd ++ [Value.pointer pl, Value.pointer pr]).toArray 173)
      refine hK.out _ _ hH2 (fun _ => ?_)
      clear hK K hH2 hHeld
      try simp only [Act.put, List.setIfInBounds_toArray, List.set_cons_zero, List.set_cons_succ]
      refine tkI 18 (by simp only [List.getElem?_toArray, List.getElem?_cons_zero, List.getElem?_cons_succ]; rfl) (by kernel_rfl) (by exact fun _ _ _ h => h) (by first | (exact Or.inl ⟨by rfl, by intro w hSw; (try dsimp only at hSw); go_simp; with_reducible rfl⟩) | (exact Or.inr ⟨by rfl, by rfl⟩)) (by assumption) ?_
      try simp only [Act.put, List.setIfInBounds_toArray, List.set_cons_zero, List.set_cons_succ]
      refine wpAnyH_done (by kernel_rfl) ?_ _
      obtain ⟨wb, hwb⟩ : ∃ wb, wR.alloc (.cells (zNd ++ [Value.pointer pl, Value.pointer pr]).toArray 173) = wb := ⟨_, rfl⟩
      obtain ⟨g9, hg9⟩ : ∃ g9, wR.heap.size = g9 := ⟨_, rfl⟩
      have HBT := Lib.hid (show Blk wb g9 173 (zNd ++ [Value.pointer pl, Value.pointer pr]).toArray by rw [← hwb, ← hg9]; exact Blk.new wR _ _)
      have HXb := Lib.hid (show Ext wR wb by rw [← hwb]; exact ext_alloc _ _)
      have HXB := Lib.hid (HXR.out.trans HXb.out)
      have HG9 := Lib.hid (show w.heap.size ≤ g9 by rw [← hg9]; exact HXR.out.size)
      have HGR := Lib.hid (show wR.heap.size ≤ g9 by rw [← hg9]; exact Nat.le_refl _)
      have HR66 := Lib.hid (show (zNd ++ [Value.pointer pl, Value.pointer pr]).toArray[66]? = some (.pointer pl) from rfl)
      have HR67 := Lib.hid (show (zNd ++ [Value.pointer pl, Value.pointer pr]).toArray[67]? = some (.pointer pr) from rfl)
      have HRS := Lib.hid (show (zNd ++ [Value.pointer pl, Value.pointer pr]).toArray.size = 68 from rfl)
      have HTLb := Lib.hid (HTL.out.ext HXb.out)
      have HTRb := Lib.hid (HTR.out.ext HXb.out)
      simp only [hwb, hg9]
      clear hwb hg9 ihl ihr
      have q9 : (t : Int) < (L.length : Int) := by omega
      generalize (if cap = t + 1 then (some (⟨gl, ol, none⟩ : Addr)) else some (⟨gl, ol + (t + 1) * 2, none⟩ : Addr)) = junk1
      generalize (if cap' = t + 1 then (some (⟨g, o, none⟩ : Addr)) else some (⟨g, o + (t + 1) * 32, none⟩ : Addr)) = junk2
      go_wp2_with fail
      refine wp_region_held_drew (S := fun W => Ext w W ∧ W.cell? ⟨g9, 66, none⟩ = some (.pointer pl) ∧ W.cell? ⟨g9, 67, none⟩ = some (.pointer pr)) (by kernel_rfl) ⟨HXB.out.drew, (HBT.out.drewN 1).at_ 66 HR66.out, (HBT.out.drewN 1).at_ 67 HR67.out⟩ (fun hHeld => ?_)
      have HE := Lib.hid ((Ext.refl wb).drew)
      generalize wb.drew = w0 at hHeld HE ⊢
      iterate 4
        refine tkD 0 (by simp only [List.size_toArray, List.length_cons, List.length_nil]; rfl) (by simp only [List.getElem?_toArray, List.getElem?_cons_zero, List.getElem?_cons_succ]; rfl) (by kernel_rfl) (by exact fun _ _ _ h => h) (by first | (exact Or.inl ⟨by rfl, by intro w hSw; (try dsimp only at hSw); go_simp; with_reducible rfl⟩) | (exact Or.inr ⟨by rfl, by rfl⟩)) (by assumption) ?_
        try simp only [Act.put, List.setIfInBounds_toArray, List.set_cons_zero, List.set_cons_succ]
      refine tkI 4 (by simp only [List.getElem?_toArray, List.getElem?_cons_zero, List.getElem?_cons_succ]; rfl) (by kernel_rfl) (by exact fun _ _ _ h => h) (by exact Or.inl ⟨by rfl, by intro w hSw; have c66 := hSw.2.1; have c67 := hSw.2.2; clear hSw; go_simp; with_reducible rfl⟩) (by assumption) ?_
      try simp only [Act.put, List.setIfInBounds_toArray, List.set_cons_zero, List.set_cons_succ]
      iterate 3
        refine tkD 1 (by simp only [List.size_toArray, List.length_cons, List.length_nil]; rfl) (by simp only [List.getElem?_toArray, List.getElem?_cons_zero, List.getElem?_cons_succ]; rfl) (by kernel_rfl) (by exact fun _ _ _ h => h) (by first | (exact Or.inl ⟨by rfl, by intro w hSw; (try dsimp only at hSw); go_simp; with_reducible rfl⟩) | (exact Or.inr ⟨by rfl, by rfl⟩)) (by assumption) ?_
        try simp only [Act.put, List.setIfInBounds_toArray, List.set_cons_zero, List.set_cons_succ]
      refine tkI 9 (by simp only [List.getElem?_toArray, List.getElem?_cons_zero, List.getElem?_cons_succ]; rfl) (by kernel_rfl) (by exact fun _ _ _ h => h) (by exact Or.inl ⟨by rfl, by intro w hSw; have c66 := hSw.2.1; have c67 := hSw.2.2; clear hSw; go_simp; with_reducible rfl⟩) (by assumption) ?_
      try simp only [Act.put, List.setIfInBounds_toArray, List.set_cons_zero, List.set_cons_succ]
      iterate 3
        refine tkD 2 (by simp only [List.size_toArray, List.length_cons, List.length_nil]; rfl) (by simp only [List.getElem?_toArray, List.getElem?_cons_zero, List.getElem?_cons_succ]; rfl) (by kernel_rfl) (by exact fun _ _ _ h => h) (by first | (exact Or.inl ⟨by rfl, by intro w hSw; (try dsimp only at hSw); go_simp; with_reducible rfl⟩) | (exact Or.inr ⟨by rfl, by rfl⟩)) (by assumption) ?_
        try simp only [Act.put, List.setIfInBounds_toArray, List.set_cons_zero, List.set_cons_succ]
      refine tkI 14 (v := (.agg #[.string L[t].1, .string L[t].2])) (by simp only [List.getElem?_toArray, List.getElem?_cons_zero, List.getElem?_cons_succ]; rfl) (by kernel_rfl) (by exact fun _ _ _ h => h) (by refine yields_loadS gl (ol + t * 2) [.string L[t].1, .string L[t].2] aggEntryI (fun W hW => HC.out W hW.1) ?_ _ rfl rfl; rfl) (by assumption) ?_
      try simp only [Act.put, List.setIfInBounds_toArray, List.set_cons_zero, List.set_cons_succ]
      refine wpAnyH_ready (rs := [5]) (by kernel_rfl) (by simp) (AllReadyH.cons (o := ?oy405) ?hy405 (fun K hK => ?sy405) AllReadyH.nil)
      case hy405 => simp only [List.getElem?_toArray, List.getElem?_cons_zero, List.getElem?_cons_succ]; rfl
      go_simp
      refine (treeKey_any TL HOKL.out _ _ (HTLb.out.ext HE.out)).mono ?_
      rintro e wc ⟨rfl, hx⟩
      replace HE := Lib.hid (HE.out.trans hx)
      have hH2 : Ext w wc ∧ World.cell? wc ⟨g9, 66, none⟩ = some (.pointer pl) ∧ World.cell? wc ⟨g9, 67, none⟩ = some (.pointer pr) := ⟨hHeld.1.trans hx, hx.cell hHeld.2.1, hx.cell hHeld.2.2⟩
      refine hK.out _ _ hH2 (fun _ => ?_)
      clear hHeld hK K hx
      have hHeld := hH2
      clear hH2
      try simp only [Act.put, List.setIfInBounds_toArray, List.set_cons_zero, List.set_cons_succ]
      refine wpAnyH_ready (rs := [10]) (by kernel_rfl) (by simp) (AllReadyH.cons (o := ?oy4110) ?hy4110 (fun K hK => ?sy4110) AllReadyH.nil)
      case hy4110 => simp only [List.getElem?_toArray, List.getElem?_cons_zero, List.getElem?_cons_succ]; rfl
      go_simp
      refine (treeKey_any TR HOKR.out _ _ (HTRb.out.ext HE.out)).mono ?_
      rintro e wd ⟨rfl, hx⟩
      replace HE := Lib.hid (HE.out.trans hx)
      have hH2 : Ext w wd ∧ World.cell? wd ⟨g9, 66, none⟩ = some (.pointer pl) ∧ World.cell? wd ⟨g9, 67, none⟩ = some (.pointer pr) := ⟨hHeld.1.trans hx, hx.cell hHeld.2.1, hx.cell hHeld.2.2⟩
      refine hK.out _ _ hH2 (fun _ => ?_)
      clear hHeld hK K hx
      have hHeld := hH2
      clear hH2
      try simp only [Act.put, List.setIfInBounds_toArray, List.set_cons_zero, List.set_cons_succ]
      refine tkI 15 (v := (.agg (Nd.enc ⟨TL.key, TR.key, L[t].1, L[t].2⟩).toArray)) (by simp only [List.getElem?_toArray, List.getElem?_cons_zero, List.getElem?_cons_succ]; rfl) (by kernel_rfl) (by exact fun _ _ _ h => h) (by refine yields_build ?_ rfl (built_node ⟨TL.key, TR.key, L[t].1, L[t].2⟩ HND.out); rfl) (by assumption) ?_
      try simp only [Act.put, List.setIfInBounds_toArray, List.set_cons_zero, List.set_cons_succ]
      iterate 2
        refine tkD 0 (by simp only [List.size_toArray, List.length_cons, List.length_nil]; rfl) (by simp only [List.getElem?_toArray, List.getElem?_cons_zero, List.getElem?_cons_succ]; rfl) (by kernel_rfl) (by exact fun _ _ _ h => h) (by first | (exact Or.inl ⟨by rfl, by intro w hSw; (try dsimp only at hSw); go_simp; with_reducible rfl⟩) | (exact Or.inr ⟨by rfl, by rfl⟩)) (by assumption) ?_
        try simp only [Act.put, List.setIfInBounds_toArray, List.set_cons_zero, List.set_cons_succ]
      refine wpAnyH_ready (rs := [18]) (by kernel_rfl) (by simp) (AllReadyH.cons (o := ?oy4518) ?hy4518 (fun K hK => ?sy4518) AllReadyH.nil)
      case hy4518 => simp only [List.getElem?_toArray, List.getElem?_cons_zero, List.getElem?_cons_succ]; rfl
      have HB9 := Lib.hid (HBT.out.ext HE.out)
      refine stp_storeP (off := 0) HB9.out aggNodeI (Nd.st HND.out) (by rw [HRS.out]; decide) rfl _ _ rfl rfl rfl rfl ?_
      have hsp : splice (zNd ++ [Value.pointer pl, Value.pointer pr]).toArray 0 (Nd.enc ⟨TL.key, TR.key, L[t].1, L[t].2⟩).toArray.toList = (Nd.enc ⟨TL.key, TR.key, L[t].1, L[t].2⟩ ++ [Value.pointer pl, Value.pointer pr]).toArray := splice_tr HND.out _ _
      rw [hsp]
      have HB8 := Lib.hid (HB9.out.setRow (Nd.enc ⟨TL.key, TR.key, L[t].1, L[t].2⟩ ++ [Value.pointer pl, Value.pointer pr]).toArray)
      have HEW := Lib.hid (hHeld.1.setRow HG9.out (Nd.enc ⟨TL.key, TR.key, L[t].1, L[t].2⟩ ++ [Value.pointer pl, Value.pointer pr]).toArray)
      refine hK.out _ _ ⟨HEW.out, HB8.out.at_ 66 (enc_66 HND.out _ _), HB8.out.at_ 67 (enc_67 HND.out _ _)⟩ (fun _ => ?_)
      clear hK K hHeld
      try simp only [Act.put, List.setIfInBounds_toArray, List.set_cons_zero, List.set_cons_succ]
      refine wpAnyH_done (by kernel_rfl) ?_ _
      have hfl := (HXb.out.trans HE.out).setRow HGR.out (Nd.enc ⟨TL.key, TR.key, L[t].1, L[t].2⟩ ++ [Value.pointer pl, Value.pointer pr]).toArray
      have HTLf := Lib.hid (HTL.out.ext hfl)
      have HTRf := Lib.hid (HTR.out.ext hfl)
      clear hfl
      go_wp2
      go_ret
      exact ⟨_, rfl, ⟨g9, .pointer pl, .pointer pr, rfl, HB8.out, HTLf.out, HTRf.out⟩, HEW.out⟩
theorem growTr_any (f : Nat) : GrowC f := by
  induction f with
  | zero => exact fun v u L hf h64 hg w S S' h h' => grow_nil 0 v u L (by omega) w S S' h h'
  | succ f ih =>
    intro v u L hf h64 hg w S S' h h'
    by_cases h0 : L.length = 0
    · exact grow_nil (f + 1) v u L h0 w S S' h h'
    · obtain ⟨A, cap, rfl, _⟩ := id h
      obtain ⟨A', cap', rfl, _⟩ := id h'
      rw [prios_length] at h' ⊢
      exact grow_cons f ih A A' cap cap' L h0 hf h64 hg w S S' h h'
end Go.Proofs.Ytnklgkmpcochfaa
/- Is a key among keys? The model. No condition. -/
namespace Go.Proofs.Ytnklgkmpcochfaa
open Go.RowKit
set_option linter.unusedVariables false
set_option linter.unusedSimpArgs false
set_option maxHeartbeats 1000000 in
set_option maxRecDepth 100000 in
theorem l01Has_any (v : Value) (ks : List (List Int)) (key : List Int) (hk : K32 key) (w : World) (S : Nat → Prop) (h : RdL tKey w S v ks) :
    Calls Try.prog 80 #[v, .agg (numsA .u8 key)] w fun e w' => e = .returned (.bool (ks.contains key)) ∧ Ext w w' := by
  obtain ⟨A, cap, rfl, hcap, hlen, hrd, hok⟩ := h
  have Hrd := Lib.hid hrd
  have Hok := Lib.hid hok
  have HK := Lib.hid (show tKey.ok key from hk)
  obtain ⟨R, hR⟩ : ∃ R, ks.contains key = R := ⟨_, rfl⟩
  rw [hR]
  have HR := Lib.hid hR
  have hkl := hk.1
  clear hrd hok hR hk
  go_enter Try.func80, Try.ntmps80
  go_wp2
  go_loopw [5] (fun i wr => ∃ k : Nat, k ≤ ks.length ∧ i = .int .i64 k ∧ key ∉ ks.take k ∧ Blk wr w.heap.size 53 (numsA .u8 key) ∧ Ext w wr) (fun i _ => ks.length - (intOf i).toNat)
  case atStart => exact ⟨0, by omega, rfl, by simp, Blk.new w _ _, ext_alloc _ _⟩
  case round =>
    obtain ⟨k, hk, rfl, ht, hb, hx⟩ := hrel
    have HX := Lib.hid hx
    have HT := Lib.hid ht
    have HB := Lib.hid hb
    clear hx ht hb
    by_cases hlt : k < ks.length
    · obtain ⟨g, o, rfl, hs, hc⟩ := Hrd.out.elem Hok.out k hlt
      have ht1 := List.take_succ_eq_append_getElem hlt
      have hx0 : tKey.ok ks[k] := Hok.out _ (List.getElem_mem hlt)
      have hD : ∀ W, Ext wr W → ∀ j u, (tKey.enc ks[k])[j]? = some u → W.cell? ⟨g, o + k * 32 + j, none⟩ = some u := fun W hW j u hu => hW.cell (HX.out.cell (hc j u hu))
      have hM : ks[k] ∈ ks := List.getElem_mem hlt
      clear hc
      generalize ks[k] = x at ht1 hx0 hD hM
      have HD := Lib.hid hD
      have HBD := Lib.hid (show ∀ W, Ext wr W → ∀ j u, (tKey.enc key)[j]? = some u → W.cell? ⟨w.heap.size, 0 + j, none⟩ = some u from fun W hW j u hu => by rw [Nat.zero_add]; exact (HB.out.ext hW).at_ j (by rw [numsA, List.getElem?_toArray]; exact hu))
      have HX0 := Lib.hid hx0
      have HT1 := Lib.hid ht1
      have HM := Lib.hid hM
      have hi : (0 : Int) ≤ (k : Int) := by omega
      have hi2 : (k : Int) < (ks.length : Int) := by omega
      have hq := run_eqKey x key HX0.out HK.out
      clear hD hx0 ht1 hM
      by_cases hxy : x = key
      · rw [decide_eq_true hxy] at hq
        have HXY := Lib.hid hxy
        clear hxy
        go_wp2_with fail
        refine wp_region_held_drew (S := fun W => Ext wr W) (by kernel_rfl) (Ext.refl _).drew (fun hHeld => ?_)
        iterate 3
          refine tkD 0 (by simp only [List.size_toArray, List.length_cons, List.length_nil]; rfl) (by simp only [List.getElem?_toArray, List.getElem?_cons_zero, List.getElem?_cons_succ]; rfl) (by kernel_rfl) (by exact fun _ _ _ h => h) (by first | (exact Or.inl ⟨by rfl, by intro w hSw; (try dsimp only at hSw); go_simp; with_reducible rfl⟩) | (exact Or.inr ⟨by rfl, by rfl⟩)) (by assumption) ?_
          try simp only [Act.put, List.setIfInBounds_toArray, List.set_cons_zero, List.set_cons_succ]
        refine tkI 3 (v := (.agg (numsA .u8 x))) (by simp only [List.getElem?_toArray, List.getElem?_cons_zero, List.getElem?_cons_succ]; rfl) (by kernel_rfl) (by exact fun _ _ _ h => h) (by refine yields_loadS g (o + k * 32) (tKey.enc x) (by rw [tKey.len _ HX0.out]; exact aggKey) (fun W hW => HD.out W hW) ?_ _ rfl rfl; rfl) (by assumption) ?_
        try simp only [Act.put, List.setIfInBounds_toArray, List.set_cons_zero, List.set_cons_succ]
        refine tkI 4 (v := (.agg (numsA .u8 key))) (by simp only [List.getElem?_toArray, List.getElem?_cons_zero, List.getElem?_cons_succ]; rfl) (by kernel_rfl) (by exact fun _ _ _ h => h) (by refine yields_loadS w.heap.size 0 (tKey.enc key) (by rw [tKey.len _ HK.out]; exact aggKey) (fun W hW => HBD.out W hW) ?_ _ rfl rfl; rfl) (by assumption) ?_
        try simp only [Act.put, List.setIfInBounds_toArray, List.set_cons_zero, List.set_cons_succ]
        refine tkI 5 (by simp only [List.getElem?_toArray, List.getElem?_cons_zero, List.getElem?_cons_succ]; rfl) (by kernel_rfl) (by exact fun _ _ _ h => h) (by first | (exact Or.inl ⟨by rfl, by intro w hSw; (try dsimp only at hSw); go_simp; with_reducible rfl⟩) | (exact Or.inr ⟨by rfl, by rfl⟩)) (by assumption) ?_
        try simp only [Act.put, List.setIfInBounds_toArray, List.set_cons_zero, List.set_cons_succ]
        refine wpAnyH_done (by kernel_rfl) ?_ _
        have HX1 := Lib.hid (HX.out.trans hHeld)
        clear hHeld
        go_wp2
        go_ret
        exact ⟨by rw [← HR.out, List.contains_iff_mem.2 (by rw [← HXY.out]; exact HM.out)]; rfl, HX1.out⟩
      · rw [decide_eq_false hxy] at hq
        have HXY := Lib.hid hxy
        clear hxy
        go_wp2_with fail
        refine wp_region_held_drew (S := fun W => Ext wr W) (by kernel_rfl) (Ext.refl _).drew (fun hHeld => ?_)
        iterate 3
          refine tkD 0 (by simp only [List.size_toArray, List.length_cons, List.length_nil]; rfl) (by simp only [List.getElem?_toArray, List.getElem?_cons_zero, List.getElem?_cons_succ]; rfl) (by kernel_rfl) (by exact fun _ _ _ h => h) (by first | (exact Or.inl ⟨by rfl, by intro w hSw; (try dsimp only at hSw); go_simp; with_reducible rfl⟩) | (exact Or.inr ⟨by rfl, by rfl⟩)) (by assumption) ?_
          try simp only [Act.put, List.setIfInBounds_toArray, List.set_cons_zero, List.set_cons_succ]
        refine tkI 3 (v := (.agg (numsA .u8 x))) (by simp only [List.getElem?_toArray, List.getElem?_cons_zero, List.getElem?_cons_succ]; rfl) (by kernel_rfl) (by exact fun _ _ _ h => h) (by refine yields_loadS g (o + k * 32) (tKey.enc x) (by rw [tKey.len _ HX0.out]; exact aggKey) (fun W hW => HD.out W hW) ?_ _ rfl rfl; rfl) (by assumption) ?_
        try simp only [Act.put, List.setIfInBounds_toArray, List.set_cons_zero, List.set_cons_succ]
        refine tkI 4 (v := (.agg (numsA .u8 key))) (by simp only [List.getElem?_toArray, List.getElem?_cons_zero, List.getElem?_cons_succ]; rfl) (by kernel_rfl) (by exact fun _ _ _ h => h) (by refine yields_loadS w.heap.size 0 (tKey.enc key) (by rw [tKey.len _ HK.out]; exact aggKey) (fun W hW => HBD.out W hW) ?_ _ rfl rfl; rfl) (by assumption) ?_
        try simp only [Act.put, List.setIfInBounds_toArray, List.set_cons_zero, List.set_cons_succ]
        refine tkI 5 (by simp only [List.getElem?_toArray, List.getElem?_cons_zero, List.getElem?_cons_succ]; rfl) (by kernel_rfl) (by exact fun _ _ _ h => h) (by first | (exact Or.inl ⟨by rfl, by intro w hSw; (try dsimp only at hSw); go_simp; with_reducible rfl⟩) | (exact Or.inr ⟨by rfl, by rfl⟩)) (by assumption) ?_
        try simp only [Act.put, List.setIfInBounds_toArray, List.set_cons_zero, List.set_cons_succ]
        refine wpAnyH_done (by kernel_rfl) ?_ _
        have HX1 := Lib.hid (HX.out.trans hHeld)
        have HB1 := Lib.hid (HB.out.ext hHeld)
        clear hHeld
        go_wp2
        go_roundw
        case rel => exact ⟨k + 1, by omega, by go_num, by rw [HT1.out]; intro hm; rcases List.mem_append.1 hm with h | h; exact HT.out h; exact HXY.out (List.mem_singleton.1 h).symm, HB1.out, HX1.out⟩
        case measure => simp [intOf]; omega
    · obtain rfl : k = ks.length := by omega
      have he := HT.out
      rw [List.take_length] at he
      have HE := Lib.hid he
      clear he
      go_wp2
      go_ret
      refine ⟨?_, HX.out⟩
      rw [← HR.out]
      cases hcc : ks.contains key with
      | false => rfl
      | true => exact absurd (List.contains_iff_mem.1 hcc) HE.out
end Go.Proofs.Ytnklgkmpcochfaa
/- Books by the reference: where a key stands, what number a commit has. No condition. -/
namespace Go.Proofs.Ytnklgkmpcochfaa
open Go.RowKit
set_option linter.unusedVariables false
set_option linter.unusedSimpArgs false

set_option maxHeartbeats 1000000 in
set_option maxRecDepth 100000 in
theorem l07Find_any (v : Value) (xs : List (List Int)) (K : List Int) (hK : K32 K) (w : World) (S : Nat → Prop) (h : RdL tKey w S v xs) :
    Calls Try.prog 71 #[v, .agg (numsA .u8 K)] w fun q w' => q = .returned (.int .i64 (fdI xs K)) ∧ Ext w w' := by
  obtain ⟨A, cap, rfl, hcap, hlen, hrd, hok⟩ := h
  have Hrd := Lib.hid hrd
  have Hok := Lib.hid hok
  have HKK := Lib.hid hK
  have hks := sizeN (k := .u8) hK.1
  have BK := Lib.hid (Blk.new w 53 (numsA .u8 K))
  clear hrd hok hK
  go_enter Try.func71, Try.ntmps71
  go_wp2
  go_loopw [5] (fun i wr => ∃ k : Nat, k ≤ xs.length ∧ i = .int .i64 k ∧ (∀ j (hj : j < xs.length), j < k → xs[j] ≠ K) ∧ Ext (w.alloc (.cells (numsA .u8 K) 53)) wr) (fun i _ => xs.length - (intOf i).toNat)
  case atStart => exact ⟨0, by omega, rfl, fun j hj h => by omega, Ext.refl _⟩
  case round =>
    obtain ⟨k, hk, rfl, hm, hx⟩ := hrel
    have B1 := Lib.hid (BK.out.ext hx)
    have HX := Lib.hid ((ext_alloc w (.cells (numsA .u8 K) 53)).trans hx)
    have HX0 := Lib.hid hx
    have HM := Lib.hid hm
    clear hx hm
    by_cases hlt : k < xs.length
    · obtain ⟨g, o, rfl, hs0, hc⟩ := Hrd.out.elem Hok.out k hlt
      have HC := Lib.hid (show ∀ j u, (nums .u8 xs[k])[j]? = some u → wr.cell? ⟨g, o + k * 32 + j, none⟩ = some u from fun j u hu => HX.out.cell (hc j u hu))
      have HE := Lib.hid (show K32 xs[k] from Hok.out _ (List.getElem_mem hlt))
      have heq := run_eqKey xs[k] K HE.out HKK.out
      have HEL := Lib.hid (show (nums .u8 xs[k]).length = 32 by rw [nums_length, HE.out.1])
      have hk0 : (0 : Int) ≤ (k : Int) := by omega
      have hk2 : (k : Int) < (xs.length : Int) := by omega
      obtain ⟨R, hR⟩ : ∃ R, decide (xs[k] = K) = R := ⟨_, rfl⟩
      rw [hR] at heq
      have HR := Lib.hid hR
      obtain ⟨y, hy⟩ : ∃ y, xs[k] = y := ⟨_, rfl⟩
      have HY := Lib.hid hy
      rw [hy] at HC HE heq HEL
      clear hc hR hy
      cases R with
      | true =>
        go_wp2_with fail
        refine wp_region_held_drew (S := fun W => Ext wr W) (by kernel_rfl) (Ext.refl _).drew (fun hHeld => ?_)
        iterate 3
          refine tkD 0 (by simp only [List.size_toArray, List.length_cons, List.length_nil]; rfl) (by simp only [List.getElem?_toArray, List.getElem?_cons_zero, List.getElem?_cons_succ]; rfl) (by kernel_rfl) (by exact fun _ _ _ h => h) (by first | (exact Or.inl ⟨by rfl, by intro w hSw; (try dsimp only at hSw); go_simp; with_reducible rfl⟩) | (exact Or.inr ⟨by rfl, by rfl⟩)) (by assumption) ?_
          try simp only [Act.put, List.setIfInBounds_toArray, List.set_cons_zero, List.set_cons_succ]
        refine tkI 3 (v := (.agg (numsA .u8 y))) (by simp only [List.getElem?_toArray, List.getElem?_cons_zero, List.getElem?_cons_succ]; rfl) (by kernel_rfl) (by exact fun _ _ _ h => h) (by refine yields_loadSP g (o + k * 32) (nums .u8 y) (by rw [HEL.out]; exact aggKey) (fun W hW j u hu => hW.cell (HC.out j u hu)) ?_ _ rfl rfl; rfl) (by assumption) ?_
        try simp only [Act.put, List.setIfInBounds_toArray, List.set_cons_zero, List.set_cons_succ]
        refine tkI 4 (v := (.agg (numsA .u8 K))) (by simp only [List.getElem?_toArray, List.getElem?_cons_zero, List.getElem?_cons_succ]; rfl) (by kernel_rfl) (by exact fun _ _ _ h => h) (by refine yields_loadBSP (fun W hW => B1.out.ext hW) aggKey hks ?_ _ rfl rfl; rfl) (by assumption) ?_
        try simp only [Act.put, List.setIfInBounds_toArray, List.set_cons_zero, List.set_cons_succ]
        refine tkI 5 (by simp only [List.getElem?_toArray, List.getElem?_cons_zero, List.getElem?_cons_succ]; rfl) (by kernel_rfl) (by exact fun _ _ _ h => h) (by first | (exact Or.inl ⟨by rfl, by intro w hSw; (try dsimp only at hSw); go_simp; with_reducible rfl⟩) | (exact Or.inr ⟨by rfl, by rfl⟩)) (by assumption) ?_
        try simp only [Act.put, List.setIfInBounds_toArray, List.set_cons_zero, List.set_cons_succ]
        refine wpAnyH_done (by kernel_rfl) ?_ _

        have HXF := Lib.hid (HX.out.trans hHeld)
        have hI := fdI_at k hlt HM.out (of_decide_eq_true HR.out)
        have HI := Lib.hid hI
        clear hHeld hI
        go_wp2
        go_ret
        exact ⟨ret_int HI.out.symm, HXF.out⟩
      | false =>
        go_wp2_with fail
        refine wp_region_held_drew (S := fun W => Ext wr W) (by kernel_rfl) (Ext.refl _).drew (fun hHeld => ?_)
        iterate 3
          refine tkD 0 (by simp only [List.size_toArray, List.length_cons, List.length_nil]; rfl) (by simp only [List.getElem?_toArray, List.getElem?_cons_zero, List.getElem?_cons_succ]; rfl) (by kernel_rfl) (by exact fun _ _ _ h => h) (by first | (exact Or.inl ⟨by rfl, by intro w hSw; (try dsimp only at hSw); go_simp; with_reducible rfl⟩) | (exact Or.inr ⟨by rfl, by rfl⟩)) (by assumption) ?_
          try simp only [Act.put, List.setIfInBounds_toArray, List.set_cons_zero, List.set_cons_succ]
        refine tkI 3 (v := (.agg (numsA .u8 y))) (by simp only [List.getElem?_toArray, List.getElem?_cons_zero, List.getElem?_cons_succ]; rfl) (by kernel_rfl) (by exact fun _ _ _ h => h) (by refine yields_loadSP g (o + k * 32) (nums .u8 y) (by rw [HEL.out]; exact aggKey) (fun W hW j u hu => hW.cell (HC.out j u hu)) ?_ _ rfl rfl; rfl) (by assumption) ?_
        try simp only [Act.put, List.setIfInBounds_toArray, List.set_cons_zero, List.set_cons_succ]
        refine tkI 4 (v := (.agg (numsA .u8 K))) (by simp only [List.getElem?_toArray, List.getElem?_cons_zero, List.getElem?_cons_succ]; rfl) (by kernel_rfl) (by exact fun _ _ _ h => h) (by refine yields_loadBSP (fun W hW => B1.out.ext hW) aggKey hks ?_ _ rfl rfl; rfl) (by assumption) ?_
        try simp only [Act.put, List.setIfInBounds_toArray, List.set_cons_zero, List.set_cons_succ]
        refine tkI 5 (by simp only [List.getElem?_toArray, List.getElem?_cons_zero, List.getElem?_cons_succ]; rfl) (by kernel_rfl) (by exact fun _ _ _ h => h) (by first | (exact Or.inl ⟨by rfl, by intro w hSw; (try dsimp only at hSw); go_simp; with_reducible rfl⟩) | (exact Or.inr ⟨by rfl, by rfl⟩)) (by assumption) ?_
        try simp only [Act.put, List.setIfInBounds_toArray, List.set_cons_zero, List.set_cons_succ]
        refine wpAnyH_done (by kernel_rfl) ?_ _

        have HXF := Lib.hid (HX0.out.trans hHeld)
        clear hHeld
        go_wp2
        go_roundw
        case rel => exact ⟨k + 1, by omega, by go_num, fun j hj h => by
          by_cases e : j = k
          · subst e; exact of_decide_eq_false HR.out
          · exact HM.out j hj (by omega), HXF.out⟩
        case measure => simp [intOf]; omega
    · obtain rfl : k = xs.length := by omega
      have HI := Lib.hid (fdI_no (fun j hj => HM.out j hj hj))
      go_wp2
      go_ret
      exact ⟨ret_int HI.out.symm, HX.out⟩
set_option maxHeartbeats 1000000 in
set_option maxRecDepth 100000 in
theorem l00Max_any (a b : Int) (w : World) : Calls Try.prog 107 #[.int .i64 a, .int .i64 b] w fun e w' => e = .returned (.int .i64 (max a b)) ∧ w = w' := by
  by_cases h : b < a
  · have e : max a b = a := by omega
    rw [e]
    have h2 : ¬ a < b := by omega
    have h3 : decide (a < b) = false := decide_eq_false h2
    have h4 : decide (b < a) = true := decide_eq_true h
    go_enter Try.func107, Try.ntmps107
    go_wp2
    go_ret
    first
      | exact ⟨rfl, rfl⟩
      | exact ⟨ret_int (by omega), rfl⟩
  · have e : max a b = b := by omega
    rw [e]
    have h4 : decide (b < a) = false := decide_eq_false h
    have h5 : a ≤ b := by omega
    go_enter Try.func107, Try.ntmps107
    go_wp2
    go_ret
    first
      | exact ⟨rfl, rfl⟩
      | exact ⟨ret_int (by omega), rfl⟩
theorem nmL_le {cs : List Cm} {ks par : List (List Int)} (h : ∀ i, i < ks.length → 0 ≤ gC cs i ∧ gC cs i ≤ 40) (hm : ∀ k (hk : k < par.length), par[k] ∈ ks) : ∀ n, n ≤ par.length → 0 ≤ nmL cs ks par n ∧ nmL cs ks par n ≤ 41
  | 0, _ => by rw [nmL_zero]; omega
  | n + 1, hn => by
    have ih := nmL_le h hm n (by omega)
    have h1 := h _ (fdK_lt.2 (hm n (by omega)))
    rw [nmL_succ, gL_lt (by omega)]
    omega
set_option maxHeartbeats 2000000 in
set_option maxRecDepth 100000 in
theorem l07Number_any (pb : Nat) (v1 v2 vk vp : Value) (cs : List Cm) (ks par : List (List Int)) (w : World) (S S1 S2 : Nat → Prop) (hb : Blk w pb 51 #[v1, v2]) (hr : RdN nrCommit w S v1 cs) (hk : RdL tKey w S1 vk ks) (hp : RdL tKey w S2 vp par) (hm : ∀ k (hk : k < par.length), par[k] ∈ ks) (hl : ks.length ≤ cs.length) (hn : ∀ i, i < ks.length → 0 ≤ gC cs i ∧ gC cs i ≤ 40) :
    Calls Try.prog 82 #[.pointer (some ⟨pb, 0, none⟩), vk, vp] w fun q w' => q = .returned (.int .i64 (nmL cs ks par par.length)) ∧ Ext w w' := by
  obtain ⟨A1, c1, rfl, _⟩ := id hr.shape
  obtain ⟨Ak, ck, rfl, _⟩ := id hk
  obtain ⟨Ap, cp, rfl, hcp, hlp, hrp, hkp⟩ := id hp
  have HB := Lib.hid hb
  have HR := Lib.hid hr
  have HK := Lib.hid hk
  have Hrp := Lib.hid hrp
  have Hkp := Lib.hid (show ∀ x ∈ par, K32 x from hkp)
  have HM := Lib.hid hm
  have HN := Lib.hid hn
  have HNL := Lib.hid (fun n h => nmL_le hn hm n h)
  clear hb hr hk hp hrp hkp hm hn
  go_enter Try.func82, Try.ntmps82
  go_wp2
  go_loopw [7, 8] (fun m i wr => ∃ k : Nat, k ≤ par.length ∧ i = .int .i64 k ∧ m = .int .i64 (nmL cs ks par k) ∧ Ext w wr) (fun _ i _ => par.length - (intOf i).toNat)
  case atStart => exact ⟨0, by omega, rfl, by rw [nmL_zero], Ext.refl _⟩
  case round =>
    obtain ⟨k, hk, rfl, rfl, hx⟩ := hrel
    have HX := Lib.hid hx
    have hB := Lib.hid (HB.out.ext hx)
    clear hx
    by_cases hlt : k < par.length
    · obtain ⟨g, o, rfl, _, hc⟩ := Hrp.out.elem Hkp.out k hlt
      have hmem := HM.out k hlt
      have HPK := Lib.hid (Hkp.out _ (List.getElem_mem hlt))
      obtain ⟨hf1, hf2⟩ := fdI_lt hmem
      have HFD := Lib.hid (fun (W : World) (hW : RdL tKey W S1 (.slice Ak ks.length ck) ks) => show Calls Try.prog 71 #[.slice Ak ks.length ck, .agg (numsA .u8 (par[k]'hlt))] W fun q w' => q = .returned (.int .i64 (fdK ks (par[k]'hlt))) ∧ Ext W w' by
        have := l07Find_any (.slice Ak ks.length ck) ks (par[k]'hlt) HPK.out W S1 hW
        rwa [hf1] at this)
      have hgl := gL_lt hlt
      have HSU := Lib.hid (nmL_succ cs ks par k)
      rw [hgl] at HSU
      have HC := Lib.hid (show ∀ j u, (nums .u8 (par[k]'hlt))[j]? = some u → wr.cell? ⟨g, o + k * 32 + j, none⟩ = some u from fun j u hu => HX.out.cell (hc j u hu))
      have HPL := Lib.hid (show (nums .u8 (par[k]'hlt)).length = 32 by rw [nums_length, HPK.out.1])
      have hnb := HNL.out k (by omega)
      have hgb := HN.out _ hf2
      obtain ⟨y, hy⟩ : ∃ y, (par[k]'hlt) = y := ⟨_, rfl⟩
      rw [hy] at HFD HSU HC HPL hf2 hgb
      obtain ⟨f, hf⟩ : ∃ f, fdK ks y = f := ⟨_, rfl⟩
      rw [hf] at HSU hf2 hgb
      have HFD2 := Lib.hid (fun (W : World) (hW : RdL tKey W S1 (.slice Ak ks.length ck) ks) => show Calls Try.prog 71 #[.slice Ak ks.length ck, .agg (numsA .u8 y)] W fun q w' => q = .returned (.int .i64 f) ∧ Ext W w' by
        have := HFD.out W hW
        rwa [hf] at this)
      clear hf
      have hfl : f < cs.length := by omega
      obtain ⟨gc, oc, rfl, _, es, hes, hce, hRc⟩ := HR.out.elem f hfl
      obtain ⟨vp', e1, _, hroot, _⟩ := hRc
      have hes2 : es = ((cs[f]'hfl).cells vp').toList := by rw [← e1]
      have hnum := hce 33 (.int .i64 (cs[f]'hfl).num) (by rw [hes2, Array.getElem?_toList]; exact (Cm.at_ hroot vp').2.1)
      rw [← gC_lt hfl] at hnum
      have HNUM := Lib.hid (show ∀ W, Ext wr W → W.cell? ⟨gc, oc + f * 35 + 33, none⟩ = some (.int .i64 (gC cs f)) from fun W hW => (HX.out.trans hW).cell hnum)
      generalize gC cs f = z at HNUM hgb HSU
      generalize nmL cs ks par k = m at hnb HSU ⊢
      clear hc hmem HPK HFD hf1 hgl hy hce e1 hroot hes hes2 hnum
      have q0 : (0 : Int) ≤ (k : Int) := by omega
      have q1 : (k : Int) < (par.length : Int) := by omega
      have q2 : (0 : Int) ≤ (f : Int) := by omega
      have q3 : (f : Int) < (cs.length : Int) := by omega
      have q4 : IntKind.i64.wrap (z + 1) = z + 1 := IntWalk.i64_in _ (by omega)
      go_wp2_with fail
      refine wp_region_held_drew (S := fun W => Ext wr W) (by kernel_rfl) (Ext.refl _).drew (fun hHeld => ?_)
      iterate 4
        refine tkD 0 (by simp only [List.size_toArray, List.length_cons, List.length_nil]; rfl) (by simp only [List.getElem?_toArray, List.getElem?_cons_zero, List.getElem?_cons_succ]; rfl) (by kernel_rfl) (by exact fun _ _ _ h => h) (by first | (exact Or.inl ⟨by rfl, by intro w hSw; (try dsimp only at hSw); go_simp; with_reducible rfl⟩) | (exact Or.inr ⟨by rfl, by rfl⟩)) (by assumption) ?_
        try simp only [Act.put, List.setIfInBounds_toArray, List.set_cons_zero, List.set_cons_succ]
      refine tkI 4 (by simp only [List.getElem?_toArray, List.getElem?_cons_zero, List.getElem?_cons_succ]; rfl) (by kernel_rfl) (by exact fun _ _ _ h => h) (by exact Or.inl ⟨by rfl, by intro W hSw; have e0 := (hB.out.ext hSw).at_ 0 rfl; go_simp; with_reducible rfl⟩) (by assumption) ?_
      try simp only [Act.put, List.setIfInBounds_toArray, List.set_cons_zero, List.set_cons_succ]
      iterate 4
        refine tkD 0 (by simp only [List.size_toArray, List.length_cons, List.length_nil]; rfl) (by simp only [List.getElem?_toArray, List.getElem?_cons_zero, List.getElem?_cons_succ]; rfl) (by kernel_rfl) (by exact fun _ _ _ h => h) (by first | (exact Or.inl ⟨by rfl, by intro w hSw; (try dsimp only at hSw); go_simp; with_reducible rfl⟩) | (exact Or.inr ⟨by rfl, by rfl⟩)) (by assumption) ?_
        try simp only [Act.put, List.setIfInBounds_toArray, List.set_cons_zero, List.set_cons_succ]
      refine tkI 9 (v := (.agg (numsA .u8 y))) (by simp only [List.getElem?_toArray, List.getElem?_cons_zero, List.getElem?_cons_succ]; rfl) (by kernel_rfl) (by exact fun _ _ _ h => h) (by refine yields_loadSP g (o + k * 32) (nums .u8 y) (by rw [HPL.out]; exact aggKey) (fun W hW j u hu => hW.cell (HC.out j u hu)) ?_ _ rfl rfl; rfl) (by assumption) ?_
      try simp only [Act.put, List.setIfInBounds_toArray, List.set_cons_zero, List.set_cons_succ]
      refine wpAnyH_ready (rs := [10]) (by kernel_rfl) (by simp) (AllReadyH.cons (o := ?oy2310) ?hy2310 (fun K hK => ?sy2310) AllReadyH.nil)
      case hy2310 => simp only [List.getElem?_toArray, List.getElem?_cons_zero, List.getElem?_cons_succ]; rfl
      go_simp
      refine (HFD2.out _ (HK.out.ext (by decide) (HX.out.trans hHeld))).mono ?_
      rintro e w2 ⟨rfl, hx⟩
      have hH2 := hHeld.trans hx
      refine hK.out _ _ hH2 (fun _ => ?_)
      clear hHeld hK K
      have hHeld := hH2
      clear hH2
      try simp only [Act.put, List.setIfInBounds_toArray, List.set_cons_zero, List.set_cons_succ]
      iterate 2
        refine tkD 0 (by simp only [List.size_toArray, List.length_cons, List.length_nil]; rfl) (by simp only [List.getElem?_toArray, List.getElem?_cons_zero, List.getElem?_cons_succ]; rfl) (by kernel_rfl) (by exact fun _ _ _ h => h) (by first | (exact Or.inl ⟨by rfl, by intro w hSw; (try dsimp only at hSw); go_simp; with_reducible rfl⟩) | (exact Or.inr ⟨by rfl, by rfl⟩)) (by assumption) ?_
        try simp only [Act.put, List.setIfInBounds_toArray, List.set_cons_zero, List.set_cons_succ]
      refine tkI 13 (by simp only [List.getElem?_toArray, List.getElem?_cons_zero, List.getElem?_cons_succ]; rfl) (by kernel_rfl) (by exact fun _ _ _ h => h) (by exact Or.inl ⟨by rfl, by intro W hSw; have e0 := HNUM.out W hSw; go_simp; with_reducible rfl⟩) (by assumption) ?_
      try simp only [Act.put, List.setIfInBounds_toArray, List.set_cons_zero, List.set_cons_succ]
      refine tkI 14 (by simp only [List.getElem?_toArray, List.getElem?_cons_zero, List.getElem?_cons_succ]; rfl) (by kernel_rfl) (by exact fun _ _ _ h => h) (by first | (exact Or.inl ⟨by rfl, by intro w hSw; (try dsimp only at hSw); go_simp; with_reducible rfl⟩) | (exact Or.inr ⟨by rfl, by rfl⟩)) (by assumption) ?_
      try simp only [Act.put, List.setIfInBounds_toArray, List.set_cons_zero, List.set_cons_succ]
      refine wpAnyH_ready (rs := [15]) (by kernel_rfl) (by simp) (AllReadyH.cons (o := ?oy2815) ?hy2815 (fun K hK => ?sy2815) AllReadyH.nil)
      case hy2815 => simp only [List.getElem?_toArray, List.getElem?_cons_zero, List.getElem?_cons_succ]; rfl
      go_simp
      refine (l00Max_any _ _ _).mono ?_
      rintro e w3 ⟨rfl, rfl⟩
      have hH2 := hHeld.trans (Ext.refl _)
      refine hK.out _ _ hH2 (fun _ => ?_)
      clear hHeld hK K
      have hHeld := hH2
      clear hH2
      try simp only [Act.put, List.setIfInBounds_toArray, List.set_cons_zero, List.set_cons_succ]
      refine tkI 16 (by simp only [List.getElem?_toArray, List.getElem?_cons_zero, List.getElem?_cons_succ]; rfl) (by kernel_rfl) (by exact fun _ _ _ h => h) (by first | (exact Or.inl ⟨by rfl, by intro w hSw; (try dsimp only at hSw); go_simp; with_reducible rfl⟩) | (exact Or.inr ⟨by rfl, by rfl⟩)) (by assumption) ?_
      try simp only [Act.put, List.setIfInBounds_toArray, List.set_cons_zero, List.set_cons_succ]
      refine wpAnyH_done (by kernel_rfl) ?_ _
      have HXF := Lib.hid (HX.out.trans hHeld)
      clear hHeld
      go_wp2
      go_roundw
      case rel => exact ⟨k + 1, by omega, by go_num, by rw [HSU.out], HXF.out⟩
      case measure => simp [intOf]; omega
    · obtain rfl : k = par.length := by omega
      go_wp2
      go_ret
      exact ⟨rfl, HX.out⟩
end Go.Proofs.Ytnklgkmpcochfaa
/- The tree of a map and its key: the program. No condition. -/
namespace Go.Proofs.Ytnklgkmpcochfaa
open Go.RowKit
set_option linter.unusedVariables false
set_option linter.unusedSimpArgs false

theorem rowKeys : Row Try.prog tKey 35 53 32 := Row.mk' Try.underlying35 (.agg (numsA .u8 (List.replicate 32 0))) (by kernel_rfl) rfl (by decide) (by decide)
set_option maxHeartbeats 1000000 in
set_option maxRecDepth 100000 in
theorem treeOf_any (v : Value) (L : List En) (h64 : L.length ≤ 64) (hg : good L) (w : World) (S : Nat → Prop) (h : RdL tEnt w S v L) :
    Calls Try.prog 85 #[v] w fun e w' => ∃ v', e = .returned v' ∧ TrAt w' v' (trF L.length L) ∧ Ext w w' := by
  have H := Lib.hid h
  obtain ⟨A, cap, rfl, hcap, hlen, hrd, hok⟩ := h
  have Hrd := Lib.hid hrd
  have Hok := Lib.hid hok
  have hgrow := fun u W S' hW hu => growTr_any L.length (.slice A L.length cap) u L (Nat.le_refl _) h64 hg W S S' hW hu
  have HSZ := Lib.hid (show ∀ k (hk : k < L.length), L[k].1.size ≤ 1048576 from fun k hk => by have := entB_le (hg _ (List.getElem_mem hk)).2; omega)
  have HPT := Lib.hid (show ∀ k, k < L.length → (hk : k < L.length) → prios (L.take (k + 1)) = prios (L.take k) ++ [prioL L[k].1] from fun k hk _ => by rw [List.take_succ_eq_append_getElem hk, prios, List.map_append]; rfl)
  have HPA := Lib.hid (show prios (L.take L.length) = prios L by rw [List.take_length])
  have HPLn := Lib.hid (show ∀ k, k ≤ L.length → (prios (L.take k)).length = k from fun k hk => by rw [prios_length, List.length_take]; omega)
  clear hrd hok
  go_enter Try.func85, Try.ntmps85
  go_wp2_with fail
  go_loopw [3, 9] (fun o i wr => ∃ k : Nat, k ≤ L.length ∧ i = .int .i64 k ∧ Own tKey 53 wr w.heap.size o (prios (L.take k)) ∧ Ext w wr) (fun _ i _ => L.length - (intOf i).toNat)
  case atStart => exact ⟨0, by omega, rfl, by rw [List.take_zero]; exact Own.empty tKey w 53 w.heap.size (Nat.le_refl _), ext_alloc _ _⟩
  case round =>
    obtain ⟨k, hk, rfl, ho, hx⟩ := hrel
    have HX := Lib.hid hx
    have HO := Lib.hid ho
    obtain ⟨C, cn, cc, rfl⟩ := ho.shape3
    clear hx ho
    by_cases hlt : k < L.length
    · obtain ⟨g, o, rfl, hs0, hc⟩ := Hrd.out.elem Hok.out k hlt
      have HD := Lib.hid (show ∀ j u, ([Value.string L[k].1, .string L[k].2] : List Value)[j]? = some u → wr.cell? ⟨g, o + k * 2 + j, none⟩ = some u from fun j u hu => HX.out.cell (hc j u hu))
      have hi : (0 : Int) ≤ (k : Int) := by omega
      have hi2 : (k : Int) < (L.length : Int) := by omega
      have hst : St 2 #[.string L[k].1, .string L[k].2] := ⟨rfl, fun u hu => by simp at hu; rcases hu with rfl | rfl <;> rfl⟩
      have hsz := HSZ.out k hlt
      have HKO := Lib.hid (prioL_ok L[k].1)
      have hnl : (nums .u8 (prioL L[k].1)).length = 32 := by rw [nums_length, HKO.out.1]
      have HLN := Lib.hid (HPLn.out k hk)
      have hns : (numsA .u8 (prioL L[k].1)).size = 32 := sizeN HKO.out.1
      clear hc
      go_wp2_with (first
        | (refine wpl_load ⟨g, o + k * 2, none⟩ [.string L[k].1, .string L[k].2] aggEntryI rfl _ rfl rfl (fun j u hu => by rw [Addr.add_lit]; exact HD.out j u hu) ?_)
        | (refine wpl_storeNewB aggEntryI hst rfl rfl _ _ rfl rfl rfl rfl ?_)
        | (refine wpl_conv Try.underlying9 Try.underlying66 Try.underlying5 rfl _ rfl rfl (by omega) ?_; intro A1 c1 w1 hr hx; have HR := Lib.hid hr; have HX1 := Lib.hid ((HX.out.alloc _).trans hx); have HO1 := Lib.hid ((HO.out.alloc _).ext hx); clear hr hx))
      refine (hash_any 4 (by decide) _ (strL L[k].1) _ _ HR.out (by rw [strL_length]; omega)).mono ?_
      rw [← prioL_eq]
      rintro e w2 ⟨rfl, hx⟩
      have HX2 := Lib.hid (HX1.out.trans hx)
      have HO2 := Lib.hid (HO1.out.ext hx)
      clear hx HO1 HX1 HR
      go_wp2_with (at_builtin; go_loud (rw [fold_fillA (numsA .u8 (prioL L[k].1)) _ _ (sizeN HKO.out.1) rfl]); go_loud (refine wpl_append rowKeys rfl _ _ rfl (v := .slice C cn cc) rfl (HO2.out.alloc _) _ _ rfl (A := some ⟨w2.heap.size, 0, none⟩) (ys := [prioL L[k].1]) rfl (rd_one (T := tKey) w2 (prioL L[k].1) HKO.out _) (by intro y hy; obtain rfl := List.mem_singleton.1 hy; exact HKO.out) (by rw [HLN.out]; simp; omega) (HX2.out.alloc _).size ?_); intro v9 w9 ho1 hg1 hat1; have HX9 := Lib.hid ((HO2.out.alloc _).ext_app (HX2.out.alloc _) hg1); have HO9 := Lib.hid ho1; clear ho1 hg1 hat1)
      go_roundw
      case rel => exact ⟨k + 1, by omega, by go_num, by rw [HPT.out k hlt hlt]; exact HO9.out, HX9.out⟩
      case measure => simp [intOf]; omega
    · obtain rfl : k = L.length := by omega
      rw [HPA.out] at HO
      go_wp2_with fail
      refine (hgrow _ _ _ (H.out.ext (by decide) HX.out) HO.out.rd).mono ?_
      rintro e w2 ⟨v2, rfl, ht, hx⟩
      have HX2 := Lib.hid (HX.out.trans hx)
      have HTR := Lib.hid ht
      obtain ⟨p, rfl⟩ := ht.ptr
      clear hx ht hgrow
      go_wp2
      go_ret
      exact ⟨_, rfl, HTR.out, HX2.out⟩
end Go.Proofs.Ytnklgkmpcochfaa
/- Regions that draw their order and end in a few operations L that wait for all others: behind these the region's condition is not asked. No condition. -/
namespace Go.Proofs.Ytnklgkmpcochfaa
open Go.RowKit
set_option linter.unusedVariables false
set_option linter.unusedSimpArgs false

section
variable {P : Program} {ops : Array Oper} {Q : Exit → Act → World → Prop} {md : Region.Mode} {S : World → Prop} {f : Nat} {L : List Nat}
/-- j waits for i, directly or by others, so many steps -/
def needB (md : Region.Mode) (ops : Array Oper) : Nat → Nat → Nat → Bool
  | 0, _, _ => false
  | k + 1, i, j => match ops[j]? with
    | none => false
    | some o => o.after.toList.any fun e => Region.binds md e && (e.on == i || needB md ops k i e.on)
/-- whatever has come up, all that it waits for has come up -/
def closedB (md : Region.Mode) (ops : Array Oper) (l : Array Bool) : Bool :=
  (List.range ops.size).all fun j => match ops[j]? with
    | none => true
    | some o => !(l.getD j false) || o.after.toList.all fun e => !(Region.binds md e) || l.getD e.on false
theorem closed_dep {l : Array Bool} (h : closedB md ops l = true) {j : Nat} {o : Oper} (ho : ops[j]? = some o) (hj : l.getD j false = true) : ∀ e ∈ o.after, Region.binds md e = true → l.getD e.on false = true := by
  intro e he hb
  have hlt : j < ops.size := (Array.getElem?_eq_some_iff.1 ho).1
  have h1 := List.all_eq_true.1 h j (List.mem_range.2 hlt)
  rw [ho] at h1
  simp only [hj, Bool.not_true, Bool.false_or, List.all_eq_true] at h1
  have h2 := h1 e (Array.mem_toList_iff.2 he)
  rw [hb] at h2
  simpa using h2
theorem need_listed {l : Array Bool} (h : closedB md ops l = true) : ∀ (k i j : Nat) (o : Oper), ops[j]? = some o → (∀ e ∈ o.after, Region.binds md e = true → l.getD e.on false = true) → needB md ops k i j = true → l.getD i false = true
  | 0, _, _, _, _, _, hn => by cases hn
  | k + 1, i, j, o, ho, hd, hn => by
    rw [needB, ho] at hn
    obtain ⟨e, he0, hbe⟩ := List.any_eq_true.1 hn
    have he := Array.mem_toList_iff.1 he0
    rw [Bool.and_eq_true, Bool.or_eq_true] at hbe
    have hl := hd e he hbe.1
    rcases hbe.2 with h1 | h1
    · rw [beq_iff_eq] at h1
      rw [← h1]
      exact hl
    · cases h3 : ops[e.on]? with
      | none =>
        cases k with
        | zero => cases h1
        | succ k => rw [needB, h3] at h1; cases h1
      | some o' => exact need_listed h k i e.on o' h3 (closed_dep h h3 hl) h1
theorem closed_set {l : Array Bool} (h : closedB md ops l = true) {j : Nat} (hj : j ∈ Region.ready md ops l) : closedB md ops (l.setIfInBounds j true) = true := by
  refine List.all_eq_true.2 fun q hq => ?_
  cases ho : ops[q]? with
  | none => rfl
  | some o =>
    simp only [Bool.or_eq_true, Bool.not_eq_true', List.all_eq_true]
    by_cases e : q = j
    · subst e
      obtain ⟨_, o', ho', hall⟩ := mem_ready.1 hj
      rw [ho] at ho'
      injection ho' with ho'
      subst ho'
      refine .inr fun e he0 => ?_
      have he := Array.mem_toList_iff.1 he0
      cases hb : Region.binds md e
      · exact .inl rfl
      · exact .inr (getD_set_true (hall e he hb))
    · cases hl : (l.setIfInBounds j true).getD q false with
      | false => exact .inl rfl
      | true =>
        rw [getD_set_ne false (Ne.symm e)] at hl
        refine .inr fun e he0 => ?_
        have he := Array.mem_toList_iff.1 he0
        cases hb : Region.binds md e
        · exact .inl rfl
        · exact .inr (getD_set_true (closed_dep h ho hl e he hb))
theorem need_not_ready {l : Array Bool} (h : closedB md ops l = true) {k i : Nat} (hn : needB md ops k i f = true) (hi : i ∈ Region.ready md ops l) : ¬ f ∈ Region.ready md ops l := fun hf => by
  obtain ⟨_, o, ho, hall⟩ := mem_ready.1 hf
  have h1 := need_listed h k i f o ho hall hn
  have h0 := (mem_ready.1 hi).1
  rcases Nat.lt_or_ge i l.size with h' | h'
  · simp [h'] at h0 h1; rw [h0] at h1; cases h1
  · simp [Array.getElem?_eq_none h'] at h1
/-- behind every operation but those of L, the last ones, the condition holds -/
def wpF (P : Program) (md : Region.Mode) (ops : Array Oper) (Q : Exit → Act → World → Prop) (S : World → Prop) (L : List Nat) : Nat → Array Bool → Act → World → Prop
  | 0, l, a, w => Region.ready md ops l = [] ∧ Q .normal a w
  | n + 1, l, a, w => (Region.ready md ops l = [] → Q .normal a w) ∧ ∀ i ∈ Region.ready md ops l, wpOp P ops Q i (fun a' w' => (i ∉ L → S w → S w') ∧ wpF P md ops Q S L n (l.setIfInBounds i true) a' w') a w
theorem wpF_any : ∀ (n : Nat) (l : Array Bool) (a : Act) (w : World), wpF P md ops Q S L n l a w → wpAny P md ops Q n l a w
  | 0, _, _, _, h => h
  | n + 1, l, a, w, h => ⟨h.1, fun i hi => wpOp_mono (fun a' w' k => wpF_any n _ a' w' k.2) (h.2 i hi)⟩
theorem not_on {l : Array Bool} {i j : Nat} {oj : Oper} (hr : i ∈ Region.ready md ops l) (hall : ∀ e ∈ oj.after, Region.binds md e = true → l.getD e.on false = true) : ∀ e ∈ oj.after, Region.binds md e = true → e.on ≠ i := fun e he hb heq => by
  have h1 := hall e he hb
  have h0 := (mem_ready.1 hr).1
  rw [heq] at h1
  rcases Nat.lt_or_ge i l.size with h' | h'
  · simp [h'] at h0 h1; rw [h0] at h1; cases h1
  · simp [Array.getElem?_eq_none h'] at h1
theorem wpF_first {i k : Nat} {oi : Oper} {v : Value} (hi : ops[i]? = some oi) (hsel : ∀ (j : Nat) (o : Oper) cs b, ops[j]? = some o → o.op ≠ .select cs b) (hQ : ∀ c a w, Q (.panic c) (a.put oi.dst v) w → Q (.panic c) a w) (hif : ∀ f ∈ L, needB md ops k i f = true) :
    ∀ (n : Nat) (l : Array Bool) (a : Act) (w : World), closedB md ops l = true → (∀ j oj, ops[j]? = some oj → j ≠ i → l.getD j true = false → (∀ e ∈ oj.after, Region.binds md e = true → e.on ≠ i) → oi.apart ops oj = true) → i ∈ Region.ready md ops l → YieldsIf P ops S oi v a → S w →
      wpF P md ops Q S L n (l.setIfInBounds i true) (a.put oi.dst v) w → wpF P md ops Q S L (n + 1) l a w := by
  intro n
  induction n with
  | zero =>
    intro l a w hcl _ hr hy hS H
    refine ⟨fun h => (by rw [h] at hr; cases hr), fun j hj => ?_⟩
    by_cases e : j = i
    · subst e; exact hy.wpOp hi hS ⟨fun _ h => h, H⟩
    · have := ready_mono hj e
      rw [H.1] at this
      cases this
  | succ n ih =>
    intro l a w hcl hfree hr hy hS H
    refine ⟨fun h => (by rw [h] at hr; cases hr), fun j hj => ?_⟩
    by_cases e : j = i
    · subst e; exact hy.wpOp hi hS ⟨fun _ h => h, H⟩
    · have hjf : j ∉ L := fun h => need_not_ready hcl (hif j h) hr hj
      have h1 := H.2 j (ready_mono hj e)
      obtain ⟨hjun, oj, hoj, hall⟩ := mem_ready.1 hj
      have hnot := not_on (i := i) (oj := oj) (j := j) hr hall
      have h2 := wpOp_putIf hoj (hfree j oj hoj e hjun hnot) (fun cs b => hsel i oi cs b hi) (fun cs b => hsel j oj cs b hoj) hQ hy h1
      have hfree' : ∀ k ok, ops[k]? = some ok → k ≠ i → (l.setIfInBounds j true).getD k true = false → (∀ e ∈ ok.after, Region.binds md e = true → e.on ≠ i) → oi.apart ops ok = true := fun k ok hk hki hun hno => by
        refine hfree k ok hk hki ?_ hno
        by_cases hjk : j = k
        · subst hjk; exact hjun
        · rw [getD_set_ne true hjk] at hun; exact hun
      refine wpOp_mono (fun a' w' h3 => ⟨fun _ _ => h3.2.1 hjf hS, ih (l.setIfInBounds j true) a' w' (closed_set hcl hj) hfree' (ready_mono hr (Ne.symm e)) h3.1 (h3.2.1 hjf hS) ?_⟩) h2
      rw [Array.setIfInBounds_comm _ _ e]
      exact h3.2.2
/-- one that yields alike in every world may come up at any time -/
theorem wpF_late1 {i : Nat} {oi : Oper} {v : Value} (hi : ops[i]? = some oi) (hsel : ∀ (j : Nat) (o : Oper) cs b, ops[j]? = some o → o.op ≠ .select cs b) (hQ : ∀ c a w, Q (.panic c) (a.put oi.dst v) w → Q (.panic c) a w) :
    ∀ (n : Nat) (l : Array Bool) (a : Act) (w : World), (∀ j oj, ops[j]? = some oj → j ≠ i → l.getD j true = false → (∀ e ∈ oj.after, Region.binds md e = true → e.on ≠ i) → oi.apart ops oj = true) → i ∈ Region.ready md ops l → YieldsIf P ops (fun _ => True) oi v a →
      wpF P md ops Q S L n (l.setIfInBounds i true) (a.put oi.dst v) w → wpF P md ops Q S L (n + 1) l a w := by
  intro n
  induction n with
  | zero =>
    intro l a w _ hr hy H
    refine ⟨fun h => (by rw [h] at hr; cases hr), fun j hj => ?_⟩
    by_cases e : j = i
    · subst e; exact hy.wpOp hi trivial ⟨fun _ h => h, H⟩
    · have := ready_mono hj e
      rw [H.1] at this
      cases this
  | succ n ih =>
    intro l a w hfree hr hy H
    refine ⟨fun h => (by rw [h] at hr; cases hr), fun j hj => ?_⟩
    by_cases e : j = i
    · subst e; exact hy.wpOp hi trivial ⟨fun _ h => h, H⟩
    · have h1 := H.2 j (ready_mono hj e)
      obtain ⟨hjun, oj, hoj, hall⟩ := mem_ready.1 hj
      have hnot := not_on (i := i) (oj := oj) (j := j) hr hall
      have h2 := wpOp_putIf hoj (hfree j oj hoj e hjun hnot) (fun cs b => hsel i oi cs b hi) (fun cs b => hsel j oj cs b hoj) hQ hy h1
      have hfree' : ∀ k ok, ops[k]? = some ok → k ≠ i → (l.setIfInBounds j true).getD k true = false → (∀ e ∈ ok.after, Region.binds md e = true → e.on ≠ i) → oi.apart ops ok = true := fun k ok hk hki hun hno => by
        refine hfree k ok hk hki ?_ hno
        by_cases hjk : j = k
        · subst hjk; exact hjun
        · rw [getD_set_ne true hjk] at hun; exact hun
      refine wpOp_mono (fun a' w' h3 => ⟨h3.2.1, ih (l.setIfInBounds j true) a' w' hfree' (ready_mono hr (Ne.symm e)) h3.1 ?_⟩) h2
      rw [Array.setIfInBounds_comm _ _ e]
      exact h3.2.2
/-- operation i is taken first -/
theorem wpF_take {i : Nat} {oi : Oper} {v : Value} {n : Nat} {l : Array Bool} {a : Act} {w : World} (hi : ops[i]? = some oi) (hs : Region.noSelect ops = true) (hf : Region.free md ops l i = true) (hr : (Region.ready md ops l).contains i = true) (hc : (L.all (fun f => needB md ops ops.size i f) && closedB md ops l) = true)
    (hQ : ∀ c a w, Q (.panic c) (a.put oi.dst v) w → Q (.panic c) a w) (hy : YieldsIf P ops S oi v a) (hS : S w) (h : wpF P md ops Q S L n (l.setIfInBounds i true) (a.put oi.dst v) w) : wpF P md ops Q S L (n + 1) l a w := by
  rw [Bool.and_eq_true] at hc
  exact wpF_first hi (Region.noSelect_spec hs) hQ (List.all_eq_true.1 hc.1) n l a w hc.2 (Region.free_spec hi hf) (by simpa using hr) hy hS h
theorem wpF_late {i : Nat} {oi : Oper} {v : Value} {n : Nat} {l : Array Bool} {a : Act} {w : World} (hi : ops[i]? = some oi) (hs : Region.noSelect ops = true) (hf : Region.free md ops l i = true) (hr : (Region.ready md ops l).contains i = true)
    (hQ : ∀ c a w, Q (.panic c) (a.put oi.dst v) w → Q (.panic c) a w) (hy : YieldsIf P ops (fun _ => True) oi v a) (h : wpF P md ops Q S L n (l.setIfInBounds i true) (a.put oi.dst v) w) : wpF P md ops Q S L (n + 1) l a w :=
  wpF_late1 hi (Region.noSelect_spec hs) hQ n l a w (Region.free_spec hi hf) (by simpa using hr) hy h
def AllF (P : Program) (md : Region.Mode) (ops : Array Oper) (Q : Exit → Act → World → Prop) (S : World → Prop) (L : List Nat) (n : Nat) (l : Array Bool) (a : Act) (w : World) (rs : List Nat) : Prop :=
  ∀ i ∈ rs, wpOp P ops Q i (fun a' w' => (i ∉ L → S w → S w') ∧ wpF P md ops Q S L n (l.setIfInBounds i true) a' w') a w
theorem AllF.nil {n : Nat} {l : Array Bool} {a : Act} {w : World} : AllF P md ops Q S L n l a w [] := fun _ h => by cases h
theorem AllF.cons {n : Nat} {l : Array Bool} {a : Act} {w : World} {i : Nat} {o : Oper} {rs : List Nat} (ho : ops[i]? = some o)
    (h : ∀ K' : Act → World → Prop, Shut (∀ a' w', (i ∉ L → S w → S w') → wpF P md ops Q S L n (l.setIfInBounds i true) a' w' → K' a' w') → if Region.wanted o (yielded ops a.tmps) = true then Oper.wp P o a w K' Q else K' (a.put o.dst undef) w)
    (hs : AllF P md ops Q S L n l a w rs) : AllF P md ops Q S L n l a w (i :: rs) := fun j hj => by
  rcases List.mem_cons.1 hj with rfl | hj
  · exact wpOp_step ho (fun K' hK => h K' (fun a' w' hS hW => hK a' w' ⟨hS, hW⟩))
  · exact hs j hj
theorem wpF_ready {rs : List Nat} {n : Nat} {l : Array Bool} {a : Act} {w : World} (hr : Region.ready md ops l = rs) (hne : rs ≠ []) (h : AllF P md ops Q S L n l a w rs) : wpF P md ops Q S L (n + 1) l a w := ⟨fun h0 => absurd (hr ▸ h0) hne, hr ▸ h⟩
theorem wpF_done {l : Array Bool} {a : Act} {w : World} (hr : Region.ready md ops l = []) (h : Q .normal a w) : ∀ n, wpF P md ops Q S L n l a w
  | 0 => ⟨hr, h⟩
  | _ + 1 => ⟨fun _ => h, by rw [hr]; simp⟩
/-- the beginning -/
theorem wp_region_f (L : List Nat) {id : Nat} {a : Act} {w : World} (hm : P.follows .mixedOrders = true) (hS : S w.drew) (h : S w.drew → wpF P .any ops Q S L ops.size (Array.replicate ops.size false) a w.drew) : (Code.region id ops true).wp P Q a w :=
  wp_region_any hm (wpF_any _ _ _ _ (h hS))
end
/-- a slice literal of one element, a struct or an array: one step of a region -/
theorem run_one {α : Type} {P : Program} {T : Ty α} {t e : TypeId} {bytes : Nat} (R : Row P T t e bytes) (hb : T.sz ≤ 16777216) (x : α) (hx : T.ok x) (w : World) :
    (Instr.buildSlice t 1 #[(0, .agg (T.enc x).toArray)]).run P w = .ok (.slice (some ⟨w.heap.size, 0, none⟩) 1 1) (w.alloc (.cells (T.enc x).toArray e)) := by
  obtain ⟨i, z, hi, hz, hs, hby, hzs⟩ := R.info
  have hp := R.sz
  refine run_buildSlice w t e 1 _ _ i z R.ht hi hz (by rw [hs]; omega) (by rw [hs]; omega) ?_
  have h := Great.fill_whole (s := i.size) (by rw [hs]; exact hp) [.agg (T.enc x).toArray] ((Array.range (1 * i.size)).map (z.cells[· % z.cells.size]!)) (fun v hv => by rw [List.mem_singleton.1 hv]; simp [Value.cells, T.len x hx, hs]) (by simp)
  simpa [Value.cells] using h
theorem stp_one {α : Type} {P : Program} {T : Ty α} {t e : TypeId} {bytes : Nat} (R : Row P T t e bytes) (hb : T.sz ≤ 16777216) (x : α) (hx : T.ok x) {ops : Array Oper} {o : Oper} {a : Act} {w : World} {K : Act → World → Prop} {Q : Exit → Act → World → Prop} {E : Prop} (hgd : o.guard = none) (y : Operand)
    (ho : o.op = .buildSlice t 1 #[(0, y)]) (hy : a.eval y = .agg (T.enc x).toArray) (h : K (a.put o.dst (.slice (some ⟨w.heap.size, 0, none⟩) 1 1)) (w.alloc (.cells (T.enc x).toArray e))) :
    if Region.wanted o (yielded ops a.tmps) = true then Oper.wp P o a w K Q else E := by
  have hw : Region.wanted o (yielded ops a.tmps) = true := by simp [Region.wanted, hgd]
  rw [if_pos hw]
  have hrun := run_one R hb x hx w
  unfold Oper.wp execOp
  simp only [ho, Sem.run_bind, List.map_toArray, List.map_cons, List.map_nil, hy, hrun, Result.andThen_ok]
  exact h
theorem wpl_one {α : Type} {P : Program} {T : Ty α} {t e : TypeId} {bytes : Nat} (R : Row P T t e bytes) (hb : T.sz ≤ 16777216) (x : α) (hx : T.ok x) {ops : Array Oper} {rest : List Oper} {o : Oper} {a : Act} {w : World} {Q : Exit → Act → World → Prop} (hgd : o.guard = none) (y : Operand)
    (ho : o.op = .buildSlice t 1 #[(0, y)]) (hy : a.eval y = .agg (T.enc x).toArray) (h : wpList P ops Q rest (a.put o.dst (.slice (some ⟨w.heap.size, 0, none⟩) 1 1)) (w.alloc (.cells (T.enc x).toArray e))) : wpList P ops Q (o :: rest) a w := by
  refine wpList_plain hgd fun K hK => ?_
  have hrun := run_one R hb x hx w
  unfold Oper.wp execOp
  simp only [ho, Sem.run_bind, List.map_toArray, List.map_cons, List.map_nil, hy, hrun, Result.andThen_ok]
  exact hK _ _ h
end Go.Proofs.Ytnklgkmpcochfaa
/- Whether a book is valid: the reference. No condition. -/
namespace Go.Proofs.Ytnklgkmpcochfaa
open Go.RowKit
set_option linter.unusedVariables false
set_option linter.unusedSimpArgs false

/-- what has been seen of commit n makes the book invalid -/
theorem okBk_bad {x : Bk} (n : Nat) (h1 : n < x.1.length) (h : stB x n = false) : okBk x = false := by rw [okBk_eq, stN_bad x n _ h1 h, Bool.and_false]
theorem stB_num {x : Bk} {n : Nat} (h : stN x n = true) (hl : n ≤ x.1.length) (h2 : x.2.length = x.1.length) : ∀ i, i < (ksL (x.1.take n)).length → 0 ≤ gC x.1 i ∧ gC x.1 i ≤ 40 := fun i hi => by
  rw [ksL_length, List.length_take] at hi
  have hin : i < n := by omega
  have hlt : i < x.1.length := by omega
  have hst : stB x i = true := by
    cases e : stB x i with
    | true => rfl
    | false => rw [stN_bad x i n hin e] at h; cases h
  rw [stB_eq x i hlt (by omega)] at hst
  simp only [Bool.and_eq_true] at hst
  have hok := okCm_le hst.1.1.1.1.1
  rw [gC_lt hlt]
  omega
theorem rowKeyL : Row Try.prog tKey 35 53 32 := Row.mk' Try.underlying35 (.agg (numsA .u8 (List.replicate 32 0))) (by kernel_rfl) rfl (by decide) (by decide)
set_option maxHeartbeats 8000000 in
set_option maxRecDepth 100000 in
theorem l07Book_any (pb : Nat) (v1 v2 : Value) (x : Bk) (w : World) (S S2 : Nat → Prop) (hb : Blk w pb 51 #[v1, v2]) (hr : RdN nrCommit w S v1 x.1) (hr2 : RdN nrEnts w S2 v2 x.2) :
    Calls Try.prog 53 #[.pointer (some ⟨pb, 0, none⟩)] w fun q w' => q = .returned (.bool (okBk x)) ∧ Ext w w' := by
  obtain ⟨A1, c1, rfl, hc1, hn1⟩ := id hr.shape
  obtain ⟨A2, c2, rfl, hc2, hn2⟩ := id hr2.shape
  have HB := Lib.hid hb
  have HR := Lib.hid hr
  have HR2 := Lib.hid hr2
  have HOK := Lib.hid (okBk_eq x)
  clear hb hr hr2
  by_cases h40 : x.1.length ≤ 40
  rotate_left
  · have e : okBk x = false := by rw [HOK.out, decide_eq_false h40]; rfl
    rw [e]
    have d0 := HB.out.at_ 0 rfl
    have d1 := HB.out.at_ 1 rfl
    have p1 : (40 : Int) < (x.1.length : Int) := by omega
    clear e HOK
    go_enter Try.func53, Try.ntmps53
    go_wp2_with fail
    go_quiet (fail)
    go_wp2
    go_ret
    exact ⟨rfl, (Ext.refl w).drewN _⟩
  have p1 : decide ((40 : Int) < (x.1.length : Int)) = false := decide_eq_false (by omega)
  by_cases hle : x.2.length = x.1.length
  rotate_left
  · have e : okBk x = false := by rw [HOK.out, decide_eq_false hle]; simp
    rw [e]
    have d0 := HB.out.at_ 0 rfl
    have d1 := HB.out.at_ 1 rfl
    have p2 : ((x.2.length : Int) != (x.1.length : Int)) = true := by rw [bne_iff_ne]; omega
    clear e HOK hle
    go_enter Try.func53, Try.ntmps53
    go_wp2_with fail
    go_quiet (fail)
    go_wp2
    go_ret
    exact ⟨rfl, (Ext.refl w).drewN _⟩
  have p2 : ((x.2.length : Int) != (x.1.length : Int)) = false := by rw [bne_eq_false_iff_eq]; omega
  have hOK : okBk x = stN x x.1.length := by rw [HOK.out, decide_eq_true h40, decide_eq_true hle]; rfl
  replace HOK := Lib.hid hOK
  have HLE := Lib.hid hle
  obtain ⟨R, hR⟩ : ∃ R, okBk x = R := ⟨_, rfl⟩
  have HRR := Lib.hid hR
  have HBAD := Lib.hid (fun n h1 h2 => okBk_bad (x := x) n h1 h2)
  rw [hR] at HOK ⊢
  simp only [hR] at HBAD
  have HSTB := Lib.hid (fun n (h1 : n < x.1.length) (h2 : n < x.2.length) => stB_eq x n h1 h2)
  have HSTN := Lib.hid (fun n => stN_succ x n)
  have HNUM := Lib.hid (fun n h hl => stB_num (x := x) (n := n) h hl hle)
  have HLM := Lib.hid (show x.2.length = x.1.length from hle)
  obtain ⟨n, hnn⟩ : ∃ n, x.1.length = n := ⟨_, rfl⟩
  have HN := Lib.hid hnn
  have HM := Lib.hid (show x.2.length = n by rw [hle, hnn])
  have d0 := HB.out.at_ 0 rfl
  have d1 := HB.out.at_ 1 rfl
  rw [hnn] at d0 h40 HOK p1 hc1
  rw [show x.2.length = n by rw [hle, hnn]] at d1 hc2
  have p3 : ((n : Int) != (n : Int)) = false := by simp
  have HB2 := Lib.hid (show Blk w pb 51 #[.slice A1 n c1, .slice A2 n c2] by have := HB.out; rw [HN.out, HM.out] at this; exact this)
  clear hR hle hOK hnn hn1 hn2 p2 HB
  go_enter Try.func53, Try.ntmps53
  go_wp2_with fail
  go_quiet (fail)
  have XQ := Lib.hid ((Ext.refl w).drewN nq)
  clear d0 d1
  generalize w.drewN nq = w0 at XQ ⊢
  go_wp2
  go_loopw [3, 4, 5, 6, 7, 8, 9] (fun ks i _ _ _ _ _ wr => ∃ k : Nat, k ≤ n ∧ i = .int .i64 k ∧ Own tKey 53 wr w.heap.size ks (ksL (x.1.take k)) ∧ stN x k = true ∧ Ext w wr) (fun _ i _ _ _ _ _ _ => n - (intOf i).toNat)
  case atStart => exact ⟨0, by omega, rfl, by rw [List.take_zero]; exact Own.empty tKey w0 53 w.heap.size XQ.out.size, stN_zero x, XQ.out.alloc _⟩
  case round =>
    obtain ⟨k, hk, rfl, ho, hst, hx⟩ := hrel
    obtain ⟨Ck, nk, ck, rfl⟩ := ho.shape3
    have HX := Lib.hid hx
    have HO := Lib.hid ho
    have HST := Lib.hid hst
    have hB := Lib.hid (HB2.out.ext hx)
    clear hx ho hst XQ
    have d0 := hB.out.at_ 0 rfl
    by_cases hlt : k < n
    · have hlt1 : k < x.1.length := by rw [HN.out]; exact hlt
      have hlt2 : k < x.2.length := by rw [HM.out]; exact hlt
      obtain ⟨gc, oc, rfl, _, es, hes, hce, hRc⟩ := (HR.out.ext HX.out).elem k hlt1
      obtain ⟨gm, om, rfl, _, em, hem, hcm, hRm⟩ := (HR2.out.ext HX.out).elem k hlt2
      obtain ⟨vm, e2, hRL⟩ := hRm
      have hvm : wr.cell? ⟨gm, om + k, none⟩ = some vm := by
        have := hcm 0 vm (by
          have h9 := congrArg Array.toList e2
          simp only at h9
          rw [h9]; rfl)
        simpa [nrEnts] using this
      obtain ⟨vc, e1, hpar, hroot, hnum, hnote⟩ := id hRc
      have hes2 : es = (x.1[k].cells vc).toList := by rw [← e1]
      obtain ⟨Ap, cp, rfl, hcp, hlp, hrp, hkp⟩ := id hpar
      have hat := Cm.at_ hroot (.slice Ap x.1[k].par.length cp)
      have hcp0 : wr.cell? ⟨gc, oc + k * 35 + 32, none⟩ = some (.slice Ap x.1[k].par.length cp) := hce 32 _ (by rw [hes2, Array.getElem?_toList]; exact hat.1)
      have hcn0 : wr.cell? ⟨gc, oc + k * 35 + 33, none⟩ = some (.int .i64 x.1[k].num) := hce 33 _ (by rw [hes2, Array.getElem?_toList]; exact hat.2.1)
      have hcr0 : ∀ j u, (nums .u8 x.1[k].root)[j]? = some u → wr.cell? ⟨gc, oc + k * 35 + j, none⟩ = some u := fun j u hu => hce j u (by
        rw [hes2, Array.getElem?_toList]
        have := Cm.root_at (x := x.1[k]) (.slice Ap x.1[k].par.length cp) j u (by simpa [numsA] using hu)
        rwa [Nat.zero_add] at this)
      have HRC := Lib.hid (show RCommit wr S es.toArray x.1[k] from hRc)
      have HCE := Lib.hid (show ∀ j u, es.toArray[j]? = some u → wr.cell? ⟨gc, oc + k * 35 + j, none⟩ = some u from fun j u hu => hce j u (by simpa using hu))
      have HSB := Lib.hid (HSTB.out k hlt1 hlt2)
      have HBD := Lib.hid (fun h => HBAD.out k hlt1 h)
      have HMAP := Lib.hid (show RdL tEnt wr S2 vm x.2[k] from hRL)
      have HCP := Lib.hid hcp0
      have HCN := Lib.hid hcn0
      have HCR := Lib.hid hcr0
      have HPAR := Lib.hid hpar
      have HPR := Lib.hid hrp
      have HPK := Lib.hid (show ∀ y ∈ x.1[k].par, K32 y from hkp)
      have HROOT := Lib.hid hroot
      have HNK := Lib.hid (HNUM.out k HST.out (by omega))
      have HCT := Lib.hid (show x.1.take (k + 1) = x.1.take k ++ [x.1[k]] from List.take_succ_eq_append_getElem hlt1)
      have HKS := Lib.hid (ksL_snoc x.1 k hlt1)
      have HKO := Lib.hid (ckL_ok x.1[k])
      have HCK := Lib.hid (ckL_eq x.1[k])
      have HKL := Lib.hid (show (ksL (x.1.take k)).length = k by rw [ksL_length, List.length_take]; omega)
      have hkI : (k : Int) < (n : Int) := by omega
      have hk0 : (0 : Int) ≤ (k : Int) := by omega
      obtain ⟨ks, hks⟩ : ∃ ks, ksL (x.1.take k) = ks := ⟨_, rfl⟩
      rw [hks] at HO HSB HNK HKS HKL
      obtain ⟨Av, nv, cv, rfl⟩ : ∃ A n c, vm = .slice A n c := by obtain ⟨A, c, e, _⟩ := HMAP.out; exact ⟨A, _, c, e⟩
      have hd1 := hB.out.at_ 1 rfl
      obtain ⟨c, hcx⟩ : ∃ c, x.1[k] = c := ⟨_, rfl⟩
      obtain ⟨m, hmx⟩ : ∃ m, x.2[k] = m := ⟨_, rfl⟩
      rw [hcx] at HSB HRC HCP HCN HCR HPAR HPR HPK HROOT HKS HKO HCK
      rw [hmx] at HSB HMAP
      have HVM := Lib.hid hvm
      clear hce hRc hcm e2 hRL hvm e1 hpar hroot hnum hnote hes hes2 hem hrp hkp hat hcp0 hcn0 hcr0 hks hcx hmx hlp hcp HSTB HBAD HNUM
      go_wp2_with fail
      refine (l07Ok_at es.toArray c wr S HRC.out gc (oc + k * 35) HCE.out).mono ?_
      rintro e w1 ⟨rfl, hx⟩
      have HY := Lib.hid hx
      clear hx d0
      cases hok : okCm c with
      | false =>
        have hs := HBD.out (by rw [HSB.out, hok]; rfl)
        have HXF := Lib.hid (HX.out.trans HY.out)
        have HS := Lib.hid hs
        clear hs hok
        go_wp2
        go_ret
        exact ⟨by rw [HS.out]; rfl, HXF.out⟩
      | true =>
        have HOKC := Lib.hid hok
        clear hok
        have d1 : w1.cell? ⟨pb, 1, none⟩ = some (.slice (some ⟨gm, om, none⟩) n c2) := HY.out.cell hd1
        have dm : w1.cell? ⟨gm, om + k, none⟩ = some (.slice Av nv cv) := HY.out.cell HVM.out
        clear hd1
        go_wp2_with fail
        refine (specMapKey_any _ m w1 S2 (HMAP.out.ext (by decide) HY.out)).mono ?_
        rintro e w2 ⟨rfl, hx⟩
        have hKK := mapKR_ok m
        have hstK := St.nums (k := .u8) hKK.1
        have hszK := sizeN (k := .u8) hKK.1
        have hE := hx.trans (ext_alloc w2 (.cells (numsA .u8 (mapKR m).1) 53))
        have BR := Lib.hid (Blk.new w2 53 (numsA .u8 (mapKR m).1))
        replace HY := Lib.hid (HY.out.trans hE)
        have HKKO := Lib.hid hKK
        clear hx hE d1 dm hKK
        cases hoe : okE m with
        | false =>
          have hmk : mapKR m = (List.replicate 32 0, 1) := by unfold mapKR; rw [hoe]; rfl
          have hs := HBD.out (by rw [HSB.out, hoe]; simp)
          have HS := Lib.hid hs
          have hc1' : (mapKR m).2 = 1 := by rw [hmk]
          rw [hc1']
          generalize (mapKR m).1 = KM at hstK hszK BR HY ⊢
          clear hs hoe hmk hc1'
          go_wp2_with (refine wpl_storeNewB aggKey hstK rfl rfl _ _ rfl rfl rfl rfl ?_)
          generalize w2.alloc (.cells (numsA .u8 KM) 53) = w3 at BR HY ⊢
          refine wp_region_held_drew (S := fun W => Ext w3 W) (by kernel_rfl) (Ext.refl _).drew (fun hHeld => ?_)
          iterate 3
            refine tkD 0 (by simp only [List.size_toArray, List.length_cons, List.length_nil]; rfl) (by simp only [List.getElem?_toArray, List.getElem?_cons_zero, List.getElem?_cons_succ]; rfl) (by kernel_rfl) (by exact fun _ _ _ h => h) (by first | (exact Or.inl ⟨by rfl, by intro w hSw; (try dsimp only at hSw); go_simp; with_reducible rfl⟩) | (exact Or.inr ⟨by rfl, by rfl⟩)) (by assumption) ?_
            try simp only [Act.put, List.setIfInBounds_toArray, List.set_cons_zero, List.set_cons_succ]
          refine tkI 3 (v := undef) (by simp only [List.getElem?_toArray, List.getElem?_cons_zero, List.getElem?_cons_succ]; rfl) (by kernel_rfl) (by exact fun _ _ _ h => h) (by exact Or.inr ⟨by rfl, rfl⟩) (by assumption) ?_
          try simp only [Act.put, List.setIfInBounds_toArray, List.set_cons_zero, List.set_cons_succ]
          refine tkI 4 (v := undef) (by simp only [List.getElem?_toArray, List.getElem?_cons_zero, List.getElem?_cons_succ]; rfl) (by kernel_rfl) (by exact fun _ _ _ h => h) (by exact Or.inr ⟨by rfl, rfl⟩) (by assumption) ?_
          try simp only [Act.put, List.setIfInBounds_toArray, List.set_cons_zero, List.set_cons_succ]
          refine tkI 5 (v := undef) (by simp only [List.getElem?_toArray, List.getElem?_cons_zero, List.getElem?_cons_succ]; rfl) (by kernel_rfl) (by exact fun _ _ _ h => h) (by exact Or.inr ⟨by rfl, rfl⟩) (by assumption) ?_
          try simp only [Act.put, List.setIfInBounds_toArray, List.set_cons_zero, List.set_cons_succ]
          refine tkI 6 (v := undef) (by simp only [List.getElem?_toArray, List.getElem?_cons_zero, List.getElem?_cons_succ]; rfl) (by kernel_rfl) (by exact fun _ _ _ h => h) (by exact Or.inr ⟨by rfl, rfl⟩) (by assumption) ?_
          try simp only [Act.put, List.setIfInBounds_toArray, List.set_cons_zero, List.set_cons_succ]
          refine tkI 7 (v := undef) (by simp only [List.getElem?_toArray, List.getElem?_cons_zero, List.getElem?_cons_succ]; rfl) (by kernel_rfl) (by exact fun _ _ _ h => h) (by exact Or.inr ⟨by rfl, rfl⟩) (by assumption) ?_
          try simp only [Act.put, List.setIfInBounds_toArray, List.set_cons_zero, List.set_cons_succ]
          refine tkI 8 (v := undef) (by simp only [List.getElem?_toArray, List.getElem?_cons_zero, List.getElem?_cons_succ]; rfl) (by kernel_rfl) (by exact fun _ _ _ h => h) (by exact Or.inr ⟨by rfl, rfl⟩) (by assumption) ?_
          try simp only [Act.put, List.setIfInBounds_toArray, List.set_cons_zero, List.set_cons_succ]
          refine tkI 9 (by simp only [List.getElem?_toArray, List.getElem?_cons_zero, List.getElem?_cons_succ]; rfl) (by kernel_rfl) (by exact fun _ _ _ h => h) (by first | (exact Or.inl ⟨by rfl, by intro w hSw; (try dsimp only at hSw); go_simp; with_reducible rfl⟩) | (exact Or.inr ⟨by rfl, by rfl⟩)) (by assumption) ?_
          try simp only [Act.put, List.setIfInBounds_toArray, List.set_cons_zero, List.set_cons_succ]
          refine wpAnyH_done (by kernel_rfl) ?_ _
          have HXF := Lib.hid (HX.out.trans (HY.out.trans hHeld))
          clear hHeld
          go_wp2
          go_ret
          exact ⟨by rw [HS.out]; rfl, HXF.out⟩
        | true =>
          have hmk : mapKR m = ((trF m.length m).key, 0) := by unfold mapKR; rw [hoe]; rfl
          have hc1' : (mapKR m).2 = 0 := by rw [hmk]
          have hc2' : (mapKR m).1 = (trF m.length m).key := by rw [hmk]
          rw [hc1']
          rw [hc2'] at hstK hszK BR HY HKKO ⊢
          have HOE := Lib.hid hoe
          have heq := run_neqKey (trF m.length m).key c.root HKKO.out HROOT.out
          obtain ⟨Q, hQ⟩ : ∃ Q, decide ((trF m.length m).key = c.root) = Q := ⟨_, rfl⟩
          rw [hQ] at heq HSB
          rw [HOKC.out, HOE.out] at HSB
          have hrl : (nums .u8 c.root).length = 32 := by rw [nums_length, HROOT.out.1]
          generalize (trF m.length m).key = KM at hstK hszK BR HY heq HKKO ⊢
          clear hoe hmk hc1' hc2' hQ
          go_wp2_with (refine wpl_storeNewB aggKey hstK rfl rfl _ _ rfl rfl rfl rfl ?_)
          generalize w2.alloc (.cells (numsA .u8 KM) 53) = w3 at BR HY ⊢
          have HROT := Lib.hid (fun W (hW : Ext w3 W) j u hu => (HY.out.trans hW).cell (HCR.out j u hu))
          refine wp_region_held_drew (S := fun W => Ext w3 W) (by kernel_rfl) (Ext.refl _).drew (fun hHeld => ?_)
          iterate 3
            refine tkD 0 (by simp only [List.size_toArray, List.length_cons, List.length_nil]; rfl) (by simp only [List.getElem?_toArray, List.getElem?_cons_zero, List.getElem?_cons_succ]; rfl) (by kernel_rfl) (by exact fun _ _ _ h => h) (by first | (exact Or.inl ⟨by rfl, by intro w hSw; (try dsimp only at hSw); go_simp; with_reducible rfl⟩) | (exact Or.inr ⟨by rfl, by rfl⟩)) (by assumption) ?_
            try simp only [Act.put, List.setIfInBounds_toArray, List.set_cons_zero, List.set_cons_succ]
          refine tkI 3 (v := (.agg (numsA .u8 KM))) (by simp only [List.getElem?_toArray, List.getElem?_cons_zero, List.getElem?_cons_succ]; rfl) (by kernel_rfl) (by exact fun _ _ _ h => h) (by refine yields_loadBSP (fun W hW => BR.out.ext hW) aggKey hszK ?_ _ rfl rfl; rfl) (by assumption) ?_
          try simp only [Act.put, List.setIfInBounds_toArray, List.set_cons_zero, List.set_cons_succ]
          iterate 3
            refine tkD 0 (by simp only [List.size_toArray, List.length_cons, List.length_nil]; rfl) (by simp only [List.getElem?_toArray, List.getElem?_cons_zero, List.getElem?_cons_succ]; rfl) (by kernel_rfl) (by exact fun _ _ _ h => h) (by first | (exact Or.inl ⟨by rfl, by intro w hSw; (try dsimp only at hSw); go_simp; with_reducible rfl⟩) | (exact Or.inr ⟨by rfl, by rfl⟩)) (by assumption) ?_
            try simp only [Act.put, List.setIfInBounds_toArray, List.set_cons_zero, List.set_cons_succ]
          refine tkI 7 (v := (.agg (numsA .u8 c.root))) (by simp only [List.getElem?_toArray, List.getElem?_cons_zero, List.getElem?_cons_succ]; rfl) (by kernel_rfl) (by exact fun _ _ _ h => h) (by refine yields_loadSP gc (oc + k * 35) (nums .u8 c.root) (by rw [hrl]; exact aggKey) HROT.out ?_ _ rfl rfl; rfl) (by assumption) ?_
          try simp only [Act.put, List.setIfInBounds_toArray, List.set_cons_zero, List.set_cons_succ]
          iterate 2
            refine tkD 0 (by simp only [List.size_toArray, List.length_cons, List.length_nil]; rfl) (by simp only [List.getElem?_toArray, List.getElem?_cons_zero, List.getElem?_cons_succ]; rfl) (by kernel_rfl) (by exact fun _ _ _ h => h) (by first | (exact Or.inl ⟨by rfl, by intro w hSw; (try dsimp only at hSw); go_simp; with_reducible rfl⟩) | (exact Or.inr ⟨by rfl, by rfl⟩)) (by assumption) ?_
            try simp only [Act.put, List.setIfInBounds_toArray, List.set_cons_zero, List.set_cons_succ]
          refine wpAnyH_done (by kernel_rfl) ?_ _
          replace HY := Lib.hid (HY.out.trans hHeld)
          clear hHeld heq HROT BR
          cases Q with
          | false =>
            have hs := HBD.out (by rw [HSB.out]; simp)
            have HXF := Lib.hid (HX.out.trans HY.out)
            have HS := Lib.hid hs
            clear hs
            go_wp2
            go_ret
            exact ⟨by rw [HS.out]; rfl, HXF.out⟩
          | true =>
            generalize w3.drew = w4 at HY ⊢
            simp only [Bool.not_true]
            have HRDK := Lib.hid HO.out.rd
            have hp3 : c.par.length ≤ 3 := (okCm_le HOKC.out).1
            have HKB := Lib.hid (fun q h => knB_succ ks c.par q h)
            have HKX := Lib.hid (fun q h1 h2 h3 => knB_bad ks c.par q c.par.length h1 h2 h3)
            go_wp2_with fail
            go_loopw [8] (fun j wq => ∃ q : Nat, q ≤ c.par.length ∧ j = .int .i64 q ∧ knB ks c.par q = true ∧ Ext wr wq) (fun j _ => c.par.length - (intOf j).toNat)
            case atStart => exact ⟨0, by omega, rfl, knB_zero _ _, HY.out⟩
            case round =>
              obtain ⟨q, hq, rfl, hkn, hx⟩ := hrel
              have HZ := Lib.hid hx
              have HKN := Lib.hid hkn
              have dP := hx.cell HCP.out
              clear hx hkn HY
              by_cases hlq : q < c.par.length
              · obtain ⟨gp, op, rfl, _, hcq⟩ := HPR.out.elem HPK.out q hlq
                have HCQ := Lib.hid (fun j u hu => HZ.out.cell (hcq j u hu))
                have HPQ := Lib.hid (HPK.out _ (List.getElem_mem hlq))
                have HHQ := Lib.hid (fun (W : World) (S9 : Nat → Prop) hW => l01Has_any (.slice Ck nk ck) ks (c.par[q]'hlq) HPQ.out W S9 hW)
                have HS1 := Lib.hid (HKB.out q hlq)
                have HS2 := Lib.hid (fun h => HKX.out q hlq hlq h)
                have hpl : (nums .u8 (c.par[q]'hlq)).length = 32 := by rw [nums_length, HPQ.out.1]
                have hqI : (q : Int) < (c.par.length : Int) := by omega
                have hq0 : (0 : Int) ≤ (q : Int) := by omega
                obtain ⟨y, hy⟩ : ∃ y, c.par[q]'hlq = y := ⟨_, rfl⟩
                rw [hy] at HCQ HHQ HS1 HS2 hpl
                clear hcq hy HPQ
                go_wp2_with (refine wpl_load ⟨gp, op + q * 32, none⟩ (nums .u8 y) (by rw [hpl]; exact aggKey) rfl _ rfl rfl (fun j u hu => by rw [Addr.add_lit]; exact HCQ.out j u hu) ?_)
                refine (HHQ.out _ _ (HRDK.out.ext (by decide) HZ.out)).mono ?_
                rintro e w5 ⟨rfl, hx⟩
                have HZ2 := Lib.hid (HZ.out.trans hx)
                clear hx
                cases hB1 : ks.contains y with
                | true =>
                  have HB1 := Lib.hid hB1
                  clear hB1
                  go_wp2
                  go_roundw
                  case rel => exact ⟨q + 1, by omega, by go_num, by rw [HS1.out, HKN.out, HB1.out]; rfl, HZ2.out⟩
                  case measure => simp [intOf]; omega
                | false =>
                  have hs := HBD.out (by rw [HSB.out, HS2.out hB1]; simp)
                  have HXF := Lib.hid (HX.out.trans HZ2.out)
                  have HS := Lib.hid hs
                  clear hs hB1
                  go_wp2
                  go_ret
                  exact ⟨by rw [HS.out]; rfl, HXF.out⟩
              · obtain rfl : q = c.par.length := by omega
                rw [HKN.out] at HSB
                have HMM := Lib.hid (fun j (hj : j < c.par.length) => knB_mem HKN.out j hj hj)
                clear dP HKB HKX
                have dP := HZ.out.cell HCP.out
                go_wp2_with fail
                refine (l07Key_at es.toArray c HOKC.out _ S (HRC.out.ext HZ.out) gc (oc + k * 35) (fun j u hu => HZ.out.cell (HCE.out j u hu))).mono ?_
                rintro e w5 ⟨rfl, hx⟩
                rw [← HCK.out]
                have hstO := St.nums (k := .u8) HKO.out.1
                have hszO := sizeN (k := .u8) HKO.out.1
                have HCH := Lib.hid (fun (W : World) (S9 : Nat → Prop) hW => l01Has_any (.slice Ck nk ck) ks (ckL c) HKO.out W S9 hW)
                have hE := hx.trans (ext_alloc w5 (.cells (numsA .u8 (ckL c)) 53))
                have BO := Lib.hid (Blk.new w5 53 (numsA .u8 (ckL c)))
                replace HZ := Lib.hid (HZ.out.trans hE)
                obtain ⟨own, hown⟩ : ∃ own, ckL c = own := ⟨_, rfl⟩
                rw [hown] at hstO hszO HCH BO HZ HKO HKS HSB ⊢
                obtain ⟨B2, hB2⟩ : ∃ B2, ks.contains own = B2 := ⟨_, rfl⟩
                rw [hB2] at HSB
                simp only [hB2] at HCH
                clear hx hE dP hown HCK hB2
                go_wp2_with (refine wpl_storeNewB aggKey hstO rfl rfl _ _ rfl rfl rfl rfl ?_)
                generalize w5.alloc (.cells (numsA .u8 own) 53) = w6 at BO HZ ⊢
                have HRN := Lib.hid (show RdN nrCommit _ S (.slice (some ⟨gc, oc, none⟩) n c1) x.1 from by have := HR.out.ext HX.out; rwa [HN.out] at this)
                have HLN := Lib.hid (show ks.length ≤ x.1.length by rw [HKL.out]; omega)
                have HNM := Lib.hid (fun W (h1 : Ext w6 W) => l07Number_any pb _ _ (.slice Ck nk ck) (.slice Ap c.par.length cp) x.1 ks c.par W _ _ _ (hB.out.ext (HZ.out.trans h1)) (HRN.out.ext (HZ.out.trans h1)) (HRDK.out.ext (by decide) (HZ.out.trans h1)) (HPAR.out.ext (by decide) (HZ.out.trans h1)) HMM.out HLN.out HNK.out)
                obtain ⟨NM, hNM⟩ : ∃ NM, nmL x.1 ks c.par c.par.length = NM := ⟨_, rfl⟩
                simp only [hNM] at HNM HSB
                obtain ⟨E, hE⟩ : ∃ E, decide (c.num = NM) = E := ⟨_, rfl⟩
                rw [hE] at HSB
                have hne : (c.num != NM) = !E := by rw [← hE]; by_cases e : c.num = NM <;> simp [e]
                have HDN := Lib.hid (fun W (h1 : Ext w6 W) => (HZ.out.trans h1).cell HCN.out)
                have HDP := Lib.hid (fun W (h1 : Ext w6 W) => (HZ.out.trans h1).cell HCP.out)
                clear hNM hE
                cases E with
                | false =>
                  have hs := HBD.out (by rw [HSB.out]; simp)
                  have HS := Lib.hid hs
                  clear hs
                  simp only [Bool.not_false] at hne
                  go_wp2_with fail
                  refine wp_region_held_drew (S := fun W => Ext w6 W) (by kernel_rfl) (Ext.refl _).drew (fun hHeld => ?_)
                  iterate 3
                    refine tkD 0 (by simp only [List.size_toArray, List.length_cons, List.length_nil]; rfl) (by simp only [List.getElem?_toArray, List.getElem?_cons_zero, List.getElem?_cons_succ]; rfl) (by kernel_rfl) (by exact fun _ _ _ h => h) (by first | (exact Or.inl ⟨by rfl, by intro w hSw; (try dsimp only at hSw); go_simp; with_reducible rfl⟩) | (exact Or.inr ⟨by rfl, by rfl⟩)) (by assumption) ?_
                    try simp only [Act.put, List.setIfInBounds_toArray, List.set_cons_zero, List.set_cons_succ]
                  refine tkI 3 (by simp only [List.getElem?_toArray, List.getElem?_cons_zero, List.getElem?_cons_succ]; rfl) (by kernel_rfl) (by exact fun _ _ _ h => h) (by exact Or.inl ⟨by rfl, by intro W hSw; have e0 := HDN.out W hSw; go_simp; with_reducible rfl⟩) (by assumption) ?_
                  try simp only [Act.put, List.setIfInBounds_toArray, List.set_cons_zero, List.set_cons_succ]
                  iterate 5
                    refine tkD 0 (by simp only [List.size_toArray, List.length_cons, List.length_nil]; rfl) (by simp only [List.getElem?_toArray, List.getElem?_cons_zero, List.getElem?_cons_succ]; rfl) (by kernel_rfl) (by exact fun _ _ _ h => h) (by first | (exact Or.inl ⟨by rfl, by intro w hSw; (try dsimp only at hSw); go_simp; with_reducible rfl⟩) | (exact Or.inr ⟨by rfl, by rfl⟩)) (by assumption) ?_
                    try simp only [Act.put, List.setIfInBounds_toArray, List.set_cons_zero, List.set_cons_succ]
                  refine tkI 9 (by simp only [List.getElem?_toArray, List.getElem?_cons_zero, List.getElem?_cons_succ]; rfl) (by kernel_rfl) (by exact fun _ _ _ h => h) (by exact Or.inl ⟨by rfl, by intro W hSw; have e0 := HDP.out W hSw; go_simp; with_reducible rfl⟩) (by assumption) ?_
                  try simp only [Act.put, List.setIfInBounds_toArray, List.set_cons_zero, List.set_cons_succ]
                  refine wpAnyH_ready (rs := [10]) (by kernel_rfl) (by simp) (AllReadyH.cons (o := ?oy3110) ?hy3110 (fun K hK => ?sy3110) AllReadyH.nil)
                  case hy3110 => simp only [List.getElem?_toArray, List.getElem?_cons_zero, List.getElem?_cons_succ]; rfl
                  go_simp
                  refine (HNM.out _ hHeld).mono ?_
                  rintro e w7 ⟨rfl, hx⟩
                  have hH2 := hHeld.trans hx
                  refine hK.out _ _ hH2 (fun _ => ?_)
                  clear hHeld hK K
                  have hHeld := hH2
                  clear hH2
                  try simp only [Act.put, List.setIfInBounds_toArray, List.set_cons_zero, List.set_cons_succ]
                  iterate 2
                    refine tkD 0 (by simp only [List.size_toArray, List.length_cons, List.length_nil]; rfl) (by simp only [List.getElem?_toArray, List.getElem?_cons_zero, List.getElem?_cons_succ]; rfl) (by kernel_rfl) (by exact fun _ _ _ h => h) (by first | (exact Or.inl ⟨by rfl, by intro w hSw; (try dsimp only at hSw); go_simp; with_reducible rfl⟩) | (exact Or.inr ⟨by rfl, by rfl⟩)) (by assumption) ?_
                    try simp only [Act.put, List.setIfInBounds_toArray, List.set_cons_zero, List.set_cons_succ]
                  refine tkI 13 (v := undef) (by simp only [List.getElem?_toArray, List.getElem?_cons_zero, List.getElem?_cons_succ]; rfl) (by kernel_rfl) (by exact fun _ _ _ h => h) (by exact Or.inr ⟨by rfl, rfl⟩) (by assumption) ?_
                  try simp only [Act.put, List.setIfInBounds_toArray, List.set_cons_zero, List.set_cons_succ]
                  refine tkI 14 (v := undef) (by simp only [List.getElem?_toArray, List.getElem?_cons_zero, List.getElem?_cons_succ]; rfl) (by kernel_rfl) (by exact fun _ _ _ h => h) (by exact Or.inr ⟨by rfl, rfl⟩) (by assumption) ?_
                  try simp only [Act.put, List.setIfInBounds_toArray, List.set_cons_zero, List.set_cons_succ]
                  refine tkI 15 (v := undef) (by simp only [List.getElem?_toArray, List.getElem?_cons_zero, List.getElem?_cons_succ]; rfl) (by kernel_rfl) (by exact fun _ _ _ h => h) (by exact Or.inr ⟨by rfl, rfl⟩) (by assumption) ?_
                  try simp only [Act.put, List.setIfInBounds_toArray, List.set_cons_zero, List.set_cons_succ]
                  refine tkI 16 (by simp only [List.getElem?_toArray, List.getElem?_cons_zero, List.getElem?_cons_succ]; rfl) (by kernel_rfl) (by exact fun _ _ _ h => h) (by first | (exact Or.inl ⟨by rfl, by intro w hSw; (try dsimp only at hSw); go_simp; with_reducible rfl⟩) | (exact Or.inr ⟨by rfl, by rfl⟩)) (by assumption) ?_
                  try simp only [Act.put, List.setIfInBounds_toArray, List.set_cons_zero, List.set_cons_succ]
                  refine wpAnyH_done (by kernel_rfl) ?_ _

                  have HXF := Lib.hid (HX.out.trans (HZ.out.trans hHeld))
                  clear hHeld
                  go_wp2
                  go_ret
                  exact ⟨by rw [HS.out]; rfl, HXF.out⟩
                | true =>
                  simp only [Bool.not_true] at hne
                  go_wp2_with fail
                  refine wp_region_held_drew (S := fun W => Ext w6 W) (by kernel_rfl) (Ext.refl _).drew (fun hHeld => ?_)
                  iterate 3
                    refine tkD 0 (by simp only [List.size_toArray, List.length_cons, List.length_nil]; rfl) (by simp only [List.getElem?_toArray, List.getElem?_cons_zero, List.getElem?_cons_succ]; rfl) (by kernel_rfl) (by exact fun _ _ _ h => h) (by first | (exact Or.inl ⟨by rfl, by intro w hSw; (try dsimp only at hSw); go_simp; with_reducible rfl⟩) | (exact Or.inr ⟨by rfl, by rfl⟩)) (by assumption) ?_
                    try simp only [Act.put, List.setIfInBounds_toArray, List.set_cons_zero, List.set_cons_succ]
                  refine tkI 3 (by simp only [List.getElem?_toArray, List.getElem?_cons_zero, List.getElem?_cons_succ]; rfl) (by kernel_rfl) (by exact fun _ _ _ h => h) (by exact Or.inl ⟨by rfl, by intro W hSw; have e0 := HDN.out W hSw; go_simp; with_reducible rfl⟩) (by assumption) ?_
                  try simp only [Act.put, List.setIfInBounds_toArray, List.set_cons_zero, List.set_cons_succ]
                  iterate 5
                    refine tkD 0 (by simp only [List.size_toArray, List.length_cons, List.length_nil]; rfl) (by simp only [List.getElem?_toArray, List.getElem?_cons_zero, List.getElem?_cons_succ]; rfl) (by kernel_rfl) (by exact fun _ _ _ h => h) (by first | (exact Or.inl ⟨by rfl, by intro w hSw; (try dsimp only at hSw); go_simp; with_reducible rfl⟩) | (exact Or.inr ⟨by rfl, by rfl⟩)) (by assumption) ?_
                    try simp only [Act.put, List.setIfInBounds_toArray, List.set_cons_zero, List.set_cons_succ]
                  refine tkI 9 (by simp only [List.getElem?_toArray, List.getElem?_cons_zero, List.getElem?_cons_succ]; rfl) (by kernel_rfl) (by exact fun _ _ _ h => h) (by exact Or.inl ⟨by rfl, by intro W hSw; have e0 := HDP.out W hSw; go_simp; with_reducible rfl⟩) (by assumption) ?_
                  try simp only [Act.put, List.setIfInBounds_toArray, List.set_cons_zero, List.set_cons_succ]
                  refine wpAnyH_ready (rs := [10]) (by kernel_rfl) (by simp) (AllReadyH.cons (o := ?oy4810) ?hy4810 (fun K hK => ?sy4810) AllReadyH.nil)
                  case hy4810 => simp only [List.getElem?_toArray, List.getElem?_cons_zero, List.getElem?_cons_succ]; rfl
                  go_simp
                  refine (HNM.out _ hHeld).mono ?_
                  rintro e w7 ⟨rfl, hx⟩
                  have hH2 := hHeld.trans hx
                  refine hK.out _ _ hH2 (fun _ => ?_)
                  clear hHeld hK K
                  have hHeld := hH2
                  clear hH2
                  try simp only [Act.put, List.setIfInBounds_toArray, List.set_cons_zero, List.set_cons_succ]
                  iterate 3
                    refine tkD 0 (by simp only [List.size_toArray, List.length_cons, List.length_nil]; rfl) (by simp only [List.getElem?_toArray, List.getElem?_cons_zero, List.getElem?_cons_succ]; rfl) (by kernel_rfl) (by exact fun _ _ _ h => h) (by first | (exact Or.inl ⟨by rfl, by intro w hSw; (try dsimp only at hSw); go_simp; with_reducible rfl⟩) | (exact Or.inr ⟨by rfl, by rfl⟩)) (by assumption) ?_
                    try simp only [Act.put, List.setIfInBounds_toArray, List.set_cons_zero, List.set_cons_succ]
                  refine tkI 14 (v := (.agg (numsA .u8 own))) (by simp only [List.getElem?_toArray, List.getElem?_cons_zero, List.getElem?_cons_succ]; rfl) (by kernel_rfl) (by exact fun _ _ _ h => h) (by refine yields_loadBSP (fun W hW => BO.out.ext hW) aggKey hszO ?_ _ rfl rfl; rfl) (by assumption) ?_
                  try simp only [Act.put, List.setIfInBounds_toArray, List.set_cons_zero, List.set_cons_succ]
                  refine wpAnyH_ready (rs := [15]) (by kernel_rfl) (by simp) (AllReadyH.cons (o := ?oy5315) ?hy5315 (fun K hK => ?sy5315) AllReadyH.nil)
                  case hy5315 => simp only [List.getElem?_toArray, List.getElem?_cons_zero, List.getElem?_cons_succ]; rfl
                  go_simp
                  refine (HCH.out _ _ (HRDK.out.ext (by decide) (HZ.out.trans hHeld))).mono ?_
                  rintro e w8 ⟨rfl, hx⟩
                  have hH2 := hHeld.trans hx
                  refine hK.out _ _ hH2 (fun _ => ?_)
                  clear hHeld hK K
                  have hHeld := hH2
                  clear hH2
                  try simp only [Act.put, List.setIfInBounds_toArray, List.set_cons_zero, List.set_cons_succ]
                  refine tkI 16 (by simp only [List.getElem?_toArray, List.getElem?_cons_zero, List.getElem?_cons_succ]; rfl) (by kernel_rfl) (by exact fun _ _ _ h => h) (by first | (exact Or.inl ⟨by rfl, by intro w hSw; (try dsimp only at hSw); go_simp; with_reducible rfl⟩) | (exact Or.inr ⟨by rfl, by rfl⟩)) (by assumption) ?_
                  try simp only [Act.put, List.setIfInBounds_toArray, List.set_cons_zero, List.set_cons_succ]
                  refine wpAnyH_done (by kernel_rfl) ?_ _

                  have HZ8 := Lib.hid (HZ.out.trans hHeld)
                  have BO8 := Lib.hid (BO.out.ext hHeld)
                  have HO8 := Lib.hid (HO.out.ext HZ8.out)
                  have HX8 := Lib.hid (HX.out.trans HZ8.out)
                  clear hHeld BO
                  cases B2 with
                  | true =>
                    have hs := HBD.out (by rw [HSB.out]; simp)
                    have HS := Lib.hid hs
                    clear hs
                    go_wp2
                    go_ret
                    exact ⟨by rw [HS.out]; rfl, HX8.out⟩
                  | false =>
                    have hst2 : stB x k = true := by rw [HSB.out]; rfl
                    have HS2 := Lib.hid (show stN x (k + 1) = true by rw [HSTN.out, HST.out, hst2]; rfl)
                    have hkl2 : (ks ++ [own]).length ≤ 100 := by rw [List.length_append, HKL.out]; simp; omega
                    have HLL := Lib.hid hkl2
                    clear hst2 hkl2
                    go_wp2_with (first
                      | (refine wpl_loadB BO8.out aggKey hszO rfl _ rfl rfl ?_)
                      | (refine wpl_one rowKeyL (by decide) own HKO.out rfl _ rfl rfl ?_)
                      | (at_builtin; refine wpl_append rowKeyL rfl _ _ rfl (v := .slice Ck nk ck) rfl (HO8.out.alloc (.cells (tKey.enc own).toArray 53)) _ _ rfl (A := some ⟨w8.heap.size, 0, none⟩) (ys := [own]) rfl (rd_one (T := tKey) w8 own HKO.out _) (by intro y hy; obtain rfl := List.mem_singleton.1 hy; exact HKO.out) (by have := HLL.out; rw [List.length_append] at this; omega) (HX8.out.alloc _).size ?_; intro v9 w9 ho9 hg9 hat9; have HX9 := Lib.hid ((HO8.out.alloc (.cells (tKey.enc own).toArray 53)).ext_app (HX8.out.alloc _) hg9); have HO9 := Lib.hid ho9; obtain ⟨C9, n9, c9, rfl⟩ := ho9.shape3; clear ho9 hg9 hat9))
                    go_roundw
                    case rel => exact ⟨k + 1, by omega, by go_num, by rw [HKS.out]; exact HO9.out, HS2.out, HX9.out⟩
                    case measure => simp [intOf]; omega
    · obtain rfl : k = n := by omega
      have HRT := Lib.hid (HOK.out.trans HST.out)
      go_wp2
      go_ret
      exact ⟨by rw [HRT.out]; rfl, HX.out⟩
end Go.Proofs.Ytnklgkmpcochfaa
/- The program's ledger: a key found, a commit's number. No condition. -/
namespace Go.Proofs.Ytnklgkmpcochfaa
open Go.RowKit
set_option linter.unusedVariables false
set_option linter.unusedSimpArgs false

/-- the cells of a ledger -/
abbrev lgC (v1 v2 vk : Value) : Array Value := #[v1, v2, vk]
set_option maxHeartbeats 1000000 in
set_option maxRecDepth 100000 in
theorem lgFind_any (lb : Nat) (v1 v2 vk : Value) (ks : List (List Int)) (K : List Int) (hK : K32 K) (w : World) (S : Nat → Prop) (hb : Blk w lb 140 (lgC v1 v2 vk)) (hk : RdL tKey w S vk ks) :
    Calls Try.prog 75 #[.pointer (some ⟨lb, 0, none⟩), .agg (numsA .u8 K)] w fun q w' => q = .returned (.tuple #[.int .i64 (fdI ks K), .bool (decide (0 ≤ fdI ks K))]) ∧ Ext w w' := by
  have hks := sizeN (k := .u8) hK.1
  have BK := Lib.hid (Blk.new w 53 (numsA .u8 K))
  have HE := Lib.hid (ext_alloc w (.cells (numsA .u8 K) 53))
  have HB := Lib.hid (hb.alloc (.cells (numsA .u8 K) 53))
  have HIX := Lib.hid (fun W hW => idxK_any vk ks K hK W S hW)
  have HR := Lib.hid hk
  obtain ⟨Ak, ck, rfl, _⟩ := id hk
  generalize fdI ks K = I at HIX ⊢
  clear hb hk hK
  go_enter Try.func75, Try.ntmps75
  go_wp2_with fail
  generalize w.alloc (.cells (numsA .u8 K) 53) = w1 at BK HE HB ⊢
  refine wp_region_held_drew (S := fun W => Ext w1 W) (by kernel_rfl) (Ext.refl _).drew (fun hHeld => ?_)
  iterate 3
    refine tkD 0 (by simp only [List.size_toArray, List.length_cons, List.length_nil]; rfl) (by simp only [List.getElem?_toArray, List.getElem?_cons_zero, List.getElem?_cons_succ]; rfl) (by kernel_rfl) (by exact fun _ _ _ h => h) (by first | (exact Or.inl ⟨by rfl, by intro w hSw; (try dsimp only at hSw); go_simp; with_reducible rfl⟩) | (exact Or.inr ⟨by rfl, by rfl⟩)) (by assumption) ?_
    try simp only [Act.put, List.setIfInBounds_toArray, List.set_cons_zero, List.set_cons_succ]
  refine tkI 3 (by simp only [List.getElem?_toArray, List.getElem?_cons_zero, List.getElem?_cons_succ]; rfl) (by kernel_rfl) (by exact fun _ _ _ h => h) (by exact Or.inl ⟨by rfl, by intro W hSw; have e0 := (HB.out.ext hSw).at_ 2 rfl; go_simp; with_reducible rfl⟩) (by assumption) ?_
  try simp only [Act.put, List.setIfInBounds_toArray, List.set_cons_zero, List.set_cons_succ]
  refine tkI 4 (v := (.agg (numsA .u8 K))) (by simp only [List.getElem?_toArray, List.getElem?_cons_zero, List.getElem?_cons_succ]; rfl) (by kernel_rfl) (by exact fun _ _ _ h => h) (by refine yields_loadBSP (fun W hW => BK.out.ext hW) aggKey hks ?_ _ rfl rfl; rfl) (by assumption) ?_
  try simp only [Act.put, List.setIfInBounds_toArray, List.set_cons_zero, List.set_cons_succ]
  refine wpAnyH_ready (rs := [5]) (by kernel_rfl) (by simp) (AllReadyH.cons (o := ?oy65) ?hy65 (fun K hK => ?sy65) AllReadyH.nil)
  case hy65 => simp only [List.getElem?_toArray, List.getElem?_cons_zero, List.getElem?_cons_succ]; rfl
  go_simp
  refine (HIX.out _ (HR.out.ext (by decide) (HE.out.trans hHeld))).mono ?_
  rintro e w2 ⟨rfl, hx⟩
  have hH2 := hHeld.trans hx
  refine hK.out _ _ hH2 (fun _ => ?_)
  clear hHeld hK K
  have hHeld := hH2
  clear hH2
  try simp only [Act.put, List.setIfInBounds_toArray, List.set_cons_zero, List.set_cons_succ]
  refine tkI 6 (by simp only [List.getElem?_toArray, List.getElem?_cons_zero, List.getElem?_cons_succ]; rfl) (by kernel_rfl) (by exact fun _ _ _ h => h) (by first | (exact Or.inl ⟨by rfl, by intro w hSw; (try dsimp only at hSw); go_simp; with_reducible rfl⟩) | (exact Or.inr ⟨by rfl, by rfl⟩)) (by assumption) ?_
  try simp only [Act.put, List.setIfInBounds_toArray, List.set_cons_zero, List.set_cons_succ]
  refine wpAnyH_done (by kernel_rfl) ?_ _
  have HXF := Lib.hid (HE.out.trans hHeld)
  clear hHeld
  go_wp2
  go_ret2
  exact ⟨rfl, HXF.out⟩
theorem fdI_pos {ks : List (List Int)} {k : List Int} : decide (0 ≤ fdI ks k) = ks.contains k := by
  by_cases h : k ∈ ks
  · obtain ⟨h1, h2⟩ := fdI_lt h
    rw [decide_eq_true (by omega), List.contains_iff_mem.2 h]
  · rw [decide_eq_false (by rw [fdI_none h]; omega)]
    cases hc : ks.contains k with
    | true => exact absurd (List.contains_iff_mem.1 hc) h
    | false => rfl
set_option maxHeartbeats 2000000 in
set_option maxRecDepth 100000 in
theorem lgNumber_any (lb : Nat) (v1 v2 vk vp : Value) (cs : List Cm) (ks par : List (List Int)) (w : World) (S S1 S2 : Nat → Prop) (hb : Blk w lb 140 (lgC v1 v2 vk)) (hr : RdN nrCommit w S v1 cs) (hk : RdL tKey w S1 vk ks) (hp : RdL tKey w S2 vp par) (hl : ks.length ≤ cs.length) (hn : ∀ i, i < ks.length → 0 ≤ gC cs i ∧ gC cs i ≤ 40) :
    Calls Try.prog 87 #[.pointer (some ⟨lb, 0, none⟩), vp] w fun q w' => ∃ z, q = .returned (.tuple #[.int .i64 z, .bool (knB ks par par.length)]) ∧ (knB ks par par.length = true → z = nmL cs ks par par.length) ∧ Ext w w' := by
  obtain ⟨A1, c1, rfl, _⟩ := id hr.shape
  obtain ⟨Ak, ck, rfl, _⟩ := id hk
  obtain ⟨Ap, cp, rfl, hcp, hlp, hrp, hkp⟩ := id hp
  have HB := Lib.hid hb
  have HR := Lib.hid hr
  have HK := Lib.hid hk
  have Hrp := Lib.hid hrp
  have Hkp := Lib.hid (show ∀ x ∈ par, K32 x from hkp)
  have HN := Lib.hid hn
  obtain ⟨B, hB0⟩ : ∃ B, knB ks par par.length = B := ⟨_, rfl⟩
  have HBB := Lib.hid hB0
  rw [hB0]
  have HKB := Lib.hid (fun q h => knB_succ ks par q h)
  have HKX := Lib.hid (fun q h1 h2 h3 => knB_bad ks par q par.length h1 h2 h3)
  have hzA : (Try.prog.info? 53).map (·.zero) = some (some (.agg (numsA .u8 (List.replicate 32 0)))) := by kernel_rfl
  have HZA := Lib.hid hzA
  have HZS := Lib.hid (show (numsA .u8 (List.replicate 32 0)).size = 32 by simp [numsA, nums])
  generalize numsA .u8 (List.replicate 32 0) = ZA at HZA HZS
  clear hb hr hk hp hrp hkp hn hzA hB0
  go_enter Try.func87, Try.ntmps87
  go_wp2
  go_loopw [6, 8, 9, 10, 13] (fun m _ _ _ i wr => ∃ k : Nat, k ≤ par.length ∧ i = .int .i64 k ∧ m = .int .i64 (nmL cs ks par k) ∧ knB ks par k = true ∧ 0 ≤ nmL cs ks par k ∧ nmL cs ks par k ≤ 41 ∧ Ext w wr) (fun _ _ _ _ i _ => par.length - (intOf i).toNat)
  case atStart => exact ⟨0, by omega, rfl, by rw [nmL_zero], knB_zero _ _, by rw [nmL_zero]; omega, by rw [nmL_zero]; omega, Ext.refl _⟩
  case round =>
    obtain ⟨k, hk, rfl, rfl, hkn, hm0, hm1, hx⟩ := hrel
    have HX := Lib.hid hx
    have HKN := Lib.hid hkn
    clear hx hkn
    by_cases hlt : k < par.length
    · obtain ⟨g, o, rfl, _, hc⟩ := Hrp.out.elem Hkp.out k hlt
      have HPK := Lib.hid (Hkp.out _ (List.getElem_mem hlt))
      have HSU := Lib.hid (nmL_succ cs ks par k)
      rw [gL_lt hlt] at HSU
      have HS1 := Lib.hid (HKB.out k hlt)
      have HS2 := Lib.hid (fun h => HKX.out k hlt hlt h)
      have HC := Lib.hid (show ∀ j u, (nums .u8 (par[k]'hlt))[j]? = some u → wr.cell? ((⟨g, o + k * 32, none⟩ : Addr).add j) = some u from fun j u hu => by rw [Addr.add_lit]; exact HX.out.cell (hc j u hu))
      have HFD := Lib.hid (fun (W : World) hb hW => lgFind_any lb (.slice A1 cs.length c1) v2 (.slice Ak ks.length ck) ks (par[k]'hlt) HPK.out W S1 hb hW)
      have hpl := HPK.out.1
      obtain ⟨y, hy⟩ : ∃ y, (par[k]'hlt) = y := ⟨_, rfl⟩
      rw [hy] at HSU HS1 HS2 HC HFD hpl HPK
      rw [fdI_pos] at HFD
      have q0 : (0 : Int) ≤ (k : Int) := by omega
      have q1 : (k : Int) < (par.length : Int) := by omega
      have hsty := St.nums (k := .u8) hpl
      have hszy := sizeN (k := .u8) hpl
      have hBa := Lib.hid ((HB.out.ext HX.out).alloc (.cells (numsA .u8 y) 53))
      have hXa := Lib.hid (HX.out.alloc (.cells (numsA .u8 y) 53))
      have BY := Lib.hid (Blk.new wr 53 (numsA .u8 y))
      clear hc hy
      go_wp2_with (first
        | (refine wpl_load ⟨g, o + k * 32, none⟩ (nums .u8 y) (by rw [nums_length, hpl]; exact aggKey) rfl _ rfl rfl HC.out ?_)
        | (refine wpl_alloc ZA HZA.out rfl rfl ?_)
        | (refine wpl_storeNewB aggKey hsty HZS.out rfl _ _ rfl rfl rfl rfl ?_)
        | (refine wpl_loadB BY.out aggKey hszy rfl _ rfl rfl ?_))
      refine (HFD.out _ hBa.out (HK.out.ext (by decide) hXa.out)).mono ?_
      rintro e w2 ⟨rfl, hx⟩
      have HX2 := Lib.hid (hXa.out.trans hx)
      have HB2 := Lib.hid (hBa.out.ext hx)
      clear hx hXa hBa BY
      cases hmm : ks.contains y with
      | false =>
        have hs := HS2.out hmm
        have HS := Lib.hid hs
        clear hs hmm
        go_wp2
        go_ret2
        exact ⟨0, by rw [← HBB.out, HS.out]; rfl, fun h => (by rw [← HBB.out, HS.out] at h; cases h), HX2.out⟩
      | true =>
        obtain ⟨hf1, hf2⟩ := fdI_lt (List.contains_iff_mem.1 hmm)
        rw [hf1]
        have hgb := HN.out _ hf2
        have HMM := Lib.hid hmm
        obtain ⟨f, hf⟩ : ∃ f, fdK ks y = f := ⟨_, rfl⟩
        rw [hf] at HSU hf2 hgb ⊢
        clear hf hf1 hmm
        have hfl : f < cs.length := by omega
        obtain ⟨gc, oc, rfl, _, es, hes, hce, hRc⟩ := HR.out.elem f hfl
        obtain ⟨vp', e1, _, hroot, _⟩ := hRc
        have hes2 : es = ((cs[f]'hfl).cells vp').toList := by rw [← e1]
        have hnum := hce 33 (.int .i64 (cs[f]'hfl).num) (by rw [hes2, Array.getElem?_toList]; exact (Cm.at_ hroot vp').2.1)
        rw [← gC_lt hfl] at hnum
        have dN : w2.cell? ⟨gc, oc + f * 35 + 33, none⟩ = some (.int .i64 (gC cs f)) := HX2.out.cell hnum
        have dB := HB2.out.at_ 0 rfl
        have q2 : (0 : Int) ≤ (f : Int) := by omega
        have q3 : (f : Int) < (cs.length : Int) := by omega
        have q4 : IntKind.i64.wrap (gC cs f + 1) = gC cs f + 1 := IntWalk.i64_in _ (by omega)
        have HM2 := Lib.hid (show 0 ≤ nmL cs ks par (k + 1) ∧ nmL cs ks par (k + 1) ≤ 41 by rw [HSU.out]; omega)
        have HKN2 := Lib.hid (show knB ks par (k + 1) = true by rw [HS1.out, HKN.out, HMM.out]; rfl)
        generalize gC cs f = z at dN q4 HSU
        generalize nmL cs ks par k = m at HSU ⊢
        clear hce e1 hroot hes hes2 hnum
        go_wp2
        go_roundw
        case rel => exact ⟨k + 1, by omega, by go_num, (by rw [HSU.out]; congr 1; split <;> omega), HKN2.out, HM2.out.1, HM2.out.2, HX2.out⟩
        case measure => simp [intOf]; omega
    · obtain rfl : k = par.length := by omega
      have hBt : B = true := by rw [← HBB.out, HKN.out]
      have HBT := Lib.hid hBt
      clear hBt
      go_wp2
      go_ret2
      exact ⟨_, by rw [HBT.out]; rfl, fun _ => rfl, HX.out⟩
end Go.Proofs.Ytnklgkmpcochfaa
