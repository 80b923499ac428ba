/- The nodes of a map and its key: the reference. No condition. -/
import Derived.Test.YtikpakhccmdmcaaStpL
import Derived.Test.YtikpakhccmdmcaaTopS
namespace Go.Proofs.Ytikpakhccmdmcaa
open Go.RowKit
set_option linter.unusedVariables false
set_option linter.unusedSimpArgs false

def NodesC (f : Nat) : Prop := ∀ (v : Value) (L : List En), L.length ≤ f → L.length ≤ 64 → good L → ∀ (w : World) (S : Nat → Prop), RdL tEnt w S v L →
    Calls Try.prog 50 #[v] w fun e w' => ∃ v', e = .returned (.tuple #[v', .agg (numsA .u8 (trF f L).key)]) ∧ Own tNd 60 w' w.heap.size v' (trF f L).all ∧ Ext w w'
set_option maxHeartbeats 1000000 in
set_option maxRecDepth 100000 in
theorem nodes_nil (f : Nat) (v : Value) (L : List En) (h0 : L.length = 0) (w : World) (S : Nat → Prop) (h : RdL tEnt w S v L) :
    Calls Try.prog 50 #[v] w fun e w' => ∃ v', e = .returned (.tuple #[v', .agg (numsA .u8 (trF f L).key)]) ∧ Own tNd 60 w' w.heap.size v' (trF f L).all ∧ Ext w w' := by
  rw [trF_nil _ _ h0]
  obtain ⟨A, cap, rfl, hcap, hlen, _⟩ := h
  rw [h0]
  have hk := emptyL_ok.1
  clear h0 hcap hlen
  show Calls Try.prog 50 #[.slice A 0 cap] w fun e w' => ∃ v', e = .returned (.tuple #[v', .agg (numsA .u8 emptyL)]) ∧ Own tNd 60 w' w.heap.size v' [] ∧ Ext w w'
  go_enter Try.func50, Try.ntmps50
  go_wp2_with fail
  refine (l04Empty_any _).mono ?_
  rintro e w1 ⟨rfl, hx⟩
  have B3 := Lib.hid (((Blk.new w 45 _).alloc _).ext hx)
  have OE := Lib.hid ((Own.empty' tNd (g := w.heap.size + 1) (w := w.alloc _) (by simp) 60 w.heap.size (by simp)).ext hx)
  have XW := Lib.hid (((ext_alloc w _).alloc _).trans hx)
  clear hx
  go_wp2_with (refine wpl_storeN B3.out aggKey hk rfl rfl _ _ rfl rfl rfl rfl ?_)
  refine bodyPost_ret (results_tb rfl _ rfl aggKey (sizeN hk) (B3.out.setRow _) rfl) rfl ?_
  exact ⟨_, rfl, OE.out.kept (grown_row (grown_refl _ _) _) (.inr (fun e => absurd (Option.some.inj e) (by show ¬ (w.heap.size + 1 = w.heap.size); omega))), XW.out.setRow (Nat.le_refl _) _⟩
set_option maxHeartbeats 1000000 in
set_option maxRecDepth 100000 in
theorem nodes_cons1 (f : Nat) (ih : NodesC f) (A : Option Addr) (cap : Nat) (L : List En) (h0 : ¬ L.length = 0) (hf : L.length ≤ f + 1) (h64 : L.length ≤ 64) (hg : good L) (hcase : cap = topE L + 1) (w : World) (S : Nat → Prop) (h : RdL tEnt w S (.slice A L.length cap) L) :
    Calls Try.prog 50 #[.slice A L.length cap] w fun e w' => ∃ v', e = .returned (.tuple #[v', .agg (numsA .u8 (trF (f + 1) L).key)]) ∧ Own tNd 60 w' w.heap.size v' (trF (f + 1) L).all ∧ Ext w w' := by
  have hlt := topE_lt (L := L) (by omega)
  have hND := trF_ok (f + 1) L hg
  have hLL := trF_len f (L.take (topE L))
  have hLR := trF_len f (L.drop (topE L + 1))
  have htop := fun W hW => l04Top_any (.slice A L.length cap) L (by omega) hg W S hW
  rw [trF_cons _ _ h0] at hND ⊢
  obtain ⟨k, hk⟩ : ∃ k, topE L = k := ⟨_, rfl⟩
  simp only [hk] at hlt hND hLL hLR htop hcase ⊢
  rw [gE_lt hlt] at hND ⊢
  subst hcase
  have H := Lib.hid h
  obtain ⟨A', cap', e', hcap, hlen, hrd, hok⟩ := h
  injection e' with e1 _ e3
  subst e1 e3
  obtain ⟨g, o, rfl, hs0, hc⟩ := hrd.elem hok k hlt
  have ihl := fun W hW => ih _ (L.take k) (by rw [List.length_take]; omega) (by rw [List.length_take]; omega) (hg.take k) W S (RdL.head (k := k) (show RdL tEnt W S (.slice (some ⟨g, o, none⟩) L.length (k + 1)) L from hW) (by omega))
  have ihr := fun W hW => ih _ (L.drop (k + 1)) (by rw [List.length_drop]; omega) (by rw [List.length_drop]; omega) (hg.drop (k + 1)) W S (RdL.cut (k := k + 1) (show RdL tEnt W S (.slice (some ⟨g, o, none⟩) L.length (k + 1)) L from hW) (by omega))
  simp only [Option.map_some, Addr.add_lit, show tEnt.sz = 2 from rfl, eq_self, if_true, Nat.sub_self] at ihr
  obtain ⟨TL, hTL⟩ : ∃ T, trF f (L.take k) = T := ⟨_, rfl⟩
  obtain ⟨TR, hTR⟩ : ∃ T, trF f (L.drop (k + 1)) = T := ⟨_, rfl⟩
  simp only [hTL] at ihl hLL hND ⊢
  simp only [hTR] at ihr hLR hND ⊢
  rw [List.length_take] at hLL
  rw [List.length_drop] at hLR
  have HND := Lib.hid hND.1
  have HEB := Lib.hid hND.2.1
  have KL := Lib.hid TL.key_ok.1
  have KR := Lib.hid TR.key_ok.1
  have hc0 : ∀ W, Ext w W → ∀ j u, ([Value.string L[k].1, .string L[k].2] : List Value)[j]? = some u → W.cell? ⟨g, o + k * 2 + j, none⟩ = some u := fun W hW j u hu => hW.cell (hc j u hu)
  have HC := Lib.hid hc0
  have hi : (0 : Int) ≤ (k : Int) := by omega
  have hi2 : (k : Int) ≤ (L.length : Int) := by omega
  have hi3 : (k : Int) < (L.length : Int) := by omega
  have hi4 : (k : Int) + 1 ≤ (L.length : Int) := by omega
  have hi5 : (0 : Int) ≤ (k : Int) + 1 := by omega
  have hi6 : (k : Int) ≤ ((k + 1 : Nat) : Int) := by omega
  have hi7 : ((L.length : Int) == 0) = false := by rw [beq_eq_false_iff_ne]; omega
  have hi8 : (L.length : Int) ≤ ((k + 1 : Nat) : Int) := by omega
  have hi9 : (k : Int) + 1 ≤ ((k + 1 : Nat) : Int) := by omega
  have HLL := Lib.hid hLL
  have HLR := Lib.hid hLR
  have HCAP := Lib.hid hcap
  clear hc hrd hok hTL hTR hk hND hc0 hLL hLR hcap
  show Calls Try.prog 50 #[.slice (some ⟨g, o, none⟩) L.length (k + 1)] w fun e w' => ∃ v', e = .returned (.tuple #[v', .agg (numsA .u8 (hashL 5 (nodeL ⟨TL.key, TR.key, L[k].1, L[k].2⟩)))]) ∧ Own tNd 60 w' w.heap.size v' (⟨TL.key, TR.key, L[k].1, L[k].2⟩ :: (TL.all ++ TR.all)) ∧ Ext w w'
  go_enter Try.func50, Try.ntmps50
  go_wp2_with fail
  refine (htop _ (H.out.ext (by decide) (ext_alloc _ _))).mono ?_
  rintro e w1 ⟨rfl, hx⟩
  have B3 := Lib.hid ((Blk.new w 45 _).ext hx)
  have XW := Lib.hid ((ext_alloc w _).trans hx)
  have HN := Lib.hid (show w.heap.size + 1 ≤ w1.heap.size by have := hx.size; simpa using this)
  clear hx htop
  go_wp2_with fail
  refine (ihl _ (H.out.ext (by decide) XW.out)).mono ?_
  rintro e w2 ⟨vl, rfl, ho, hx⟩
  replace B3 := Lib.hid (B3.out.ext hx)
  replace XW := Lib.hid (XW.out.trans hx)
  have HN2 := Lib.hid (show w.heap.size + 1 ≤ w2.heap.size by have := hx.size; have := HN.out; omega)
  obtain ⟨AL, cl, rfl⟩ := ho.shape
  have OL := Lib.hid ho.rd
  clear ho hx ihl
  go_wp2_with (refine wpl_storeNew aggKey KL.out rfl rfl _ _ rfl rfl rfl rfl ?_)
  refine (ihr _ (H.out.ext (by decide) (XW.out.alloc _))).mono ?_
  rintro e w3 ⟨vr, rfl, ho, hx⟩
  replace B3 := Lib.hid ((B3.out.alloc _).ext hx)
  replace XW := Lib.hid ((XW.out.alloc _).trans hx)
  have B6 := Lib.hid (((Blk.new w2 45 (numsA .u8 TL.key)).ext hx).alloc (.cells (numsA .u8 TR.key) 45))
  replace OL := Lib.hid ((OL.out.ext (by decide) (ext_alloc _ _)).ext (by decide) hx)
  obtain ⟨AR, cr, rfl⟩ := ho.shape
  have OR := Lib.hid ho.rd
  replace HN2 := Lib.hid (show w.heap.size + 1 ≤ w3.heap.size by have := hx.size; have := HN2.out; simp only [size_alloc] at *; omega)
  clear ho hx ihr
  have B8 := Lib.hid (Blk.new w3 45 (numsA .u8 TR.key))
  have HD := Lib.hid (HC.out _ (XW.out.alloc (.cells (numsA .u8 TR.key) 45)))
  go_wp2_with (refine wpl_storeNew aggKey KR.out rfl rfl _ _ rfl rfl rfl rfl ?_)
  refine wp_region_held_drew (S := fun W => Ext (w3.alloc (.cells (numsA .u8 TR.key) 45)) W) (by kernel_rfl) (Ext.refl _).drew (fun hHeld => ?_)
  refine wpAnyH_take (i := 0) (oi := ?oiz1) (v := (.agg (numsA .u8 TL.key))) ?hiz1 (by kernel_rfl) (by kernel_rfl) (by kernel_rfl) ?hQz1 ?hyz1 (by assumption) ?restz1
  case hiz1 => simp only [List.getElem?_toArray, List.getElem?_cons_zero, List.getElem?_cons_succ]; rfl
  case hQz1 => exact fun _ _ _ h => h
  case hyz1 => refine yields_loadB B6.out aggKey (sizeN KL.out) ?_ _ rfl rfl; rfl
  try simp only [Act.put, List.setIfInBounds_toArray, List.set_cons_zero, List.set_cons_succ]
  refine wpAnyH_take (i := 1) (oi := ?oiz2) (v := (.agg (numsA .u8 TR.key))) ?hiz2 (by kernel_rfl) (by kernel_rfl) (by kernel_rfl) ?hQz2 ?hyz2 (by assumption) ?restz2
  case hiz2 => simp only [List.getElem?_toArray, List.getElem?_cons_zero, List.getElem?_cons_succ]; rfl
  case hQz2 => exact fun _ _ _ h => h
  case hyz2 => refine yields_loadB B8.out aggKey (sizeN KR.out) ?_ _ rfl rfl; rfl
  try simp only [Act.put, List.setIfInBounds_toArray, List.set_cons_zero, List.set_cons_succ]
  refine wpAnyH_take (i := 2) (oi := ?oiz3) (v := ?vz3) ?hiz3 (by kernel_rfl) (by kernel_rfl) (by kernel_rfl) ?hQz3 ?hyz3 (by assumption) ?restz3
  case hiz3 => simp only [List.getElem?_toArray, List.getElem?_cons_zero, List.getElem?_cons_succ]; rfl
  case hQz3 => exact fun _ _ _ h => h
  case hyz3 => exact Or.inl ⟨by rfl, by intro w hSw; (try dsimp only at hSw); go_simp; with_reducible rfl⟩
  try simp only [Act.put, List.setIfInBounds_toArray, List.set_cons_zero, List.set_cons_succ]
  refine wpAnyH_take (i := 3) (oi := ?oiz4) (v := ?vz4) ?hiz4 (by kernel_rfl) (by kernel_rfl) (by kernel_rfl) ?hQz4 ?hyz4 (by assumption) ?restz4
  case hiz4 => simp only [List.getElem?_toArray, List.getElem?_cons_zero, List.getElem?_cons_succ]; rfl
  case hQz4 => exact fun _ _ _ h => h
  case hyz4 => exact Or.inl ⟨by rfl, by intro w hSw; (try dsimp only at hSw); go_simp; with_reducible rfl⟩
  try simp only [Act.put, List.setIfInBounds_toArray, List.set_cons_zero, List.set_cons_succ]
  refine wpAnyH_take (i := 4) (oi := ?oiz5) (v := ?vz5) ?hiz5 (by kernel_rfl) (by kernel_rfl) (by kernel_rfl) ?hQz5 ?hyz5 (by assumption) ?restz5
  case hiz5 => simp only [List.getElem?_toArray, List.getElem?_cons_zero, List.getElem?_cons_succ]; rfl
  case hQz5 => exact fun _ _ _ h => h
  case hyz5 => exact Or.inl ⟨by rfl, by intro w hSw; (try dsimp only at hSw); go_simp; with_reducible rfl⟩
  try simp only [Act.put, List.setIfInBounds_toArray, List.set_cons_zero, List.set_cons_succ]
  refine wpAnyH_take (i := 5) (oi := ?oiz6) (v := (.agg #[.string L[k].1, .string L[k].2])) ?hiz6 (by kernel_rfl) (by kernel_rfl) (by kernel_rfl) ?hQz6 ?hyz6 (by assumption) ?restz6
  case hiz6 => simp only [List.getElem?_toArray, List.getElem?_cons_zero, List.getElem?_cons_succ]; rfl
  case hQz6 => exact fun _ _ _ h => h
  case hyz6 => refine yields_loadR g (o + k * 2) [.string L[k].1, .string L[k].2] aggEntryI HD.out ?_ _ rfl rfl; rfl
  try simp only [Act.put, List.setIfInBounds_toArray, List.set_cons_zero, List.set_cons_succ]
  refine wpAnyH_take (i := 6) (oi := ?oiz7) (v := (.agg (Nd.enc ⟨TL.key, TR.key, L[k].1, L[k].2⟩).toArray)) ?hiz7 (by kernel_rfl) (by kernel_rfl) (by kernel_rfl) ?hQz7 ?hyz7 (by assumption) ?restz7
  case hiz7 => simp only [List.getElem?_toArray, List.getElem?_cons_zero, List.getElem?_cons_succ]; rfl
  case hQz7 => exact fun _ _ _ h => h
  case hyz7 => refine yields_build ?_ rfl (built_node ⟨TL.key, TR.key, L[k].1, L[k].2⟩ HND.out); rfl
  try simp only [Act.put, List.setIfInBounds_toArray, List.set_cons_zero, List.set_cons_succ]
  have hs9 := hHeld.size
  have HX9 := Lib.hid hHeld
  generalize hw9 : (w3.alloc (.cells (numsA .u8 TR.key) 45)).drew = w9 at hHeld HX9 hs9 ⊢
  clear hw9
  refine wpAnyH_ready (rs := [7]) (by kernel_rfl) (by simp) (AllReadyH.cons (o := ?oy87) ?hy87 (fun K hK => ?sy87) AllReadyH.nil)
  case hy87 => simp only [List.getElem?_toArray, List.getElem?_cons_zero, List.getElem?_cons_succ]; rfl
  refine stp_alloc zNd.toArray (by kernel_rfl) rfl rfl ?_
  have hH2 := hHeld.alloc (.cells zNd.toArray 60)
  refine hK.out _ _ hH2 (fun _ => ?_)
  clear hK K hH2
  try simp only [Act.put, List.setIfInBounds_toArray, List.set_cons_zero, List.set_cons_succ]
  refine wpAnyH_ready (rs := [8]) (by kernel_rfl) (by simp) (AllReadyH.cons (o := ?oy98) ?hy98 (fun K hK => ?sy98) AllReadyH.nil)
  case hy98 => simp only [List.getElem?_toArray, List.getElem?_cons_zero, List.getElem?_cons_succ]; rfl
  refine stp_storeP (Blk.new w9 60 _) aggNodeI (Nd.st HND.out) (by simp [zNd]) rfl _ _ rfl rfl rfl rfl ?_
  have hH3 := hHeld.alloc (.cells (Nd.enc ⟨TL.key, TR.key, L[k].1, L[k].2⟩).toArray 60)
  rw [splice_all _ _ (by rw [Array.length_toList, (Nd.st HND.out).size]; rfl), setRow_alloc, Array.toArray_toList]
  refine hK.out _ _ hH3 (fun _ => ?_)
  clear hK K hH3 hHeld
  try simp only [Act.put, List.setIfInBounds_toArray, List.set_cons_zero, List.set_cons_succ]
  refine wpAnyH_done (by kernel_rfl) ?_ _
  have HW9 := Lib.hid ((XW.out.alloc (.cells (numsA .u8 TR.key) 45)).trans HX9.out)
  have HN9 := Lib.hid (show w.heap.size + 1 ≤ w9.heap.size by have := hs9; have := HN2.out; simp only [size_alloc] at *; omega)
  have B3x := Lib.hid ((B3.out.alloc (.cells (numsA .u8 TR.key) 45)).ext HX9.out)
  have OLx := Lib.hid ((OL.out.ext (by decide) (ext_alloc _ (.cells (numsA .u8 TR.key) 45))).ext (by decide) HX9.out)
  have ORx := Lib.hid ((OR.out.ext (by decide) (ext_alloc _ (.cells (numsA .u8 TR.key) 45))).ext (by decide) HX9.out)
  clear hs9 HX9 B3 B6 B8 OL OR XW HN2
  obtain ⟨x, hx0⟩ : ∃ x : Nd, x = ⟨TL.key, TR.key, L[k].1, L[k].2⟩ := ⟨_, rfl⟩
  have HXO := Lib.hid (show x.ok by rw [hx0]; exact HND.out)
  have HXE := Lib.hid (show entB x.n x.v = true by rw [hx0]; exact HEB.out)
  simp only [← hx0, Array.toArray_toList]
  have HXX := Lib.hid hx0
  clear hx0 HND HEB
  obtain ⟨wa, hwa⟩ : ∃ wa, w9.alloc (.cells x.enc.toArray 60) = wa := ⟨_, rfl⟩
  have HA := Lib.hid (show Ext w9 wa by rw [← hwa]; exact ext_alloc _ _)
  have HNA := Lib.hid (show Blk wa w9.heap.size 60 x.enc.toArray by rw [← hwa]; exact Blk.new w9 _ _)
  have HSA := Lib.hid (show wa.heap.size = w9.heap.size + 1 by rw [← hwa]; simp)
  rw [hwa]
  clear hwa
  have OL2 := Lib.hid ((OLx.out.ext (by decide) HA.out).ext (by decide) (ext_alloc wa (.cells x.enc.toArray 60)))
  have hsz := (Nd.st HXO.out).size
  have henc := Nd.enc_length HXO.out
  have OS := Lib.hid (Own.of_blk tNd (w := wa.alloc (.cells x.enc.toArray 60)) (base := wa.heap.size) (xs := [x]) (by rw [show [x].flatMap tNd.enc = x.enc from by rw [List.flatMap_cons, List.flatMap_nil, List.append_nil]; rfl]; exact Blk.new wa 60 x.enc.toArray) (Nat.le_refl _) (by simp) (by intro y hy; obtain rfl := List.mem_singleton.1 hy; exact HXO.out))
  go_wp2_with (first
    | (refine wpl_loadB HNA.out aggNodeI hsz rfl _ rfl rfl ?_)
    | (at_builtin; rw [fold_fill x.enc _ (by rw [henc]; rfl)]; refine wpl_append rowNd rfl _ _ rfl (v := .slice (some ⟨wa.heap.size, 0, none⟩) 1 1) rfl OS.out _ _ rfl (ys := TL.all) rfl (rd_nd OL2.out) (ok_nd OL2.out) (by have := HLL.out; simp only [List.length_singleton]; omega) (by simp) ?_; intro v5 w5 ho1 hg1 hat1; have HX5 := Lib.hid (OS.out.ext_app (ext_alloc wa _) hg1); obtain ⟨B5, n5, c5, rfl⟩ := ho1.shape3; have HO5 := Lib.hid ho1; clear ho1 hg1 hat1)
    | (at_builtin; refine wpl_append rowNd rfl _ _ rfl (v := .slice B5 n5 c5) rfl HO5.out _ _ rfl (ys := TR.all) rfl (rd_nd ((ORx.out.ext (by decide) HA.out).ext (by decide) HX5.out)) (ok_nd ORx.out) (by have := HLL.out; have := HLR.out; simp only [List.length_append, List.length_singleton]; omega) HX5.out.size ?_; intro v6 w6 ho1 hg1 hat1; have HX6 := Lib.hid (HO5.out.ext_app HX5.out hg1); have HO6 := Lib.hid ho1; clear ho1 hg1 hat1))
  refine (l04NodeKey_any x HXO.out HXE.out w9.heap.size _ (HNA.out.ext HX6.out)).mono ?_
  rintro e w7 ⟨rfl, hx⟩
  have HO7 := Lib.hid (HO6.out.ext hx)
  have B3y := Lib.hid (((B3x.out.ext HA.out).ext HX6.out).ext hx)
  have HX7 := Lib.hid (((HW9.out.trans HA.out).trans HX6.out).trans hx)
  have hkx := (hashL_ok 5 (nodeL x)).1
  have HLT := Lib.hid (show w.heap.size < wa.heap.size by have := HSA.out; have := HN9.out; omega)
  clear hx HO6
  go_wp2_with (refine wpl_storeN B3y.out aggKey hkx rfl rfl _ _ rfl rfl rfl rfl ?_)
  refine bodyPost_ret (results_tb rfl _ rfl aggKey (sizeN hkx) (B3y.out.setRow _) rfl) rfl ?_
  have ho8 := HO7.out
  rw [show [x] ++ TL.all ++ TR.all = x :: (TL.all ++ TR.all) by simp] at ho8
  rw [← HXX.out]
  refine ⟨_, rfl, ?_, HX7.out.setRow (Nat.le_refl _) _⟩
  exact (ho8.kept (grown_row (g := w.heap.size) (grown_refl _ _) _) (.inr (fun e => by have := (ho8.base_le _ e).1; have := HLT.out; omega))).le (Nat.le_of_lt HLT.out)
set_option maxHeartbeats 1000000 in
set_option maxRecDepth 100000 in
theorem nodes_cons2 (f : Nat) (ih : NodesC f) (A : Option Addr) (cap : Nat) (L : List En) (h0 : ¬ L.length = 0) (hf : L.length ≤ f + 1) (h64 : L.length ≤ 64) (hg : good L) (hcase : ¬ cap = topE L + 1) (w : World) (S : Nat → Prop) (h : RdL tEnt w S (.slice A L.length cap) L) :
    Calls Try.prog 50 #[.slice A L.length cap] w fun e w' => ∃ v', e = .returned (.tuple #[v', .agg (numsA .u8 (trF (f + 1) L).key)]) ∧ Own tNd 60 w' w.heap.size v' (trF (f + 1) L).all ∧ Ext w w' := by
  have hlt := topE_lt (L := L) (by omega)
  have hND := trF_ok (f + 1) L hg
  have hLL := trF_len f (L.take (topE L))
  have hLR := trF_len f (L.drop (topE L + 1))
  have htop := fun W hW => l04Top_any (.slice A L.length cap) L (by omega) hg W S hW
  rw [trF_cons _ _ h0] at hND ⊢
  obtain ⟨k, hk⟩ : ∃ k, topE L = k := ⟨_, rfl⟩
  simp only [hk] at hlt hND hLL hLR htop hcase ⊢
  rw [gE_lt hlt] at hND ⊢

  have H := Lib.hid h
  obtain ⟨A', cap', e', hcap, hlen, hrd, hok⟩ := h
  injection e' with e1 _ e3
  subst e1 e3
  obtain ⟨g, o, rfl, hs0, hc⟩ := hrd.elem hok k hlt
  have ihl := fun W hW => ih _ (L.take k) (by rw [List.length_take]; omega) (by rw [List.length_take]; omega) (hg.take k) W S (RdL.head (k := k) (show RdL tEnt W S (.slice (some ⟨g, o, none⟩) L.length cap) L from hW) (by omega))
  have ihr := fun W hW => ih _ (L.drop (k + 1)) (by rw [List.length_drop]; omega) (by rw [List.length_drop]; omega) (hg.drop (k + 1)) W S (RdL.cut (k := k + 1) (show RdL tEnt W S (.slice (some ⟨g, o, none⟩) L.length cap) L from hW) (by omega))
  simp only [Option.map_some, Addr.add_lit, show tEnt.sz = 2 from rfl, if_neg hcase] at ihr
  obtain ⟨TL, hTL⟩ : ∃ T, trF f (L.take k) = T := ⟨_, rfl⟩
  obtain ⟨TR, hTR⟩ : ∃ T, trF f (L.drop (k + 1)) = T := ⟨_, rfl⟩
  simp only [hTL] at ihl hLL hND ⊢
  simp only [hTR] at ihr hLR hND ⊢
  rw [List.length_take] at hLL
  rw [List.length_drop] at hLR
  have HND := Lib.hid hND.1
  have HEB := Lib.hid hND.2.1
  have KL := Lib.hid TL.key_ok.1
  have KR := Lib.hid TR.key_ok.1
  have hc0 : ∀ W, Ext w W → ∀ j u, ([Value.string L[k].1, .string L[k].2] : List Value)[j]? = some u → W.cell? ⟨g, o + k * 2 + j, none⟩ = some u := fun W hW j u hu => hW.cell (hc j u hu)
  have HC := Lib.hid hc0
  have hi : (0 : Int) ≤ (k : Int) := by omega
  have hi2 : (k : Int) ≤ (L.length : Int) := by omega
  have hi3 : (k : Int) < (L.length : Int) := by omega
  have hi4 : (k : Int) + 1 ≤ (L.length : Int) := by omega
  have hi5 : (0 : Int) ≤ (k : Int) + 1 := by omega
  have hi6 : (k : Int) ≤ (cap : Int) := by omega
  have hi7 : ((L.length : Int) == 0) = false := by rw [beq_eq_false_iff_ne]; omega
  have hi8 : (L.length : Int) ≤ (cap : Int) := by omega
  have hi9 : (k : Int) + 1 ≤ (cap : Int) := by omega
  have HLL := Lib.hid hLL
  have HLR := Lib.hid hLR
  have HCAP := Lib.hid hcap
  clear hc hrd hok hTL hTR hk hND hc0 hLL hLR hcap
  show Calls Try.prog 50 #[.slice (some ⟨g, o, none⟩) L.length cap] w fun e w' => ∃ v', e = .returned (.tuple #[v', .agg (numsA .u8 (hashL 5 (nodeL ⟨TL.key, TR.key, L[k].1, L[k].2⟩)))]) ∧ Own tNd 60 w' w.heap.size v' (⟨TL.key, TR.key, L[k].1, L[k].2⟩ :: (TL.all ++ TR.all)) ∧ Ext w w'
  go_enter Try.func50, Try.ntmps50
  go_wp2_with fail
  refine (htop _ (H.out.ext (by decide) (ext_alloc _ _))).mono ?_
  rintro e w1 ⟨rfl, hx⟩
  have B3 := Lib.hid ((Blk.new w 45 _).ext hx)
  have XW := Lib.hid ((ext_alloc w _).trans hx)
  have HN := Lib.hid (show w.heap.size + 1 ≤ w1.heap.size by have := hx.size; simpa using this)
  clear hx htop
  go_wp2_with fail
  refine (ihl _ (H.out.ext (by decide) XW.out)).mono ?_
  rintro e w2 ⟨vl, rfl, ho, hx⟩
  replace B3 := Lib.hid (B3.out.ext hx)
  replace XW := Lib.hid (XW.out.trans hx)
  have HN2 := Lib.hid (show w.heap.size + 1 ≤ w2.heap.size by have := hx.size; have := HN.out; omega)
  obtain ⟨AL, cl, rfl⟩ := ho.shape
  have OL := Lib.hid ho.rd
  clear ho hx ihl
  go_wp2_with (refine wpl_storeNew aggKey KL.out rfl rfl _ _ rfl rfl rfl rfl ?_)
  refine (ihr _ (H.out.ext (by decide) (XW.out.alloc _))).mono ?_
  rintro e w3 ⟨vr, rfl, ho, hx⟩
  replace B3 := Lib.hid ((B3.out.alloc _).ext hx)
  replace XW := Lib.hid ((XW.out.alloc _).trans hx)
  have B6 := Lib.hid (((Blk.new w2 45 (numsA .u8 TL.key)).ext hx).alloc (.cells (numsA .u8 TR.key) 45))
  replace OL := Lib.hid ((OL.out.ext (by decide) (ext_alloc _ _)).ext (by decide) hx)
  obtain ⟨AR, cr, rfl⟩ := ho.shape
  have OR := Lib.hid ho.rd
  replace HN2 := Lib.hid (show w.heap.size + 1 ≤ w3.heap.size by have := hx.size; have := HN2.out; simp only [size_alloc] at *; omega)
  clear ho hx ihr
  have B8 := Lib.hid (Blk.new w3 45 (numsA .u8 TR.key))
  have HD := Lib.hid (HC.out _ (XW.out.alloc (.cells (numsA .u8 TR.key) 45)))
  go_wp2_with (refine wpl_storeNew aggKey KR.out rfl rfl _ _ rfl rfl rfl rfl ?_)
  refine wp_region_held_drew (S := fun W => Ext (w3.alloc (.cells (numsA .u8 TR.key) 45)) W) (by kernel_rfl) (Ext.refl _).drew (fun hHeld => ?_)
  refine wpAnyH_take (i := 0) (oi := ?oiz10) (v := (.agg (numsA .u8 TL.key))) ?hiz10 (by kernel_rfl) (by kernel_rfl) (by kernel_rfl) ?hQz10 ?hyz10 (by assumption) ?restz10
  case hiz10 => simp only [List.getElem?_toArray, List.getElem?_cons_zero, List.getElem?_cons_succ]; rfl
  case hQz10 => exact fun _ _ _ h => h
  case hyz10 => refine yields_loadB B6.out aggKey (sizeN KL.out) ?_ _ rfl rfl; rfl
  try simp only [Act.put, List.setIfInBounds_toArray, List.set_cons_zero, List.set_cons_succ]
  refine wpAnyH_take (i := 1) (oi := ?oiz11) (v := (.agg (numsA .u8 TR.key))) ?hiz11 (by kernel_rfl) (by kernel_rfl) (by kernel_rfl) ?hQz11 ?hyz11 (by assumption) ?restz11
  case hiz11 => simp only [List.getElem?_toArray, List.getElem?_cons_zero, List.getElem?_cons_succ]; rfl
  case hQz11 => exact fun _ _ _ h => h
  case hyz11 => refine yields_loadB B8.out aggKey (sizeN KR.out) ?_ _ rfl rfl; rfl
  try simp only [Act.put, List.setIfInBounds_toArray, List.set_cons_zero, List.set_cons_succ]
  refine wpAnyH_take (i := 2) (oi := ?oiz12) (v := ?vz12) ?hiz12 (by kernel_rfl) (by kernel_rfl) (by kernel_rfl) ?hQz12 ?hyz12 (by assumption) ?restz12
  case hiz12 => simp only [List.getElem?_toArray, List.getElem?_cons_zero, List.getElem?_cons_succ]; rfl
  case hQz12 => exact fun _ _ _ h => h
  case hyz12 => exact Or.inl ⟨by rfl, by intro w hSw; (try dsimp only at hSw); go_simp; with_reducible rfl⟩
  try simp only [Act.put, List.setIfInBounds_toArray, List.set_cons_zero, List.set_cons_succ]
  refine wpAnyH_take (i := 3) (oi := ?oiz13) (v := ?vz13) ?hiz13 (by kernel_rfl) (by kernel_rfl) (by kernel_rfl) ?hQz13 ?hyz13 (by assumption) ?restz13
  case hiz13 => simp only [List.getElem?_toArray, List.getElem?_cons_zero, List.getElem?_cons_succ]; rfl
  case hQz13 => exact fun _ _ _ h => h
  case hyz13 => exact Or.inl ⟨by rfl, by intro w hSw; (try dsimp only at hSw); go_simp; with_reducible rfl⟩
  try simp only [Act.put, List.setIfInBounds_toArray, List.set_cons_zero, List.set_cons_succ]
  refine wpAnyH_take (i := 4) (oi := ?oiz14) (v := ?vz14) ?hiz14 (by kernel_rfl) (by kernel_rfl) (by kernel_rfl) ?hQz14 ?hyz14 (by assumption) ?restz14
  case hiz14 => simp only [List.getElem?_toArray, List.getElem?_cons_zero, List.getElem?_cons_succ]; rfl
  case hQz14 => exact fun _ _ _ h => h
  case hyz14 => exact Or.inl ⟨by rfl, by intro w hSw; (try dsimp only at hSw); go_simp; with_reducible rfl⟩
  try simp only [Act.put, List.setIfInBounds_toArray, List.set_cons_zero, List.set_cons_succ]
  refine wpAnyH_take (i := 5) (oi := ?oiz15) (v := (.agg #[.string L[k].1, .string L[k].2])) ?hiz15 (by kernel_rfl) (by kernel_rfl) (by kernel_rfl) ?hQz15 ?hyz15 (by assumption) ?restz15
  case hiz15 => simp only [List.getElem?_toArray, List.getElem?_cons_zero, List.getElem?_cons_succ]; rfl
  case hQz15 => exact fun _ _ _ h => h
  case hyz15 => refine yields_loadR g (o + k * 2) [.string L[k].1, .string L[k].2] aggEntryI HD.out ?_ _ rfl rfl; rfl
  try simp only [Act.put, List.setIfInBounds_toArray, List.set_cons_zero, List.set_cons_succ]
  refine wpAnyH_take (i := 6) (oi := ?oiz16) (v := (.agg (Nd.enc ⟨TL.key, TR.key, L[k].1, L[k].2⟩).toArray)) ?hiz16 (by kernel_rfl) (by kernel_rfl) (by kernel_rfl) ?hQz16 ?hyz16 (by assumption) ?restz16
  case hiz16 => simp only [List.getElem?_toArray, List.getElem?_cons_zero, List.getElem?_cons_succ]; rfl
  case hQz16 => exact fun _ _ _ h => h
  case hyz16 => refine yields_build ?_ rfl (built_node ⟨TL.key, TR.key, L[k].1, L[k].2⟩ HND.out); rfl
  try simp only [Act.put, List.setIfInBounds_toArray, List.set_cons_zero, List.set_cons_succ]
  have hs9 := hHeld.size
  have HX9 := Lib.hid hHeld
  generalize hw9 : (w3.alloc (.cells (numsA .u8 TR.key) 45)).drew = w9 at hHeld HX9 hs9 ⊢
  clear hw9
  refine wpAnyH_ready (rs := [7]) (by kernel_rfl) (by simp) (AllReadyH.cons (o := ?oy177) ?hy177 (fun K hK => ?sy177) AllReadyH.nil)
  case hy177 => simp only [List.getElem?_toArray, List.getElem?_cons_zero, List.getElem?_cons_succ]; rfl
  refine stp_alloc zNd.toArray (by kernel_rfl) rfl rfl ?_
  have hH2 := hHeld.alloc (.cells zNd.toArray 60)
  refine hK.out _ _ hH2 (fun _ => ?_)
  clear hK K hH2
  try simp only [Act.put, List.setIfInBounds_toArray, List.set_cons_zero, List.set_cons_succ]
  refine wpAnyH_ready (rs := [8]) (by kernel_rfl) (by simp) (AllReadyH.cons (o := ?oy188) ?hy188 (fun K hK => ?sy188) AllReadyH.nil)
  case hy188 => simp only [List.getElem?_toArray, List.getElem?_cons_zero, List.getElem?_cons_succ]; rfl
  refine stp_storeP (Blk.new w9 60 _) aggNodeI (Nd.st HND.out) (by simp [zNd]) rfl _ _ rfl rfl rfl rfl ?_
  have hH3 := hHeld.alloc (.cells (Nd.enc ⟨TL.key, TR.key, L[k].1, L[k].2⟩).toArray 60)
  rw [splice_all _ _ (by rw [Array.length_toList, (Nd.st HND.out).size]; rfl), setRow_alloc, Array.toArray_toList]
  refine hK.out _ _ hH3 (fun _ => ?_)
  clear hK K hH3 hHeld
  try simp only [Act.put, List.setIfInBounds_toArray, List.set_cons_zero, List.set_cons_succ]
  refine wpAnyH_done (by kernel_rfl) ?_ _
  have HW9 := Lib.hid ((XW.out.alloc (.cells (numsA .u8 TR.key) 45)).trans HX9.out)
  have HN9 := Lib.hid (show w.heap.size + 1 ≤ w9.heap.size by have := hs9; have := HN2.out; simp only [size_alloc] at *; omega)
  have B3x := Lib.hid ((B3.out.alloc (.cells (numsA .u8 TR.key) 45)).ext HX9.out)
  have OLx := Lib.hid ((OL.out.ext (by decide) (ext_alloc _ (.cells (numsA .u8 TR.key) 45))).ext (by decide) HX9.out)
  have ORx := Lib.hid ((OR.out.ext (by decide) (ext_alloc _ (.cells (numsA .u8 TR.key) 45))).ext (by decide) HX9.out)
  clear hs9 HX9 B3 B6 B8 OL OR XW HN2
  obtain ⟨x, hx0⟩ : ∃ x : Nd, x = ⟨TL.key, TR.key, L[k].1, L[k].2⟩ := ⟨_, rfl⟩
  have HXO := Lib.hid (show x.ok by rw [hx0]; exact HND.out)
  have HXE := Lib.hid (show entB x.n x.v = true by rw [hx0]; exact HEB.out)
  simp only [← hx0, Array.toArray_toList]
  have HXX := Lib.hid hx0
  clear hx0 HND HEB
  obtain ⟨wa, hwa⟩ : ∃ wa, w9.alloc (.cells x.enc.toArray 60) = wa := ⟨_, rfl⟩
  have HA := Lib.hid (show Ext w9 wa by rw [← hwa]; exact ext_alloc _ _)
  have HNA := Lib.hid (show Blk wa w9.heap.size 60 x.enc.toArray by rw [← hwa]; exact Blk.new w9 _ _)
  have HSA := Lib.hid (show wa.heap.size = w9.heap.size + 1 by rw [← hwa]; simp)
  rw [hwa]
  clear hwa
  have OL2 := Lib.hid ((OLx.out.ext (by decide) HA.out).ext (by decide) (ext_alloc wa (.cells x.enc.toArray 60)))
  have hsz := (Nd.st HXO.out).size
  have henc := Nd.enc_length HXO.out
  have OS := Lib.hid (Own.of_blk tNd (w := wa.alloc (.cells x.enc.toArray 60)) (base := wa.heap.size) (xs := [x]) (by rw [show [x].flatMap tNd.enc = x.enc from by rw [List.flatMap_cons, List.flatMap_nil, List.append_nil]; rfl]; exact Blk.new wa 60 x.enc.toArray) (Nat.le_refl _) (by simp) (by intro y hy; obtain rfl := List.mem_singleton.1 hy; exact HXO.out))
  go_wp2_with (first
    | (refine wpl_loadB HNA.out aggNodeI hsz rfl _ rfl rfl ?_)
    | (at_builtin; rw [fold_fill x.enc _ (by rw [henc]; rfl)]; refine wpl_append rowNd rfl _ _ rfl (v := .slice (some ⟨wa.heap.size, 0, none⟩) 1 1) rfl OS.out _ _ rfl (ys := TL.all) rfl (rd_nd OL2.out) (ok_nd OL2.out) (by have := HLL.out; simp only [List.length_singleton]; omega) (by simp) ?_; intro v5 w5 ho1 hg1 hat1; have HX5 := Lib.hid (OS.out.ext_app (ext_alloc wa _) hg1); obtain ⟨B5, n5, c5, rfl⟩ := ho1.shape3; have HO5 := Lib.hid ho1; clear ho1 hg1 hat1)
    | (at_builtin; refine wpl_append rowNd rfl _ _ rfl (v := .slice B5 n5 c5) rfl HO5.out _ _ rfl (ys := TR.all) rfl (rd_nd ((ORx.out.ext (by decide) HA.out).ext (by decide) HX5.out)) (ok_nd ORx.out) (by have := HLL.out; have := HLR.out; simp only [List.length_append, List.length_singleton]; omega) HX5.out.size ?_; intro v6 w6 ho1 hg1 hat1; have HX6 := Lib.hid (HO5.out.ext_app HX5.out hg1); have HO6 := Lib.hid ho1; clear ho1 hg1 hat1))
  refine (l04NodeKey_any x HXO.out HXE.out w9.heap.size _ (HNA.out.ext HX6.out)).mono ?_
  rintro e w7 ⟨rfl, hx⟩
  have HO7 := Lib.hid (HO6.out.ext hx)
  have B3y := Lib.hid (((B3x.out.ext HA.out).ext HX6.out).ext hx)
  have HX7 := Lib.hid (((HW9.out.trans HA.out).trans HX6.out).trans hx)
  have hkx := (hashL_ok 5 (nodeL x)).1
  have HLT := Lib.hid (show w.heap.size < wa.heap.size by have := HSA.out; have := HN9.out; omega)
  clear hx HO6
  go_wp2_with (refine wpl_storeN B3y.out aggKey hkx rfl rfl _ _ rfl rfl rfl rfl ?_)
  refine bodyPost_ret (results_tb rfl _ rfl aggKey (sizeN hkx) (B3y.out.setRow _) rfl) rfl ?_
  have ho8 := HO7.out
  rw [show [x] ++ TL.all ++ TR.all = x :: (TL.all ++ TR.all) by simp] at ho8
  rw [← HXX.out]
  refine ⟨_, rfl, ?_, HX7.out.setRow (Nat.le_refl _) _⟩
  exact (ho8.kept (grown_row (g := w.heap.size) (grown_refl _ _) _) (.inr (fun e => by have := (ho8.base_le _ e).1; have := HLT.out; omega))).le (Nat.le_of_lt HLT.out)
theorem l04Nodes_any (f : Nat) : NodesC f := by
  induction f with
  | zero => exact fun v L hf h64 hg w S h => nodes_nil 0 v L (by omega) w S h
  | succ f ih =>
    intro v L hf h64 hg w S h
    by_cases h0 : L.length = 0
    · exact nodes_nil (f + 1) v L h0 w S h
    · obtain ⟨A, cap, rfl, _⟩ := id h
      by_cases hc : cap = topE L + 1
      · exact nodes_cons1 f ih A cap L h0 hf h64 hg hc w S h
      · exact nodes_cons2 f ih A cap L h0 hf h64 hg hc w S h
end Go.Proofs.Ytikpakhccmdmcaa
