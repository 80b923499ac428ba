/- What the walk of the law FnMapTrees needs, part 7 of 7. No condition. -/
import Derived.Test.YtmndkbheehcoaaaPFnMapTrees6
/- The walk of the law FnMapTrees. No condition. -/
namespace Go.Proofs.Ytmndkbheehcoaaa
open Go.RowKit
set_option linter.unusedVariables false
set_option linter.unusedSimpArgs false

set_option maxHeartbeats 16000000 in
set_option maxRecDepth 100000 in
theorem FnMapTrees_any (w : World) (v0 : Value) (x0 : List Int) (S0 : Nat → Prop) (h0 : RdL tByte w S0 v0 x0) (v1 : Value) (x1 : List Int) (S1 : Nat → Prop) (h1 : RdL tByte w S1 v1 x1) :
    Calls Try.prog 7 #[v0, v1] w fun e w' => e = .returned (.bool true) ∧ Ext w w' := by
  obtain ⟨A0, cap0, rfl, _⟩ := id h0
  obtain ⟨A1, cap1, rfl, _⟩ := id h1
  have H0 := Lib.hid h0
  have H1 := Lib.hid h1
  clear h0 h1
  by_cases hb0 : 4096 < x0.length
  · go_enter Try.func7, Try.ntmps7
    go_wp2_with fail
    refine (f6big_yes _ _ _ _ hb0).mono ?_
    rintro e w1 ⟨rfl, rfl⟩
    go_wp2
    go_ret
    exact ⟨rfl, Ext.refl _⟩
  by_cases hb1 : 4096 < x1.length
  · go_enter Try.func7, Try.ntmps7
    go_wp2_with fail
    refine (f6big_no _ _ _ _ hb0).mono ?_
    rintro e w1 ⟨rfl, rfl⟩
    go_wp2_with fail
    refine (f6big_yes _ _ _ _ hb1).mono ?_
    rintro e w1 ⟨rfl, rfl⟩
    go_wp2
    go_ret
    exact ⟨rfl, Ext.refl _⟩
  go_enter Try.func7, Try.ntmps7
  go_wp2_with fail
  refine (f6big_no _ _ _ _ hb0).mono ?_
  rintro e w1 ⟨rfl, rfl⟩
  go_wp2_with fail
  refine (f6big_no _ _ _ _ hb1).mono ?_
  rintro e w1 ⟨rfl, rfl⟩
  clear hb0 hb1
  go_wp2_with fail
  refine (p6Map_any _ x0 9 (by decide) _ _ (H0.out.ext (by decide) (Ext.refl _))).mono ?_
  rintro e w1 ⟨vA, A, rfl, ho, hAk, hAl, hx⟩
  skip
  have XW := Lib.hid hx
  obtain ⟨AA, cA, rfl⟩ := ho.shape
  have OA := Lib.hid ho.rd
  clear ho
  clear hx
  have HAk := Lib.hid hAk
  have HAo := Lib.hid (show ∀ e ∈ A, tEnt.ok e from OA.out.choose_spec.choose_spec.2.2.2.2)
  clear hAk
  obtain ⟨T, hT, hTl, hTa, hTi, hTh⟩ := tree_facts HAk.out HAo.out
  obtain ⟨NL, hNL⟩ : ∃ NL, T.all = NL := ⟨_, rfl⟩
  obtain ⟨K, hK⟩ : ∃ K, T.key = K := ⟨_, rfl⟩
  have HNOD := Lib.hid (show nodR A = (NL, 0) by rw [nodR, HAk.out, hT, hNL]; rfl)
  have HMAP := Lib.hid (show mapKR A = (K, 0) by rw [mapKR, HAk.out, hT, hK]; rfl)
  have HKK := Lib.hid (show K32 K by rw [← hK]; exact Tr.key_ok _)
  have hkk := HKK.out.1
  have HT := Lib.hid hT
  have HNL := Lib.hid hNL
  have HK := Lib.hid hK
  rw [hNL] at hTl
  have HTL := Lib.hid hTl
  have hlen : ((NL.length : Int) != (A.length : Int)) = false := by rw [hTl]; simp
  clear hT hNL hK hTl hTa hTi hTh
  go_wp2_with fail
  refine (implNodesOfMap_any _ A _ _ OA.out).mono ?_
  rintro e w2 ⟨vN, he, ho, hx⟩
  skip
  rw [HNOD.out] at he ho
  subst he
  dsimp only at ho
  replace OA := Lib.hid (OA.out.ext (by decide) hx)
  replace XW := Lib.hid (XW.out.trans hx)
  obtain ⟨AN, cN, rfl⟩ := ho.shape
  have ON := Lib.hid ho.rd
  clear ho
  clear hx
  go_wp2_with fail
  refine (specNodesOfMap_any _ A _ _ OA.out).mono ?_
  rintro e w3 ⟨vD, he, ho, hx⟩
  skip
  rw [HNOD.out] at he ho
  subst he
  dsimp only at ho
  replace OA := Lib.hid (OA.out.ext (by decide) hx)
  replace ON := Lib.hid (ON.out.ext (by decide) hx)
  replace XW := Lib.hid (XW.out.trans hx)
  obtain ⟨AD, cD, rfl⟩ := ho.shape
  have OD := Lib.hid ho.rd
  clear ho
  clear hx
  go_wp2_with fail
  refine (implMapKey_any _ A _ _ OA.out).mono ?_
  rintro e w4 ⟨he, hx⟩
  skip
  rw [HMAP.out] at he
  subst he
  replace OA := Lib.hid (OA.out.ext (by decide) hx)
  replace ON := Lib.hid (ON.out.ext (by decide) hx)
  replace OD := Lib.hid (OD.out.ext (by decide) hx)
  replace XW := Lib.hid (XW.out.trans hx)
  clear hx
  go_wp2_with (first | (refine wpl_storeNew aggKey hkk rfl rfl _ _ rfl rfl rfl rfl ?_) | (refine wpl_loadB (Blk.new w4 27 (numsA .u8 K)) aggKey (sizeN hkk) rfl _ rfl rfl ?_))
  refine (sameNodes_any _ _ NL NL _ _ _ (ON.out.ext (by decide) (ext_alloc _ _)) (OD.out.ext (by decide) (ext_alloc _ _))).mono ?_
  rintro e w5 ⟨he, hx⟩
  skip
  rw [decide_eq_true rfl] at he
  subst he
  have hE := (ext_alloc w4 (.cells (numsA .u8 K) 27)).trans hx
  replace OA := Lib.hid (OA.out.ext (by decide) hE)
  replace ON := Lib.hid (ON.out.ext (by decide) hE)
  replace OD := Lib.hid (OD.out.ext (by decide) hE)
  replace XW := Lib.hid (XW.out.trans hE)
  clear hE
  have BK := Lib.hid ((Blk.new w4 27 (numsA .u8 K)).ext hx)
  clear hx
  clear ON
  by_cases h0 : A.length = 0
  · have hz : ((A.length : Int) == 0) = true := by rw [h0]; rfl
    have hKe : K = emptyL := by rw [← HK.out]; exact Tr.key_nil (by rw [HNL.out, HTL.out, h0])
    have heql : ∀ W, (binOp .eql 27 (.agg (numsA .u8 K)) (.agg (numsA .u8 emptyL))).run Try.prog W = .ok (.bool true) W := fun W => by
      have := run_eqKey K emptyL HKK.out emptyL_ok W
      rw [decide_eq_true hKe] at this
      exact this
    clear hKe h0
    go_wp2_with (first | (refine wpl_loadB BK.out aggKey (sizeN hkk) rfl _ rfl rfl ?_))
    refine wp_region_held_drew (S := fun W => Ext w5 W) (by kernel_rfl) (Ext.refl _).drew (fun hHeld => ?_)
    refine wpAnyH_take (i := 0) (oi := ?oiz1) (v := (.agg (numsA .u8 K))) ?hiz1 (by kernel_rfl) (by kernel_rfl) (by kernel_rfl) ?hQz1 ?hyz1 (by assumption) ?restz1
    case hiz1 => simp only [List.getElem?_toArray, List.getElem?_cons_zero, List.getElem?_cons_succ]; rfl
    case hQz1 => exact fun _ _ _ h => h
    case hyz1 => refine yields_loadB BK.out aggKey (sizeN hkk) ?_ _ rfl rfl; rfl
    try simp only [Act.put, List.setIfInBounds_toArray, List.set_cons_zero, List.set_cons_succ]
    refine wpAnyH_ready (rs := [1]) (by kernel_rfl) (by simp) (AllReadyH.cons (o := ?oy21) ?hy21 (fun K hK => ?sy21) AllReadyH.nil)
    case hy21 => simp only [List.getElem?_toArray, List.getElem?_cons_zero, List.getElem?_cons_succ]; rfl
    go_simp
    refine (implEmptyMapKey_any _).mono ?_
    rintro e w90 ⟨rfl, hx⟩
    have hH2 := hHeld.trans hx
    refine hK.out _ _ hH2 (fun _ => ?_)
    clear hHeld hK K
    have hHeld := hH2
    clear hH2
    try simp only [Act.put, List.setIfInBounds_toArray, List.set_cons_zero, List.set_cons_succ]
    refine wpAnyH_take (i := 2) (oi := ?oiz3) (v := ?vz3) ?hiz3 (by kernel_rfl) (by kernel_rfl) (by kernel_rfl) ?hQz3 ?hyz3 (by assumption) ?restz3
    case hiz3 => simp only [List.getElem?_toArray, List.getElem?_cons_zero, List.getElem?_cons_succ]; rfl
    case hQz3 => exact fun _ _ _ h => h
    case hyz3 => exact Or.inl ⟨by rfl, by intro w hSw; (try dsimp only at hSw); go_simp; with_reducible rfl⟩
    try simp only [Act.put, List.setIfInBounds_toArray, List.set_cons_zero, List.set_cons_succ]
    refine wpAnyH_take (i := 3) (oi := ?oiz4) (v := ?vz4) ?hiz4 (by kernel_rfl) (by kernel_rfl) (by kernel_rfl) ?hQz4 ?hyz4 (by assumption) ?restz4
    case hiz4 => simp only [List.getElem?_toArray, List.getElem?_cons_zero, List.getElem?_cons_succ]; rfl
    case hQz4 => exact fun _ _ _ h => h
    case hyz4 => exact Or.inl ⟨by rfl, by intro w hSw; (try dsimp only at hSw); go_simp; with_reducible rfl⟩
    try simp only [Act.put, List.setIfInBounds_toArray, List.set_cons_zero, List.set_cons_succ]
    refine wpAnyH_done (by kernel_rfl) ?_ _
    have XW2 := Lib.hid (XW.out.trans hHeld)
    clear hHeld
    go_wp2
    go_ret
    exact ⟨rfl, XW2.out⟩
  have hz : ((A.length : Int) == 0) = false := by rw [beq_eq_false_iff_ne]; omega
  have HPOS := Lib.hid (show 0 < NL.length by rw [HTL.out]; omega)
  obtain ⟨x, l, r, hx0⟩ := Tr.node_of (T := T) (by rw [HNL.out]; exact HPOS.out)
  have HX0 := Lib.hid hx0
  have hxN : NL[0]'HPOS.out = x := by
    have e : NL = x :: (l.all ++ r.all) := by rw [← HNL.out, hx0]; rfl
    simp only [e, List.getElem_cons_zero]
  have HF := Lib.hid (fun i (hi : i < NL.length) => node_facts HAk.out HAo.out HT.out hx0 HNL.out i hi)
  have hf0 := HF.out 0 HPOS.out
  rw [hxN] at hf0
  have HXE := Lib.hid hf0.2.1
  have HXP := Lib.hid hf0.2.2.1
  have HXK := Lib.hid (show nodeKR x = (K, 0) by rw [hf0.2.2.2.1, ← HK.out, hx0]; rfl)
  obtain ⟨P, hP⟩ : ∃ P, prioL x.n = P := ⟨_, rfl⟩
  rw [hP] at HXP
  have HP := Lib.hid hP
  have HPP := Lib.hid (show K32 P by rw [← hP]; exact prioL_ok _)
  have hpp := HPP.out.1
  have hneq : ∀ W, (binOp .neq 27 (.agg (numsA .u8 K)) (.agg (numsA .u8 K))).run Try.prog W = .ok (.bool false) W := fun W => by
    have := run_neqKey K K HKK.out HKK.out W
    rw [decide_eq_true rfl] at this
    exact this
  have hi0 : (0 : Int) < (NL.length : Int) := by have := HPOS.out; omega
  clear hf0 hx0 h0 hP
  obtain ⟨Ax, cx, ex, _, _, hrdx, hokx⟩ := id OD.out
  obtain ⟨fx, _, hx⟩ := Value.slice.inj ex
  subst fx hx
  obtain ⟨g, o, rfl, _, hcx⟩ := hrdx.elem hokx 0 HPOS.out
  have hOX : tNd.ok NL[0] := hokx _ (List.getElem_mem HPOS.out)
  have hNX : ∀ W, Ext w5 W → ∀ j u, (tNd.enc NL[0])[j]? = some u → W.cell? ⟨g, o + 0 * 66 + j, none⟩ = some u := fun W hW j u hu => hW.cell (hcx j u hu)
  clear ex hrdx hokx hcx
  simp only [Nat.zero_mul, Nat.add_zero] at hNX
  have HXO := Lib.hid (show x.ok by rw [← hxN]; exact hOX)
  have HNX := Lib.hid (show ∀ W, Ext w5 W → ∀ j u, x.enc[j]? = some u → W.cell? ⟨g, o + j, none⟩ = some u from fun W hW j u hu => hNX W hW j u (by rw [← hxN] at hu; exact hu))
  have hsn : x.n.size ≤ 1048576 := by have := entB_le HXE.out; omega
  clear hOX hNX hxN
  have XD := Lib.hid (Ext.refl w5)
  go_wp2_with (first | (refine wpl_loadB BK.out aggKey (sizeN hkk) rfl _ rfl rfl ?_) | (refine wpl_load ⟨g, o, none⟩ x.enc (by rw [Nd.enc_length HXO.out]; exact aggNodeI) rfl _ rfl rfl (fun j u hu => by rw [Addr.add_lit]; exact HNX.out _ XD.out j u hu) ?_))
  refine (implMapNodeKey_any x HXO.out _).mono ?_
  rintro e w6 ⟨he, hx⟩
  skip
  rw [HXK.out] at he
  subst he
  replace OA := Lib.hid (OA.out.ext (by decide) hx)
  replace OD := Lib.hid (OD.out.ext (by decide) hx)
  replace XD := Lib.hid (XD.out.trans hx)
  replace BK := Lib.hid (BK.out.ext hx)
  replace XW := Lib.hid (XW.out.trans hx)
  clear hx
  have c64 := HNX.out _ (XD.out.alloc (.cells (numsA .u8 K) 27)) 64 _ (by have := Nd.at64 HXO.out; rwa [List.getElem?_toArray] at this)
  go_wp2_with (first | (refine wpl_storeNew aggKey hkk rfl rfl _ _ rfl rfl rfl rfl ?_) | (refine wpl_loadB (Blk.new w6 27 (numsA .u8 K)) aggKey (sizeN hkk) rfl _ rfl rfl ?_) | (refine wpl_loadB BK.out aggKey (sizeN hkk) rfl _ rfl rfl ?_) | (refine wpl_loadB (BK.out.alloc _) aggKey (sizeN hkk) rfl _ rfl rfl ?_) | (refine wpl_loadBW (Blk.new w6 27 (numsA .u8 K)) aggKey (sizeN hkk) rfl _ rfl rfl ?_) | (refine wpl_loadBW BK.out aggKey (sizeN hkk) rfl _ rfl rfl ?_) | (refine wpl_loadBW (BK.out.alloc _) aggKey (sizeN hkk) rfl _ rfl rfl ?_))
  refine (implPriorityOf_any x.n hsn _).mono ?_
  rintro e w7 ⟨he, hx⟩
  skip
  rw [HXP.out] at he
  subst he
  clear c64
  have hE := (ext_alloc w6 (.cells (numsA .u8 K) 27)).trans hx
  replace OA := Lib.hid (OA.out.ext (by decide) hE)
  replace OD := Lib.hid (OD.out.ext (by decide) hE)
  replace XD := Lib.hid (XD.out.trans hE)
  replace BK := Lib.hid (BK.out.ext hE)
  replace XW := Lib.hid (XW.out.trans hE)
  clear hE
  have Bk := Lib.hid ((Blk.new w6 27 (numsA .u8 K)).ext hx)
  clear hx
  go_wp2_with (first | (refine wpl_storeNew aggKey hpp rfl rfl _ _ rfl rfl rfl rfl ?_) | (refine wpl_loadB (Blk.new w7 27 (numsA .u8 P)) aggKey (sizeN hpp) rfl _ rfl rfl ?_) | (refine wpl_loadB BK.out aggKey (sizeN hkk) rfl _ rfl rfl ?_) | (refine wpl_loadB (BK.out.alloc _) aggKey (sizeN hkk) rfl _ rfl rfl ?_) | (refine wpl_loadB Bk.out aggKey (sizeN hkk) rfl _ rfl rfl ?_) | (refine wpl_loadB (Bk.out.alloc _) aggKey (sizeN hkk) rfl _ rfl rfl ?_))
  have hE : Ext w7 (w7.alloc (.cells (numsA .u8 P) 27)) := ext_alloc _ _
  replace OA := Lib.hid (OA.out.ext (by decide) hE)
  replace OD := Lib.hid (OD.out.ext (by decide) hE)
  replace XD := Lib.hid (XD.out.trans hE)
  replace BK := Lib.hid (BK.out.ext hE)
  replace Bk := Lib.hid (Bk.out.ext hE)
  replace XW := Lib.hid (XW.out.trans hE)
  clear hE
  have BT := Lib.hid (Blk.new w7 27 (numsA .u8 P))
  generalize w7.alloc (.cells (numsA .u8 P) 27) = w8 at OA OD XD BK Bk BT XW ⊢
  clear Bk
  go_loopw [16] (fun i wr => ∃ k : Nat, k ≤ NL.length ∧ i = .int .i64 k ∧ Ext w8 wr) (fun i _ => NL.length - (intOf i).toNat)
  case atStart => exact ⟨0, by omega, rfl, Ext.refl _⟩
  case round =>
    obtain ⟨k, hk, rfl, hx⟩ := hrel
    have XL := Lib.hid hx
    clear hx
    replace OA := Lib.hid (OA.out.ext (by decide) XL.out)
    replace OD := Lib.hid (OD.out.ext (by decide) XL.out)
    replace XD := Lib.hid (XD.out.trans XL.out)
    replace BK := Lib.hid (BK.out.ext XL.out)
    replace BT := Lib.hid (BT.out.ext XL.out)
    replace XW := Lib.hid (XW.out.trans XL.out)
    by_cases hlt : k < NL.length
    · obtain ⟨Ay, cy, ey, _, _, hrdy, hoky⟩ := id OD.out
      obtain ⟨fy, _, hy⟩ := Value.slice.inj ey
      subst fy hy
      obtain ⟨g9, o9, hp9, _, hcy⟩ := hrdy.elem hoky k hlt
      injection hp9 with hp9
      injection hp9 with hp8 hp7 _
      subst hp8 hp7
      have hOY : tNd.ok NL[k] := hoky _ (List.getElem_mem hlt)
      have hNY : ∀ W, Ext wr W → ∀ j u, (tNd.enc NL[k])[j]? = some u → W.cell? ⟨g, o + k * 66 + j, none⟩ = some u := fun W hW j u hu => hW.cell (hcy j u hu)
      clear ey hrdy hoky hcy
      obtain ⟨h1, h2, h3, h4, h5, d, hd, hd1, hd2, hd3⟩ := HF.out k hlt
      generalize NL[k] = y at hOY hNY h1 h2 h3 h4 h5 hd
      have HYO := Lib.hid h1
      have HYE := Lib.hid h2
      have HYP := Lib.hid h3
      have HYK := Lib.hid h4
      have HYD := Lib.hid hd
      have HNY := Lib.hid (show ∀ W, Ext wr W → ∀ j u, y.enc[j]? = some u → W.cell? ⟨g, o + k * 66 + j, none⟩ = some u from hNY)
      rw [HP.out] at h5
      have hle : ¬ 0 < cmpL (prioL y.n) P := by omega
      have HQ := Lib.hid (prioL_ok y.n)
      have hqq := HQ.out.1
      have HZ := Lib.hid (hashL_ok 5 (nodeL y))
      have hzz := HZ.out.1
      have hyn := entB_le h2
      have hsy : y.n.size ≤ 1048576 := by omega
      have hsy2 : y.n.size ≤ 140737488351232 := by omega
      have hnl := nodeL_length h1
      have HNL2 := Lib.hid (show (nodeL y).length ≤ 4096 by rw [hnl]; omega)
      have HYS := Lib.hid (Nd.st h1)
      have hys := HYS.out.size
      have hdd : ¬ d < 1 := by omega
      have hdl : ¬ (A.length : Int) < d := by omega
      have hde2 : (d == 1) = ((k : Int) == 0) := by
        by_cases hk0 : k = 0
        · rw [decide_eq_true hk0] at hd3; simp at hd3; simp [hk0, hd3]
        · rw [decide_eq_false hk0] at hd3; simp at hd3
          have e1 : (d == 1) = false := by rw [beq_eq_false_iff_ne]; exact hd3
          have e2 : ((k : Int) == 0) = false := by rw [beq_eq_false_iff_ne]; omega
          rw [e1, e2]
      have hi1 : (0 : Int) ≤ (k : Int) := by omega
      have hi2 : (k : Int) < (NL.length : Int) := by omega
      have hnn : ∀ W, (binOp .neq 31 (.agg y.enc.toArray) (.agg y.enc.toArray)).run Try.prog W = .ok (.bool false) W := fun W => by rw [run_neqNd y y HYO.out HYO.out W, decide_eq_true rfl]; rfl
      have hnk : ∀ W, (binOp .neq 27 (.agg (numsA .u8 (hashL 5 (nodeL y)))) (.agg (numsA .u8 (hashL 5 (nodeL y))))).run Try.prog W = .ok (.bool false) W := fun W => by
        have := run_neqKey _ _ HZ.out HZ.out W
        rw [decide_eq_true rfl] at this
        exact this
      generalize prioL y.n = q at HYP hle HQ hqq
      generalize hze : hashL 5 (nodeL y) = z at HYK HZ hzz hnk
      have HZE := Lib.hid hze
      clear h1 h2 h3 h4 h5 hd hd1 hd2 hd3 hOY hNY hyn hnl hze
      clear hneq hlen hz
      have XR := Lib.hid (Ext.refl wr)
      go_wp2_with (first | (refine wpl_loadB BK.out aggKey (sizeN hkk) rfl _ rfl rfl ?_) | (refine wpl_loadB BT.out aggKey (sizeN hpp) rfl _ rfl rfl ?_) | (refine wpl_load ⟨g, o + k * 66, none⟩ y.enc (by rw [Nd.enc_length HYO.out]; exact aggNodeI) rfl _ rfl rfl (fun j u hu => by rw [Addr.add_lit]; exact HNY.out _ XR.out j u hu) ?_))
      refine (mapNodeBytes_any y HYO.out HYE.out _).mono ?_
      rintro e w9 ⟨v5, rfl, ho, hx⟩
      skip
      replace OA := Lib.hid (OA.out.ext (by decide) hx)
      replace OD := Lib.hid (OD.out.ext (by decide) hx)
      replace XD := Lib.hid (XD.out.trans hx)
      replace XL := Lib.hid (XL.out.trans hx)
      replace XR := Lib.hid (XR.out.trans hx)
      replace BK := Lib.hid (BK.out.ext hx)
      replace BT := Lib.hid (BT.out.ext hx)
      replace XW := Lib.hid (XW.out.trans hx)
      obtain ⟨A5, c5, rfl⟩ := ho.shape
      have OB := Lib.hid ho.rd
      clear ho
      clear hx
      go_wp2_with (first | (refine wpl_loadB BK.out aggKey (sizeN hkk) rfl _ rfl rfl ?_) | (refine wpl_loadB BT.out aggKey (sizeN hpp) rfl _ rfl rfl ?_) | (refine wpl_load ⟨g, o + k * 66, none⟩ y.enc (by rw [Nd.enc_length HYO.out]; exact aggNodeI) rfl _ rfl rfl (fun j u hu => by rw [Addr.add_lit]; exact HNY.out _ XR.out j u hu) ?_))
      refine (readNode_any y HYO.out HYE.out _ _ _ OB.out).mono ?_
      rintro e w10 ⟨he, hx⟩
      skip
      subst he
      replace OA := Lib.hid (OA.out.ext (by decide) hx)
      replace OD := Lib.hid (OD.out.ext (by decide) hx)
      replace XD := Lib.hid (XD.out.trans hx)
      replace XL := Lib.hid (XL.out.trans hx)
      replace XR := Lib.hid (XR.out.trans hx)
      replace OB := Lib.hid (OB.out.ext (by decide) hx)
      replace BK := Lib.hid (BK.out.ext hx)
      replace BT := Lib.hid (BT.out.ext hx)
      replace XW := Lib.hid (XW.out.trans hx)
      clear hx
      have d64 := HNY.out _ (XR.out.alloc (.cells y.enc.toArray 31)) 64 _ (by have := Nd.at64 HYO.out; rwa [List.getElem?_toArray] at this)
      go_wp2_with (first | (refine wpl_storeNewB aggNodeI HYS.out rfl rfl _ _ rfl rfl rfl rfl ?_) | (refine wpl_loadB (Blk.new w10 31 y.enc.toArray) aggNodeI hys rfl _ rfl rfl ?_) | (refine wpl_loadB BK.out aggKey (sizeN hkk) rfl _ rfl rfl ?_) | (refine wpl_loadB (BK.out.alloc _) aggKey (sizeN hkk) rfl _ rfl rfl ?_) | (refine wpl_loadB BT.out aggKey (sizeN hpp) rfl _ rfl rfl ?_) | (refine wpl_loadB (BT.out.alloc _) aggKey (sizeN hpp) rfl _ rfl rfl ?_) | (refine wpl_load ⟨g, o + k * 66, none⟩ y.enc (by rw [Nd.enc_length HYO.out]; exact aggNodeI) rfl _ rfl rfl (fun j u hu => by rw [Addr.add_lit]; exact HNY.out _ (XR.out.alloc (.cells y.enc.toArray 31)) j u hu) ?_))
      refine (implPriorityOf_any y.n hsy _).mono ?_
      rintro e w11 ⟨he, hx⟩
      skip
      rw [HYP.out] at he
      subst he
      clear d64
      have hE := (ext_alloc w10 (.cells y.enc.toArray 31)).trans hx
      replace OA := Lib.hid (OA.out.ext (by decide) hE)
      replace OD := Lib.hid (OD.out.ext (by decide) hE)
      replace XD := Lib.hid (XD.out.trans hE)
      replace XL := Lib.hid (XL.out.trans hE)
      replace XR := Lib.hid (XR.out.trans hE)
      replace OB := Lib.hid (OB.out.ext (by decide) hE)
      replace BK := Lib.hid (BK.out.ext hE)
      replace BT := Lib.hid (BT.out.ext hE)
      replace XW := Lib.hid (XW.out.trans hE)
      clear hE
      have BB := Lib.hid ((Blk.new w10 31 y.enc.toArray).ext hx)
      clear hx
      have d64 := HNY.out _ (XR.out.alloc (.cells (numsA .u8 q) 27)) 64 _ (by have := Nd.at64 HYO.out; rwa [List.getElem?_toArray] at this)
      go_wp2_with (first | (refine wpl_storeNew aggKey hqq rfl rfl _ _ rfl rfl rfl rfl ?_) | (refine wpl_loadB (Blk.new w11 27 (numsA .u8 q)) aggKey (sizeN hqq) rfl _ rfl rfl ?_) | (refine wpl_loadB BK.out aggKey (sizeN hkk) rfl _ rfl rfl ?_) | (refine wpl_loadB (BK.out.alloc _) aggKey (sizeN hkk) rfl _ rfl rfl ?_) | (refine wpl_loadB BT.out aggKey (sizeN hpp) rfl _ rfl rfl ?_) | (refine wpl_loadB (BT.out.alloc _) aggKey (sizeN hpp) rfl _ rfl rfl ?_) | (refine wpl_loadB BB.out aggNodeI hys rfl _ rfl rfl ?_) | (refine wpl_loadB (BB.out.alloc _) aggNodeI hys rfl _ rfl rfl ?_) | (refine wpl_load ⟨g, o + k * 66, none⟩ y.enc (by rw [Nd.enc_length HYO.out]; exact aggNodeI) rfl _ rfl rfl (fun j u hu => by rw [Addr.add_lit]; exact HNY.out _ (XR.out.alloc (.cells (numsA .u8 q) 27)) j u hu) ?_))
      refine (specHashOf_any 5 (by decide) _ (nodeL y) _ _ (OB.out.ext (by decide) (ext_alloc _ _)) HNL2.out).mono ?_
      rintro e w12 ⟨he, hx⟩
      skip
      rw [HZE.out] at he
      subst he
      clear d64
      have hE := (ext_alloc w11 (.cells (numsA .u8 q) 27)).trans hx
      replace OA := Lib.hid (OA.out.ext (by decide) hE)
      replace OD := Lib.hid (OD.out.ext (by decide) hE)
      replace XD := Lib.hid (XD.out.trans hE)
      replace XL := Lib.hid (XL.out.trans hE)
      replace XR := Lib.hid (XR.out.trans hE)
      replace OB := Lib.hid (OB.out.ext (by decide) hE)
      replace BK := Lib.hid (BK.out.ext hE)
      replace BT := Lib.hid (BT.out.ext hE)
      replace BB := Lib.hid (BB.out.ext hE)
      replace XW := Lib.hid (XW.out.trans hE)
      clear hE
      have Bq := Lib.hid ((Blk.new w11 27 (numsA .u8 q)).ext hx)
      clear hx
      have d64 := HNY.out _ (XR.out.alloc (.cells (numsA .u8 z) 27)) 64 _ (by have := Nd.at64 HYO.out; rwa [List.getElem?_toArray] at this)
      go_wp2_with (first | (refine wpl_storeNew aggKey hzz rfl rfl _ _ rfl rfl rfl rfl ?_) | (refine wpl_loadB (Blk.new w12 27 (numsA .u8 z)) aggKey (sizeN hzz) rfl _ rfl rfl ?_) | (refine wpl_loadB BK.out aggKey (sizeN hkk) rfl _ rfl rfl ?_) | (refine wpl_loadB (BK.out.alloc _) aggKey (sizeN hkk) rfl _ rfl rfl ?_) | (refine wpl_loadB BT.out aggKey (sizeN hpp) rfl _ rfl rfl ?_) | (refine wpl_loadB (BT.out.alloc _) aggKey (sizeN hpp) rfl _ rfl rfl ?_) | (refine wpl_loadB BB.out aggNodeI hys rfl _ rfl rfl ?_) | (refine wpl_loadB (BB.out.alloc _) aggNodeI hys rfl _ rfl rfl ?_) | (refine wpl_loadB Bq.out aggKey (sizeN hqq) rfl _ rfl rfl ?_) | (refine wpl_loadB (Bq.out.alloc _) aggKey (sizeN hqq) rfl _ rfl rfl ?_) | (refine wpl_load ⟨g, o + k * 66, none⟩ y.enc (by rw [Nd.enc_length HYO.out]; exact aggNodeI) rfl _ rfl rfl (fun j u hu => by rw [Addr.add_lit]; exact HNY.out _ (XR.out.alloc (.cells (numsA .u8 z) 27)) j u hu) ?_))
      refine (implMapNodeKey_any y HYO.out _).mono ?_
      rintro e w13 ⟨he, hx⟩
      skip
      rw [HYK.out] at he
      subst he
      clear d64
      have hE := (ext_alloc w12 (.cells (numsA .u8 z) 27)).trans hx
      replace OA := Lib.hid (OA.out.ext (by decide) hE)
      replace OD := Lib.hid (OD.out.ext (by decide) hE)
      replace XD := Lib.hid (XD.out.trans hE)
      replace XL := Lib.hid (XL.out.trans hE)
      replace XR := Lib.hid (XR.out.trans hE)
      replace OB := Lib.hid (OB.out.ext (by decide) hE)
      replace BK := Lib.hid (BK.out.ext hE)
      replace BT := Lib.hid (BT.out.ext hE)
      replace BB := Lib.hid (BB.out.ext hE)
      replace Bq := Lib.hid (Bq.out.ext hE)
      replace XW := Lib.hid (XW.out.trans hE)
      clear hE
      have Bh := Lib.hid ((Blk.new w12 27 (numsA .u8 z)).ext hx)
      clear hx
      have d64 := HNY.out _ (XR.out.alloc (.cells (numsA .u8 z) 27)) 64 _ (by have := Nd.at64 HYO.out; rwa [List.getElem?_toArray] at this)
      go_wp2_with (first | (refine wpl_storeNew aggKey hzz rfl rfl _ _ rfl rfl rfl rfl ?_) | (refine wpl_loadB (Blk.new w13 27 (numsA .u8 z)) aggKey (sizeN hzz) rfl _ rfl rfl ?_) | (refine wpl_loadB BK.out aggKey (sizeN hkk) rfl _ rfl rfl ?_) | (refine wpl_loadB (BK.out.alloc _) aggKey (sizeN hkk) rfl _ rfl rfl ?_) | (refine wpl_loadB BT.out aggKey (sizeN hpp) rfl _ rfl rfl ?_) | (refine wpl_loadB (BT.out.alloc _) aggKey (sizeN hpp) rfl _ rfl rfl ?_) | (refine wpl_loadB BB.out aggNodeI hys rfl _ rfl rfl ?_) | (refine wpl_loadB (BB.out.alloc _) aggNodeI hys rfl _ rfl rfl ?_) | (refine wpl_loadB Bq.out aggKey (sizeN hqq) rfl _ rfl rfl ?_) | (refine wpl_loadB (Bq.out.alloc _) aggKey (sizeN hqq) rfl _ rfl rfl ?_) | (refine wpl_loadB Bh.out aggKey (sizeN hzz) rfl _ rfl rfl ?_) | (refine wpl_loadB (Bh.out.alloc _) aggKey (sizeN hzz) rfl _ rfl rfl ?_) | (refine wpl_load ⟨g, o + k * 66, none⟩ y.enc (by rw [Nd.enc_length HYO.out]; exact aggNodeI) rfl _ rfl rfl (fun j u hu => by rw [Addr.add_lit]; exact HNY.out _ (XR.out.alloc (.cells (numsA .u8 z) 27)) j u hu) ?_))
      refine (implDepth_any _ A y.n hsy2 _ _ (OA.out.ext (by decide) (ext_alloc _ _))).mono ?_
      rintro e w14 ⟨he, hx⟩
      skip
      rw [HYD.out] at he
      subst he
      clear d64
      have hE := (ext_alloc w13 (.cells (numsA .u8 z) 27)).trans hx
      replace OA := Lib.hid (OA.out.ext (by decide) hE)
      replace OD := Lib.hid (OD.out.ext (by decide) hE)
      replace XD := Lib.hid (XD.out.trans hE)
      replace XL := Lib.hid (XL.out.trans hE)
      replace XR := Lib.hid (XR.out.trans hE)
      replace OB := Lib.hid (OB.out.ext (by decide) hE)
      replace BK := Lib.hid (BK.out.ext hE)
      replace BT := Lib.hid (BT.out.ext hE)
      replace BB := Lib.hid (BB.out.ext hE)
      replace Bq := Lib.hid (Bq.out.ext hE)
      replace Bh := Lib.hid (Bh.out.ext hE)
      replace XW := Lib.hid (XW.out.trans hE)
      clear hE
      have Bo := Lib.hid ((Blk.new w13 27 (numsA .u8 z)).ext hx)
      clear hx
      go_wp2_with (first | (refine wpl_loadB BK.out aggKey (sizeN hkk) rfl _ rfl rfl ?_) | (refine wpl_loadB BT.out aggKey (sizeN hpp) rfl _ rfl rfl ?_) | (refine wpl_loadB BB.out aggNodeI hys rfl _ rfl rfl ?_) | (refine wpl_loadB Bq.out aggKey (sizeN hqq) rfl _ rfl rfl ?_) | (refine wpl_loadB Bh.out aggKey (sizeN hzz) rfl _ rfl rfl ?_) | (refine wpl_loadB Bo.out aggKey (sizeN hzz) rfl _ rfl rfl ?_))
      refine wp_region_held_drew (S := fun W => Ext w14 W) (by kernel_rfl) (Ext.refl _).drew (fun hHeld => ?_)
      refine wpAnyH_take (i := 0) (oi := ?oiz5) (v := ?vz5) ?hiz5 (by kernel_rfl) (by kernel_rfl) (by kernel_rfl) ?hQz5 ?hyz5 (by assumption) ?restz5
      case hiz5 => simp only [List.getElem?_toArray, List.getElem?_cons_zero, List.getElem?_cons_succ]; rfl
      case hQz5 => exact fun _ _ _ h => h
      case hyz5 => exact Or.inl ⟨by rfl, by intro w hSw; (try dsimp only at hSw); go_simp; with_reducible rfl⟩
      try simp only [Act.put, List.setIfInBounds_toArray, List.set_cons_zero, List.set_cons_succ]
      refine wpAnyH_take (i := 1) (oi := ?oiz6) (v := ?vz6) ?hiz6 (by kernel_rfl) (by kernel_rfl) (by kernel_rfl) ?hQz6 ?hyz6 (by assumption) ?restz6
      case hiz6 => simp only [List.getElem?_toArray, List.getElem?_cons_zero, List.getElem?_cons_succ]; rfl
      case hQz6 => exact fun _ _ _ h => h
      case hyz6 => exact Or.inl ⟨by rfl, by intro w hSw; (try dsimp only at hSw); go_simp; with_reducible rfl⟩
      try simp only [Act.put, List.setIfInBounds_toArray, List.set_cons_zero, List.set_cons_succ]
      refine wpAnyH_take (i := 2) (oi := ?oiz7) (v := ?vz7) ?hiz7 (by kernel_rfl) (by kernel_rfl) (by kernel_rfl) ?hQz7 ?hyz7 (by assumption) ?restz7
      case hiz7 => simp only [List.getElem?_toArray, List.getElem?_cons_zero, List.getElem?_cons_succ]; rfl
      case hQz7 => exact fun _ _ _ h => h
      case hyz7 => exact Or.inl ⟨by rfl, by intro w hSw; (try dsimp only at hSw); go_simp; with_reducible rfl⟩
      try simp only [Act.put, List.setIfInBounds_toArray, List.set_cons_zero, List.set_cons_succ]
      refine wpAnyH_take (i := 3) (oi := ?oiz8) (v := ?vz8) ?hiz8 (by kernel_rfl) (by kernel_rfl) (by kernel_rfl) ?hQz8 ?hyz8 (by assumption) ?restz8
      case hiz8 => simp only [List.getElem?_toArray, List.getElem?_cons_zero, List.getElem?_cons_succ]; rfl
      case hQz8 => exact fun _ _ _ h => h
      case hyz8 => exact Or.inl ⟨by rfl, by intro w hSw; (try dsimp only at hSw); go_simp; with_reducible rfl⟩
      try simp only [Act.put, List.setIfInBounds_toArray, List.set_cons_zero, List.set_cons_succ]
      refine wpAnyH_take (i := 4) (oi := ?oiz9) (v := ?vz9) ?hiz9 (by kernel_rfl) (by kernel_rfl) (by kernel_rfl) ?hQz9 ?hyz9 (by assumption) ?restz9
      case hiz9 => simp only [List.getElem?_toArray, List.getElem?_cons_zero, List.getElem?_cons_succ]; rfl
      case hQz9 => exact fun _ _ _ h => h
      case hyz9 => exact Or.inl ⟨by rfl, by intro w hSw; (try dsimp only at hSw); go_simp; with_reducible rfl⟩
      try simp only [Act.put, List.setIfInBounds_toArray, List.set_cons_zero, List.set_cons_succ]
      refine wpAnyH_take (i := 5) (oi := ?oiz10) (v := ?vz10) ?hiz10 (by kernel_rfl) (by kernel_rfl) (by kernel_rfl) ?hQz10 ?hyz10 (by assumption) ?restz10
      case hiz10 => simp only [List.getElem?_toArray, List.getElem?_cons_zero, List.getElem?_cons_succ]; rfl
      case hQz10 => exact fun _ _ _ h => h
      case hyz10 => exact Or.inl ⟨by rfl, by intro w hSw; (try dsimp only at hSw); go_simp; with_reducible rfl⟩
      try simp only [Act.put, List.setIfInBounds_toArray, List.set_cons_zero, List.set_cons_succ]
      refine wpAnyH_take (i := 6) (oi := ?oiz11) (v := ?vz11) ?hiz11 (by kernel_rfl) (by kernel_rfl) (by kernel_rfl) ?hQz11 ?hyz11 (by assumption) ?restz11
      case hiz11 => simp only [List.getElem?_toArray, List.getElem?_cons_zero, List.getElem?_cons_succ]; rfl
      case hQz11 => exact fun _ _ _ h => h
      case hyz11 => exact Or.inl ⟨by rfl, by intro w hSw; (try dsimp only at hSw); go_simp; with_reducible rfl⟩
      try simp only [Act.put, List.setIfInBounds_toArray, List.set_cons_zero, List.set_cons_succ]
      refine wpAnyH_take (i := 7) (oi := ?oiz12) (v := (.agg y.enc.toArray)) ?hiz12 (by kernel_rfl) (by kernel_rfl) (by kernel_rfl) ?hQz12 ?hyz12 (by assumption) ?restz12
      case hiz12 => simp only [List.getElem?_toArray, List.getElem?_cons_zero, List.getElem?_cons_succ]; rfl
      case hQz12 => exact fun _ _ _ h => h
      case hyz12 => refine yields_loadB BB.out aggNodeI hys ?_ _ rfl rfl; rfl
      try simp only [Act.put, List.setIfInBounds_toArray, List.set_cons_zero, List.set_cons_succ]
      refine wpAnyH_take (i := 8) (oi := ?oiz13) (v := ?vz13) ?hiz13 (by kernel_rfl) (by kernel_rfl) (by kernel_rfl) ?hQz13 ?hyz13 (by assumption) ?restz13
      case hiz13 => simp only [List.getElem?_toArray, List.getElem?_cons_zero, List.getElem?_cons_succ]; rfl
      case hQz13 => exact fun _ _ _ h => h
      case hyz13 => exact Or.inl ⟨by rfl, by intro w hSw; (try dsimp only at hSw); go_simp; with_reducible rfl⟩
      try simp only [Act.put, List.setIfInBounds_toArray, List.set_cons_zero, List.set_cons_succ]
      refine wpAnyH_take (i := 9) (oi := ?oiz14) (v := ?vz14) ?hiz14 (by kernel_rfl) (by kernel_rfl) (by kernel_rfl) ?hQz14 ?hyz14 (by assumption) ?restz14
      case hiz14 => simp only [List.getElem?_toArray, List.getElem?_cons_zero, List.getElem?_cons_succ]; rfl
      case hQz14 => exact fun _ _ _ h => h
      case hyz14 => exact Or.inl ⟨by rfl, by intro w hSw; (try dsimp only at hSw); go_simp; with_reducible rfl⟩
      try simp only [Act.put, List.setIfInBounds_toArray, List.set_cons_zero, List.set_cons_succ]
      refine wpAnyH_take (i := 10) (oi := ?oiz15) (v := ?vz15) ?hiz15 (by kernel_rfl) (by kernel_rfl) (by kernel_rfl) ?hQz15 ?hyz15 (by assumption) ?restz15
      case hiz15 => simp only [List.getElem?_toArray, List.getElem?_cons_zero, List.getElem?_cons_succ]; rfl
      case hQz15 => exact fun _ _ _ h => h
      case hyz15 => exact Or.inl ⟨by rfl, by intro w hSw; (try dsimp only at hSw); go_simp; with_reducible rfl⟩
      try simp only [Act.put, List.setIfInBounds_toArray, List.set_cons_zero, List.set_cons_succ]
      refine wpAnyH_take (i := 11) (oi := ?oiz16) (v := (.agg y.enc.toArray)) ?hiz16 (by kernel_rfl) (by kernel_rfl) (by kernel_rfl) ?hQz16 ?hyz16 (by assumption) ?restz16
      case hiz16 => simp only [List.getElem?_toArray, List.getElem?_cons_zero, List.getElem?_cons_succ]; rfl
      case hQz16 => exact fun _ _ _ h => h
      case hyz16 => refine yields_loadS g (o + k * 66) y.enc (by rw [Nd.enc_length HYO.out]; exact aggNodeI) (fun W hW => HNY.out W (XR.out.trans hW)) ?_ _ rfl rfl; rfl
      try simp only [Act.put, List.setIfInBounds_toArray, List.set_cons_zero, List.set_cons_succ]
      refine wpAnyH_take (i := 12) (oi := ?oiz17) (v := ?vz17) ?hiz17 (by kernel_rfl) (by kernel_rfl) (by kernel_rfl) ?hQz17 ?hyz17 (by assumption) ?restz17
      case hiz17 => simp only [List.getElem?_toArray, List.getElem?_cons_zero, List.getElem?_cons_succ]; rfl
      case hQz17 => exact fun _ _ _ h => h
      case hyz17 => exact Or.inl ⟨by rfl, by intro w hSw; (try dsimp only at hSw); go_simp; with_reducible rfl⟩
      try simp only [Act.put, List.setIfInBounds_toArray, List.set_cons_zero, List.set_cons_succ]
      refine wpAnyH_take (i := 13) (oi := ?oiz18) (v := ?vz18) ?hiz18 (by kernel_rfl) (by kernel_rfl) (by kernel_rfl) ?hQz18 ?hyz18 (by assumption) ?restz18
      case hiz18 => simp only [List.getElem?_toArray, List.getElem?_cons_zero, List.getElem?_cons_succ]; rfl
      case hQz18 => exact fun _ _ _ h => h
      case hyz18 => exact Or.inl ⟨by rfl, by intro w hSw; (try dsimp only at hSw); go_simp; with_reducible rfl⟩
      try simp only [Act.put, List.setIfInBounds_toArray, List.set_cons_zero, List.set_cons_succ]
      refine wpAnyH_take (i := 14) (oi := ?oiz19) (v := ?vz19) ?hiz19 (by kernel_rfl) (by kernel_rfl) (by kernel_rfl) ?hQz19 ?hyz19 (by assumption) ?restz19
      case hiz19 => simp only [List.getElem?_toArray, List.getElem?_cons_zero, List.getElem?_cons_succ]; rfl
      case hQz19 => exact fun _ _ _ h => h
      case hyz19 => exact Or.inl ⟨by rfl, by intro w hSw; (try dsimp only at hSw); go_simp; with_reducible rfl⟩
      try simp only [Act.put, List.setIfInBounds_toArray, List.set_cons_zero, List.set_cons_succ]
      refine wpAnyH_take (i := 15) (oi := ?oiz20) (v := ?vz20) ?hiz20 (by kernel_rfl) (by kernel_rfl) (by kernel_rfl) ?hQz20 ?hyz20 (by assumption) ?restz20
      case hiz20 => simp only [List.getElem?_toArray, List.getElem?_cons_zero, List.getElem?_cons_succ]; rfl
      case hQz20 => exact fun _ _ _ h => h
      case hyz20 => exact Or.inl ⟨by rfl, by intro w hSw; (try dsimp only at hSw); go_simp; with_reducible rfl⟩
      try simp only [Act.put, List.setIfInBounds_toArray, List.set_cons_zero, List.set_cons_succ]
      refine wpAnyH_take (i := 16) (oi := ?oiz21) (v := ?vz21) ?hiz21 (by kernel_rfl) (by kernel_rfl) (by kernel_rfl) ?hQz21 ?hyz21 (by assumption) ?restz21
      case hiz21 => simp only [List.getElem?_toArray, List.getElem?_cons_zero, List.getElem?_cons_succ]; rfl
      case hQz21 => exact fun _ _ _ h => h
      case hyz21 => exact Or.inl ⟨by rfl, by intro w hSw; (try dsimp only at hSw); go_simp; with_reducible rfl⟩
      try simp only [Act.put, List.setIfInBounds_toArray, List.set_cons_zero, List.set_cons_succ]
      refine wpAnyH_take (i := 17) (oi := ?oiz22) (v := ?vz22) ?hiz22 (by kernel_rfl) (by kernel_rfl) (by kernel_rfl) ?hQz22 ?hyz22 (by assumption) ?restz22
      case hiz22 => simp only [List.getElem?_toArray, List.getElem?_cons_zero, List.getElem?_cons_succ]; rfl
      case hQz22 => exact fun _ _ _ h => h
      case hyz22 => exact Or.inl ⟨by rfl, by intro w hSw; (try dsimp only at hSw); go_simp; with_reducible rfl⟩
      try simp only [Act.put, List.setIfInBounds_toArray, List.set_cons_zero, List.set_cons_succ]
      refine wpAnyH_take (i := 18) (oi := ?oiz23) (v := ?vz23) ?hiz23 (by kernel_rfl) (by kernel_rfl) (by kernel_rfl) ?hQz23 ?hyz23 (by assumption) ?restz23
      case hiz23 => simp only [List.getElem?_toArray, List.getElem?_cons_zero, List.getElem?_cons_succ]; rfl
      case hQz23 => exact fun _ _ _ h => h
      case hyz23 => exact Or.inl ⟨by rfl, by intro w hSw; (try dsimp only at hSw); go_simp; with_reducible rfl⟩
      try simp only [Act.put, List.setIfInBounds_toArray, List.set_cons_zero, List.set_cons_succ]
      refine wpAnyH_take (i := 19) (oi := ?oiz24) (v := ?vz24) ?hiz24 (by kernel_rfl) (by kernel_rfl) (by kernel_rfl) ?hQz24 ?hyz24 (by assumption) ?restz24
      case hiz24 => simp only [List.getElem?_toArray, List.getElem?_cons_zero, List.getElem?_cons_succ]; rfl
      case hQz24 => exact fun _ _ _ h => h
      case hyz24 => exact Or.inl ⟨by rfl, by intro w hSw; (try dsimp only at hSw); go_simp; with_reducible rfl⟩
      try simp only [Act.put, List.setIfInBounds_toArray, List.set_cons_zero, List.set_cons_succ]
      refine wpAnyH_take (i := 20) (oi := ?oiz25) (v := ?vz25) ?hiz25 (by kernel_rfl) (by kernel_rfl) (by kernel_rfl) ?hQz25 ?hyz25 (by assumption) ?restz25
      case hiz25 => simp only [List.getElem?_toArray, List.getElem?_cons_zero, List.getElem?_cons_succ]; rfl
      case hQz25 => exact fun _ _ _ h => h
      case hyz25 => exact Or.inl ⟨by rfl, by intro w hSw; (try dsimp only at hSw); go_simp; with_reducible rfl⟩
      try simp only [Act.put, List.setIfInBounds_toArray, List.set_cons_zero, List.set_cons_succ]
      refine wpAnyH_take (i := 21) (oi := ?oiz26) (v := ?vz26) ?hiz26 (by kernel_rfl) (by kernel_rfl) (by kernel_rfl) ?hQz26 ?hyz26 (by assumption) ?restz26
      case hiz26 => simp only [List.getElem?_toArray, List.getElem?_cons_zero, List.getElem?_cons_succ]; rfl
      case hQz26 => exact fun _ _ _ h => h
      case hyz26 => exact Or.inl ⟨by rfl, by intro w hSw; (try dsimp only at hSw); go_simp; with_reducible rfl⟩
      try simp only [Act.put, List.setIfInBounds_toArray, List.set_cons_zero, List.set_cons_succ]
      refine wpAnyH_take (i := 22) (oi := ?oiz27) (v := ?vz27) ?hiz27 (by kernel_rfl) (by kernel_rfl) (by kernel_rfl) ?hQz27 ?hyz27 (by assumption) ?restz27
      case hiz27 => simp only [List.getElem?_toArray, List.getElem?_cons_zero, List.getElem?_cons_succ]; rfl
      case hQz27 => exact fun _ _ _ h => h
      case hyz27 => exact Or.inl ⟨by rfl, by intro w hSw; (try dsimp only at hSw); go_simp; with_reducible rfl⟩
      try simp only [Act.put, List.setIfInBounds_toArray, List.set_cons_zero, List.set_cons_succ]
      refine wpAnyH_take (i := 23) (oi := ?oiz28) (v := ?vz28) ?hiz28 (by kernel_rfl) (by kernel_rfl) (by kernel_rfl) ?hQz28 ?hyz28 (by assumption) ?restz28
      case hiz28 => simp only [List.getElem?_toArray, List.getElem?_cons_zero, List.getElem?_cons_succ]; rfl
      case hQz28 => exact fun _ _ _ h => h
      case hyz28 => exact Or.inl ⟨by rfl, by intro w hSw; (try dsimp only at hSw); go_simp; with_reducible rfl⟩
      try simp only [Act.put, List.setIfInBounds_toArray, List.set_cons_zero, List.set_cons_succ]
      refine wpAnyH_take (i := 24) (oi := ?oiz29) (v := ?vz29) ?hiz29 (by kernel_rfl) (by kernel_rfl) (by kernel_rfl) ?hQz29 ?hyz29 (by assumption) ?restz29
      case hiz29 => simp only [List.getElem?_toArray, List.getElem?_cons_zero, List.getElem?_cons_succ]; rfl
      case hQz29 => exact fun _ _ _ h => h
      case hyz29 => exact Or.inl ⟨by rfl, by intro w hSw; (try dsimp only at hSw); go_simp; with_reducible rfl⟩
      try simp only [Act.put, List.setIfInBounds_toArray, List.set_cons_zero, List.set_cons_succ]
      refine wpAnyH_take (i := 25) (oi := ?oiz30) (v := ?vz30) ?hiz30 (by kernel_rfl) (by kernel_rfl) (by kernel_rfl) ?hQz30 ?hyz30 (by assumption) ?restz30
      case hiz30 => simp only [List.getElem?_toArray, List.getElem?_cons_zero, List.getElem?_cons_succ]; rfl
      case hQz30 => exact fun _ _ _ h => h
      case hyz30 => exact Or.inl ⟨by rfl, by intro w hSw; (try dsimp only at hSw); go_simp; with_reducible rfl⟩
      try simp only [Act.put, List.setIfInBounds_toArray, List.set_cons_zero, List.set_cons_succ]
      refine wpAnyH_take (i := 26) (oi := ?oiz31) (v := ?vz31) ?hiz31 (by kernel_rfl) (by kernel_rfl) (by kernel_rfl) ?hQz31 ?hyz31 (by assumption) ?restz31
      case hiz31 => simp only [List.getElem?_toArray, List.getElem?_cons_zero, List.getElem?_cons_succ]; rfl
      case hQz31 => exact fun _ _ _ h => h
      case hyz31 => exact Or.inl ⟨by rfl, by intro w hSw; (try dsimp only at hSw); go_simp; with_reducible rfl⟩
      try simp only [Act.put, List.setIfInBounds_toArray, List.set_cons_zero, List.set_cons_succ]
      refine wpAnyH_take (i := 27) (oi := ?oiz32) (v := (.agg (numsA .u8 z))) ?hiz32 (by kernel_rfl) (by kernel_rfl) (by kernel_rfl) ?hQz32 ?hyz32 (by assumption) ?restz32
      case hiz32 => simp only [List.getElem?_toArray, List.getElem?_cons_zero, List.getElem?_cons_succ]; rfl
      case hQz32 => exact fun _ _ _ h => h
      case hyz32 => refine yields_loadB Bo.out aggKey (sizeN hzz) ?_ _ rfl rfl; rfl
      try simp only [Act.put, List.setIfInBounds_toArray, List.set_cons_zero, List.set_cons_succ]
      refine wpAnyH_take (i := 28) (oi := ?oiz33) (v := (.agg (numsA .u8 z))) ?hiz33 (by kernel_rfl) (by kernel_rfl) (by kernel_rfl) ?hQz33 ?hyz33 (by assumption) ?restz33
      case hiz33 => simp only [List.getElem?_toArray, List.getElem?_cons_zero, List.getElem?_cons_succ]; rfl
      case hQz33 => exact fun _ _ _ h => h
      case hyz33 => refine yields_loadB Bh.out aggKey (sizeN hzz) ?_ _ rfl rfl; rfl
      try simp only [Act.put, List.setIfInBounds_toArray, List.set_cons_zero, List.set_cons_succ]
      refine wpAnyH_take (i := 29) (oi := ?oiz34) (v := ?vz34) ?hiz34 (by kernel_rfl) (by kernel_rfl) (by kernel_rfl) ?hQz34 ?hyz34 (by assumption) ?restz34
      case hiz34 => simp only [List.getElem?_toArray, List.getElem?_cons_zero, List.getElem?_cons_succ]; rfl
      case hQz34 => exact fun _ _ _ h => h
      case hyz34 => exact Or.inl ⟨by rfl, by intro w hSw; (try dsimp only at hSw); go_simp; with_reducible rfl⟩
      try simp only [Act.put, List.setIfInBounds_toArray, List.set_cons_zero, List.set_cons_succ]
      refine wpAnyH_take (i := 30) (oi := ?oiz35) (v := ?vz35) ?hiz35 (by kernel_rfl) (by kernel_rfl) (by kernel_rfl) ?hQz35 ?hyz35 (by assumption) ?restz35
      case hiz35 => simp only [List.getElem?_toArray, List.getElem?_cons_zero, List.getElem?_cons_succ]; rfl
      case hQz35 => exact fun _ _ _ h => h
      case hyz35 => exact Or.inl ⟨by rfl, by intro w hSw; (try dsimp only at hSw); go_simp; with_reducible rfl⟩
      try simp only [Act.put, List.setIfInBounds_toArray, List.set_cons_zero, List.set_cons_succ]
      refine wpAnyH_take (i := 31) (oi := ?oiz36) (v := ?vz36) ?hiz36 (by kernel_rfl) (by kernel_rfl) (by kernel_rfl) ?hQz36 ?hyz36 (by assumption) ?restz36
      case hiz36 => simp only [List.getElem?_toArray, List.getElem?_cons_zero, List.getElem?_cons_succ]; rfl
      case hQz36 => exact fun _ _ _ h => h
      case hyz36 => exact Or.inl ⟨by rfl, by intro w hSw; (try dsimp only at hSw); go_simp; with_reducible rfl⟩
      try simp only [Act.put, List.setIfInBounds_toArray, List.set_cons_zero, List.set_cons_succ]
      refine wpAnyH_take (i := 32) (oi := ?oiz37) (v := ?vz37) ?hiz37 (by kernel_rfl) (by kernel_rfl) (by kernel_rfl) ?hQz37 ?hyz37 (by assumption) ?restz37
      case hiz37 => simp only [List.getElem?_toArray, List.getElem?_cons_zero, List.getElem?_cons_succ]; rfl
      case hQz37 => exact fun _ _ _ h => h
      case hyz37 => exact Or.inl ⟨by rfl, by intro w hSw; (try dsimp only at hSw); go_simp; with_reducible rfl⟩
      try simp only [Act.put, List.setIfInBounds_toArray, List.set_cons_zero, List.set_cons_succ]
      refine wpAnyH_take (i := 33) (oi := ?oiz38) (v := ?vz38) ?hiz38 (by kernel_rfl) (by kernel_rfl) (by kernel_rfl) ?hQz38 ?hyz38 (by assumption) ?restz38
      case hiz38 => simp only [List.getElem?_toArray, List.getElem?_cons_zero, List.getElem?_cons_succ]; rfl
      case hQz38 => exact fun _ _ _ h => h
      case hyz38 => exact Or.inl ⟨by rfl, by intro w hSw; (try dsimp only at hSw); go_simp; with_reducible rfl⟩
      try simp only [Act.put, List.setIfInBounds_toArray, List.set_cons_zero, List.set_cons_succ]
      refine wpAnyH_take (i := 34) (oi := ?oiz39) (v := ?vz39) ?hiz39 (by kernel_rfl) (by kernel_rfl) (by kernel_rfl) ?hQz39 ?hyz39 (by assumption) ?restz39
      case hiz39 => simp only [List.getElem?_toArray, List.getElem?_cons_zero, List.getElem?_cons_succ]; rfl
      case hQz39 => exact fun _ _ _ h => h
      case hyz39 => exact Or.inl ⟨by rfl, by intro w hSw; (try dsimp only at hSw); go_simp; with_reducible rfl⟩
      try simp only [Act.put, List.setIfInBounds_toArray, List.set_cons_zero, List.set_cons_succ]
      refine wpAnyH_take (i := 35) (oi := ?oiz40) (v := ?vz40) ?hiz40 (by kernel_rfl) (by kernel_rfl) (by kernel_rfl) ?hQz40 ?hyz40 (by assumption) ?restz40
      case hiz40 => simp only [List.getElem?_toArray, List.getElem?_cons_zero, List.getElem?_cons_succ]; rfl
      case hQz40 => exact fun _ _ _ h => h
      case hyz40 => exact Or.inl ⟨by rfl, by intro w hSw; (try dsimp only at hSw); go_simp; with_reducible rfl⟩
      try simp only [Act.put, List.setIfInBounds_toArray, List.set_cons_zero, List.set_cons_succ]
      refine wpAnyH_take (i := 36) (oi := ?oiz41) (v := ?vz41) ?hiz41 (by kernel_rfl) (by kernel_rfl) (by kernel_rfl) ?hQz41 ?hyz41 (by assumption) ?restz41
      case hiz41 => simp only [List.getElem?_toArray, List.getElem?_cons_zero, List.getElem?_cons_succ]; rfl
      case hQz41 => exact fun _ _ _ h => h
      case hyz41 => exact Or.inl ⟨by rfl, by intro w hSw; (try dsimp only at hSw); go_simp; with_reducible rfl⟩
      try simp only [Act.put, List.setIfInBounds_toArray, List.set_cons_zero, List.set_cons_succ]
      refine wpAnyH_take (i := 37) (oi := ?oiz42) (v := (.bool false)) ?hiz42 (by kernel_rfl) (by kernel_rfl) (by kernel_rfl) ?hQz42 ?hyz42 (by assumption) ?restz42
      case hiz42 => simp only [List.getElem?_toArray, List.getElem?_cons_zero, List.getElem?_cons_succ]; rfl
      case hQz42 => exact fun _ _ _ h => h
      case hyz42 => exact Or.inl ⟨by rfl, by intro w hSw; (try dsimp only at hSw); go_simp⟩
      try simp only [Act.put, List.setIfInBounds_toArray, List.set_cons_zero, List.set_cons_succ]
      refine wpAnyH_take (i := 38) (oi := ?oiz43) (v := ?vz43) ?hiz43 (by kernel_rfl) (by kernel_rfl) (by kernel_rfl) ?hQz43 ?hyz43 (by assumption) ?restz43
      case hiz43 => simp only [List.getElem?_toArray, List.getElem?_cons_zero, List.getElem?_cons_succ]; rfl
      case hQz43 => exact fun _ _ _ h => h
      case hyz43 => exact Or.inl ⟨by rfl, by intro w hSw; (try dsimp only at hSw); go_simp; with_reducible rfl⟩
      try simp only [Act.put, List.setIfInBounds_toArray, List.set_cons_zero, List.set_cons_succ]
      refine wpAnyH_take (i := 39) (oi := ?oiz44) (v := ?vz44) ?hiz44 (by kernel_rfl) (by kernel_rfl) (by kernel_rfl) ?hQz44 ?hyz44 (by assumption) ?restz44
      case hiz44 => simp only [List.getElem?_toArray, List.getElem?_cons_zero, List.getElem?_cons_succ]; rfl
      case hQz44 => exact fun _ _ _ h => h
      case hyz44 => exact Or.inl ⟨by rfl, by intro w hSw; (try dsimp only at hSw); go_simp; with_reducible rfl⟩
      try simp only [Act.put, List.setIfInBounds_toArray, List.set_cons_zero, List.set_cons_succ]
      refine wpAnyH_take (i := 40) (oi := ?oiz45) (v := ?vz45) ?hiz45 (by kernel_rfl) (by kernel_rfl) (by kernel_rfl) ?hQz45 ?hyz45 (by assumption) ?restz45
      case hiz45 => simp only [List.getElem?_toArray, List.getElem?_cons_zero, List.getElem?_cons_succ]; rfl
      case hQz45 => exact fun _ _ _ h => h
      case hyz45 => exact Or.inl ⟨by rfl, by intro w hSw; (try dsimp only at hSw); go_simp; with_reducible rfl⟩
      try simp only [Act.put, List.setIfInBounds_toArray, List.set_cons_zero, List.set_cons_succ]
      refine wpAnyH_take (i := 41) (oi := ?oiz46) (v := ?vz46) ?hiz46 (by kernel_rfl) (by kernel_rfl) (by kernel_rfl) ?hQz46 ?hyz46 (by assumption) ?restz46
      case hiz46 => simp only [List.getElem?_toArray, List.getElem?_cons_zero, List.getElem?_cons_succ]; rfl
      case hQz46 => exact fun _ _ _ h => h
      case hyz46 => exact Or.inl ⟨by rfl, by intro w hSw; (try dsimp only at hSw); go_simp; with_reducible rfl⟩
      try simp only [Act.put, List.setIfInBounds_toArray, List.set_cons_zero, List.set_cons_succ]
      refine wpAnyH_take (i := 42) (oi := ?oiz47) (v := ?vz47) ?hiz47 (by kernel_rfl) (by kernel_rfl) (by kernel_rfl) ?hQz47 ?hyz47 (by assumption) ?restz47
      case hiz47 => simp only [List.getElem?_toArray, List.getElem?_cons_zero, List.getElem?_cons_succ]; rfl
      case hQz47 => exact fun _ _ _ h => h
      case hyz47 => exact Or.inl ⟨by rfl, by intro w hSw; (try dsimp only at hSw); go_simp; with_reducible rfl⟩
      try simp only [Act.put, List.setIfInBounds_toArray, List.set_cons_zero, List.set_cons_succ]
      refine wpAnyH_take (i := 43) (oi := ?oiz48) (v := (.bool false)) ?hiz48 (by kernel_rfl) (by kernel_rfl) (by kernel_rfl) ?hQz48 ?hyz48 (by assumption) ?restz48
      case hiz48 => simp only [List.getElem?_toArray, List.getElem?_cons_zero, List.getElem?_cons_succ]; rfl
      case hQz48 => exact fun _ _ _ h => h
      case hyz48 => exact Or.inl ⟨by rfl, by intro w hSw; (try dsimp only at hSw); go_simp⟩
      try simp only [Act.put, List.setIfInBounds_toArray, List.set_cons_zero, List.set_cons_succ]
      refine wpAnyH_take (i := 44) (oi := ?oiz49) (v := ?vz49) ?hiz49 (by kernel_rfl) (by kernel_rfl) (by kernel_rfl) ?hQz49 ?hyz49 (by assumption) ?restz49
      case hiz49 => simp only [List.getElem?_toArray, List.getElem?_cons_zero, List.getElem?_cons_succ]; rfl
      case hQz49 => exact fun _ _ _ h => h
      case hyz49 => exact Or.inl ⟨by rfl, by intro w hSw; (try dsimp only at hSw); go_simp; with_reducible rfl⟩
      try simp only [Act.put, List.setIfInBounds_toArray, List.set_cons_zero, List.set_cons_succ]
      refine wpAnyH_take (i := 45) (oi := ?oiz50) (v := ?vz50) ?hiz50 (by kernel_rfl) (by kernel_rfl) (by kernel_rfl) ?hQz50 ?hyz50 (by assumption) ?restz50
      case hiz50 => simp only [List.getElem?_toArray, List.getElem?_cons_zero, List.getElem?_cons_succ]; rfl
      case hQz50 => exact fun _ _ _ h => h
      case hyz50 => exact Or.inl ⟨by rfl, by intro w hSw; (try dsimp only at hSw); go_simp; with_reducible rfl⟩
      try simp only [Act.put, List.setIfInBounds_toArray, List.set_cons_zero, List.set_cons_succ]
      refine wpAnyH_take (i := 46) (oi := ?oiz51) (v := ?vz51) ?hiz51 (by kernel_rfl) (by kernel_rfl) (by kernel_rfl) ?hQz51 ?hyz51 (by assumption) ?restz51
      case hiz51 => simp only [List.getElem?_toArray, List.getElem?_cons_zero, List.getElem?_cons_succ]; rfl
      case hQz51 => exact fun _ _ _ h => h
      case hyz51 => exact Or.inl ⟨by rfl, by intro w hSw; (try dsimp only at hSw); go_simp; with_reducible rfl⟩
      try simp only [Act.put, List.setIfInBounds_toArray, List.set_cons_zero, List.set_cons_succ]
      refine wpAnyH_take (i := 47) (oi := ?oiz52) (v := ?vz52) ?hiz52 (by kernel_rfl) (by kernel_rfl) (by kernel_rfl) ?hQz52 ?hyz52 (by assumption) ?restz52
      case hiz52 => simp only [List.getElem?_toArray, List.getElem?_cons_zero, List.getElem?_cons_succ]; rfl
      case hQz52 => exact fun _ _ _ h => h
      case hyz52 => exact Or.inl ⟨by rfl, by intro w hSw; (try dsimp only at hSw); go_simp; with_reducible rfl⟩
      try simp only [Act.put, List.setIfInBounds_toArray, List.set_cons_zero, List.set_cons_succ]
      refine wpAnyH_take (i := 48) (oi := ?oiz53) (v := ?vz53) ?hiz53 (by kernel_rfl) (by kernel_rfl) (by kernel_rfl) ?hQz53 ?hyz53 (by assumption) ?restz53
      case hiz53 => simp only [List.getElem?_toArray, List.getElem?_cons_zero, List.getElem?_cons_succ]; rfl
      case hQz53 => exact fun _ _ _ h => h
      case hyz53 => exact Or.inl ⟨by rfl, by intro w hSw; (try dsimp only at hSw); go_simp; with_reducible rfl⟩
      try simp only [Act.put, List.setIfInBounds_toArray, List.set_cons_zero, List.set_cons_succ]
      refine wpAnyH_take (i := 49) (oi := ?oiz54) (v := ?vz54) ?hiz54 (by kernel_rfl) (by kernel_rfl) (by kernel_rfl) ?hQz54 ?hyz54 (by assumption) ?restz54
      case hiz54 => simp only [List.getElem?_toArray, List.getElem?_cons_zero, List.getElem?_cons_succ]; rfl
      case hQz54 => exact fun _ _ _ h => h
      case hyz54 => exact Or.inl ⟨by rfl, by intro w hSw; (try dsimp only at hSw); go_simp; with_reducible rfl⟩
      try simp only [Act.put, List.setIfInBounds_toArray, List.set_cons_zero, List.set_cons_succ]
      refine wpAnyH_take (i := 50) (oi := ?oiz55) (v := (.bool false)) ?hiz55 (by kernel_rfl) (by kernel_rfl) (by kernel_rfl) ?hQz55 ?hyz55 (by assumption) ?restz55
      case hiz55 => simp only [List.getElem?_toArray, List.getElem?_cons_zero, List.getElem?_cons_succ]; rfl
      case hQz55 => exact fun _ _ _ h => h
      case hyz55 => exact Or.inl ⟨by rfl, by intro w hSw; (try dsimp only at hSw); go_simp⟩
      try simp only [Act.put, List.setIfInBounds_toArray, List.set_cons_zero, List.set_cons_succ]
      refine wpAnyH_take (i := 51) (oi := ?oiz56) (v := ?vz56) ?hiz56 (by kernel_rfl) (by kernel_rfl) (by kernel_rfl) ?hQz56 ?hyz56 (by assumption) ?restz56
      case hiz56 => simp only [List.getElem?_toArray, List.getElem?_cons_zero, List.getElem?_cons_succ]; rfl
      case hQz56 => exact fun _ _ _ h => h
      case hyz56 => exact Or.inl ⟨by rfl, by intro w hSw; (try dsimp only at hSw); go_simp; with_reducible rfl⟩
      try simp only [Act.put, List.setIfInBounds_toArray, List.set_cons_zero, List.set_cons_succ]
      refine wpAnyH_done (by kernel_rfl) ?_ _
      generalize World.drew w14 = w15 at hHeld ⊢
      replace OA := Lib.hid (OA.out.ext (by decide) hHeld)
      replace OD := Lib.hid (OD.out.ext (by decide) hHeld)
      replace XD := Lib.hid (XD.out.trans hHeld)
      replace XL := Lib.hid (XL.out.trans hHeld)
      replace XR := Lib.hid (XR.out.trans hHeld)
      replace OB := Lib.hid (OB.out.ext (by decide) hHeld)
      replace BK := Lib.hid (BK.out.ext hHeld)
      replace BT := Lib.hid (BT.out.ext hHeld)
      replace BB := Lib.hid (BB.out.ext hHeld)
      replace Bq := Lib.hid (Bq.out.ext hHeld)
      replace Bh := Lib.hid (Bh.out.ext hHeld)
      replace Bo := Lib.hid (Bo.out.ext hHeld)
      replace XW := Lib.hid (XW.out.trans hHeld)
      clear hHeld
      go_wp2_with (first | (refine wpl_loadB BK.out aggKey (sizeN hkk) rfl _ rfl rfl ?_) | (refine wpl_loadB BT.out aggKey (sizeN hpp) rfl _ rfl rfl ?_) | (refine wpl_loadB BB.out aggNodeI hys rfl _ rfl rfl ?_) | (refine wpl_loadB Bq.out aggKey (sizeN hqq) rfl _ rfl rfl ?_) | (refine wpl_loadB Bh.out aggKey (sizeN hzz) rfl _ rfl rfl ?_) | (refine wpl_loadB Bo.out aggKey (sizeN hzz) rfl _ rfl rfl ?_))
      refine (specCompareKeys_any q P HQ.out HPP.out _).mono ?_
      rintro e w16 ⟨he, hx⟩
      skip
      subst he
      replace OA := Lib.hid (OA.out.ext (by decide) hx)
      replace OD := Lib.hid (OD.out.ext (by decide) hx)
      replace XD := Lib.hid (XD.out.trans hx)
      replace XL := Lib.hid (XL.out.trans hx)
      replace XR := Lib.hid (XR.out.trans hx)
      replace OB := Lib.hid (OB.out.ext (by decide) hx)
      replace BK := Lib.hid (BK.out.ext hx)
      replace BT := Lib.hid (BT.out.ext hx)
      replace BB := Lib.hid (BB.out.ext hx)
      replace Bq := Lib.hid (Bq.out.ext hx)
      replace Bh := Lib.hid (Bh.out.ext hx)
      replace Bo := Lib.hid (Bo.out.ext hx)
      replace XW := Lib.hid (XW.out.trans hx)
      clear hx
      go_wp2_with (first | (refine wpl_loadB BK.out aggKey (sizeN hkk) rfl _ rfl rfl ?_) | (refine wpl_loadB BT.out aggKey (sizeN hpp) rfl _ rfl rfl ?_) | (refine wpl_loadB BB.out aggNodeI hys rfl _ rfl rfl ?_) | (refine wpl_loadB Bq.out aggKey (sizeN hqq) rfl _ rfl rfl ?_) | (refine wpl_loadB Bh.out aggKey (sizeN hzz) rfl _ rfl rfl ?_) | (refine wpl_loadB Bo.out aggKey (sizeN hzz) rfl _ rfl rfl ?_))
      go_roundw
      case rel => exact ⟨k + 1, by omega, by go_num, XL.out⟩
      case measure => simp [intOf]; omega
    · obtain rfl : k = NL.length := by omega
      go_wp2_with (first | (refine wpl_loadB BK.out aggKey (sizeN hkk) rfl _ rfl rfl ?_) | (refine wpl_loadB BT.out aggKey (sizeN hpp) rfl _ rfl rfl ?_))
      refine (p6Name_any _ x1 _ _ (H1.out.ext (by decide) XW.out)).mono ?_
      rintro e w9 ⟨nm, rfl, hnm, hnz, hx⟩
      skip
      replace OA := Lib.hid (OA.out.ext (by decide) hx)
      replace OD := Lib.hid (OD.out.ext (by decide) hx)
      replace XD := Lib.hid (XD.out.trans hx)
      replace XL := Lib.hid (XL.out.trans hx)
      replace BK := Lib.hid (BK.out.ext hx)
      replace BT := Lib.hid (BT.out.ext hx)
      replace XW := Lib.hid (XW.out.trans hx)
      clear hx
      have hnz2 : nm.size ≤ 140737488351232 := by omega
      obtain ⟨PL, hPL⟩ : ∃ PL, T.way nm = PL := ⟨_, rfl⟩
      obtain ⟨hw0, hw1, hw2, hw3⟩ := way_facts HAk.out HAo.out HT.out (by rw [HNL.out]; exact HPOS.out) hnm hPL
      have HPR := Lib.hid hw0
      have HW1 := Lib.hid hw1
      have HWF := Lib.hid hw3
      clear hw0 hw1 hw2 hw3 hPL hnm
      go_wp2_with (first | (refine wpl_loadB BK.out aggKey (sizeN hkk) rfl _ rfl rfl ?_) | (refine wpl_loadB BT.out aggKey (sizeN hpp) rfl _ rfl rfl ?_))
      refine (implProveName_any _ A nm hnz2 _ _ OA.out).mono ?_
      rintro e w10 ⟨vP, he, ho, hx⟩
      skip
      rw [HPR.out] at he ho
      subst he
      dsimp only at ho
      replace OA := Lib.hid (OA.out.ext (by decide) hx)
      replace OD := Lib.hid (OD.out.ext (by decide) hx)
      replace XD := Lib.hid (XD.out.trans hx)
      replace XL := Lib.hid (XL.out.trans hx)
      replace BK := Lib.hid (BK.out.ext hx)
      replace BT := Lib.hid (BT.out.ext hx)
      replace XW := Lib.hid (XW.out.trans hx)
      obtain ⟨AP, cP, rfl⟩ := ho.shape
      have OP := Lib.hid ho.rd
      clear ho
      clear hx
      go_wp2_with (first | (refine wpl_loadB BK.out aggKey (sizeN hkk) rfl _ rfl rfl ?_) | (refine wpl_loadB BT.out aggKey (sizeN hpp) rfl _ rfl rfl ?_))
      refine (specProveName_any _ A nm hnz2 _ _ OA.out).mono ?_
      rintro e w11 ⟨vQ, he, ho, hx⟩
      skip
      rw [HPR.out] at he ho
      subst he
      dsimp only at ho
      replace OA := Lib.hid (OA.out.ext (by decide) hx)
      replace OD := Lib.hid (OD.out.ext (by decide) hx)
      replace XD := Lib.hid (XD.out.trans hx)
      replace XL := Lib.hid (XL.out.trans hx)
      replace OP := Lib.hid (OP.out.ext (by decide) hx)
      replace BK := Lib.hid (BK.out.ext hx)
      replace BT := Lib.hid (BT.out.ext hx)
      replace XW := Lib.hid (XW.out.trans hx)
      obtain ⟨AQ, cQ, rfl⟩ := ho.shape
      have OQ := Lib.hid ho.rd
      clear ho
      clear hx
      go_wp2_with (first | (refine wpl_loadB BK.out aggKey (sizeN hkk) rfl _ rfl rfl ?_) | (refine wpl_loadB BT.out aggKey (sizeN hpp) rfl _ rfl rfl ?_))
      refine (sameNodes_any _ _ PL PL _ _ _ OP.out OQ.out).mono ?_
      rintro e w12 ⟨he, hx⟩
      skip
      rw [decide_eq_true rfl] at he
      subst he
      replace OA := Lib.hid (OA.out.ext (by decide) hx)
      replace OD := Lib.hid (OD.out.ext (by decide) hx)
      replace XD := Lib.hid (XD.out.trans hx)
      replace XL := Lib.hid (XL.out.trans hx)
      replace OP := Lib.hid (OP.out.ext (by decide) hx)
      replace OQ := Lib.hid (OQ.out.ext (by decide) hx)
      replace BK := Lib.hid (BK.out.ext hx)
      replace BT := Lib.hid (BT.out.ext hx)
      replace XW := Lib.hid (XW.out.trans hx)
      clear hx
      go_wp2_with (first | (refine wpl_loadB BK.out aggKey (sizeN hkk) rfl _ rfl rfl ?_) | (refine wpl_loadB BT.out aggKey (sizeN hpp) rfl _ rfl rfl ?_))
      clear OP OD OA XL XD
      go_loopw [34] (fun i wr => ∃ m : Nat, m + 1 ≤ PL.length ∧ i = .int .i64 ((m : Int) + 1) ∧ Ext w12 wr) (fun i _ => PL.length - (intOf i).toNat)
      case atStart => exact ⟨0, HW1.out, rfl, Ext.refl _⟩
      case round =>
        obtain ⟨m, hm, rfl, hx⟩ := hrel
        have XL := Lib.hid hx
        clear hx
        replace OQ := Lib.hid (OQ.out.ext (by decide) XL.out)
        replace BK := Lib.hid (BK.out.ext XL.out)
        replace BT := Lib.hid (BT.out.ext XL.out)
        replace XW := Lib.hid (XW.out.trans XL.out)
        by_cases hlt : m + 1 < PL.length
        · obtain ⟨Ay, cy, ey, _, _, hrdy, hoky⟩ := id OQ.out
          obtain ⟨fy, _, hy⟩ := Value.slice.inj ey
          subst fy hy
          obtain ⟨g2, o2, rfl, _, hcy⟩ := hrdy.elem hoky m (Nat.lt_of_succ_lt hlt)
          have hOY : tNd.ok PL[m] := hoky _ (List.getElem_mem (Nat.lt_of_succ_lt hlt))
          have hNY : ∀ W, Ext wr W → ∀ j u, (tNd.enc PL[m])[j]? = some u → W.cell? ⟨g2, o2 + m * 66 + j, none⟩ = some u := fun W hW j u hu => hW.cell (hcy j u hu)
          clear ey hrdy hoky hcy
          obtain ⟨Az, cz, ez, _, _, hrdz, hokz⟩ := id OQ.out
          obtain ⟨fz, _, hz⟩ := Value.slice.inj ez
          subst fz hz
          obtain ⟨g9, o9, hp9, _, hcz⟩ := hrdz.elem hokz (m + 1) hlt
          injection hp9 with hp9
          injection hp9 with hp8 hp7 _
          subst hp8 hp7
          have hOZ : tNd.ok PL[(m + 1)] := hokz _ (List.getElem_mem hlt)
          have hNZ : ∀ W, Ext wr W → ∀ j u, (tNd.enc PL[(m + 1)])[j]? = some u → W.cell? ⟨g2, o2 + (m + 1) * 66 + j, none⟩ = some u := fun W hW j u hu => hW.cell (hcz j u hu)
          clear ez hrdz hokz hcz
          obtain ⟨h1, h2, h3, h4, h5⟩ := HWF.out m hlt
          generalize PL[m] = y at hOY hNY h1 h3 h5
          generalize PL[m + 1] = z at hOZ hNZ h2 h4 h5
          have HYO := Lib.hid h1
          have HZO := Lib.hid h2
          have HYP := Lib.hid h3
          have HZP := Lib.hid h4
          have HNY := Lib.hid (show ∀ W, Ext wr W → ∀ j u, y.enc[j]? = some u → W.cell? ⟨g2, o2 + m * 66 + j, none⟩ = some u from hNY)
          have HNZ := Lib.hid (show ∀ W, Ext wr W → ∀ j u, z.enc[j]? = some u → W.cell? ⟨g2, o2 + (m + 1) * 66 + j, none⟩ = some u from hNZ)
          have HQ := Lib.hid (prioL_ok y.n)
          have hqq := HQ.out.1
          have HR := Lib.hid (prioL_ok z.n)
          have hrr := HR.out.1
          have hsy : y.n.size ≤ 1048576 := by
            have := prio_size h3
            omega
          have hsz : z.n.size ≤ 1048576 := by
            have := prio_size h4
            omega
          have hi1 : (0 : Int) ≤ (m : Int) := by omega
          have hi2 : (m : Int) < (PL.length : Int) := by omega
          have hi3 : (0 : Int) ≤ (m : Int) + 1 := by omega
          have hi4 : (m : Int) + 1 < (PL.length : Int) := by omega
          generalize prioL y.n = q at HYP HQ hqq h5
          generalize prioL z.n = q2 at HZP HR hrr h5
          clear h1 h2 h3 h4 hOY hNY hOZ hNZ
          have XR := Lib.hid (Ext.refl wr)
          have d64 := HNY.out _ XR.out 64 _ (by have := Nd.at64 HYO.out; rwa [List.getElem?_toArray] at this)
          have f64 := HNZ.out _ XR.out 64 _ (by have := Nd.at64 HZO.out; rwa [List.getElem?_toArray] at this)
          go_wp2_with (first | (refine wpl_loadB BK.out aggKey (sizeN hkk) rfl _ rfl rfl ?_) | (refine wpl_loadB BT.out aggKey (sizeN hpp) rfl _ rfl rfl ?_))
          refine (specPriorityOf_any y.n hsy _).mono ?_
          rintro e w13 ⟨he, hx⟩
          skip
          rw [HYP.out] at he
          subst he
          clear d64 f64
          replace OQ := Lib.hid (OQ.out.ext (by decide) hx)
          replace XL := Lib.hid (XL.out.trans hx)
          replace XR := Lib.hid (XR.out.trans hx)
          replace BK := Lib.hid (BK.out.ext hx)
          replace BT := Lib.hid (BT.out.ext hx)
          replace XW := Lib.hid (XW.out.trans hx)
          clear hx
          have d64 := HNY.out _ (XR.out.alloc (.cells (numsA .u8 q) 27)) 64 _ (by have := Nd.at64 HYO.out; rwa [List.getElem?_toArray] at this)
          have f64 := HNZ.out _ (XR.out.alloc (.cells (numsA .u8 q) 27)) 64 _ (by have := Nd.at64 HZO.out; rwa [List.getElem?_toArray] at this)
          go_wp2_with (first | (refine wpl_storeNew aggKey hqq rfl rfl _ _ rfl rfl rfl rfl ?_) | (refine wpl_loadB (Blk.new w13 27 (numsA .u8 q)) aggKey (sizeN hqq) rfl _ rfl rfl ?_) | (refine wpl_loadB BK.out aggKey (sizeN hkk) rfl _ rfl rfl ?_) | (refine wpl_loadB (BK.out.alloc _) aggKey (sizeN hkk) rfl _ rfl rfl ?_) | (refine wpl_loadB BT.out aggKey (sizeN hpp) rfl _ rfl rfl ?_) | (refine wpl_loadB (BT.out.alloc _) aggKey (sizeN hpp) rfl _ rfl rfl ?_))
          refine (specPriorityOf_any z.n hsz _).mono ?_
          rintro e w14 ⟨he, hx⟩
          skip
          rw [HZP.out] at he
          subst he
          clear d64 f64
          have hE := (ext_alloc w13 (.cells (numsA .u8 q) 27)).trans hx
          replace OQ := Lib.hid (OQ.out.ext (by decide) hE)
          replace XL := Lib.hid (XL.out.trans hE)
          replace XR := Lib.hid (XR.out.trans hE)
          replace BK := Lib.hid (BK.out.ext hE)
          replace BT := Lib.hid (BT.out.ext hE)
          replace XW := Lib.hid (XW.out.trans hE)
          clear hE
          have Bq := Lib.hid ((Blk.new w13 27 (numsA .u8 q)).ext hx)
          clear hx
          go_wp2_with (first | (refine wpl_storeNew aggKey hrr rfl rfl _ _ rfl rfl rfl rfl ?_) | (refine wpl_loadB (Blk.new w14 27 (numsA .u8 q2)) aggKey (sizeN hrr) rfl _ rfl rfl ?_) | (refine wpl_loadB BK.out aggKey (sizeN hkk) rfl _ rfl rfl ?_) | (refine wpl_loadB (BK.out.alloc _) aggKey (sizeN hkk) rfl _ rfl rfl ?_) | (refine wpl_loadB BT.out aggKey (sizeN hpp) rfl _ rfl rfl ?_) | (refine wpl_loadB (BT.out.alloc _) aggKey (sizeN hpp) rfl _ rfl rfl ?_) | (refine wpl_loadB Bq.out aggKey (sizeN hqq) rfl _ rfl rfl ?_) | (refine wpl_loadB (Bq.out.alloc _) aggKey (sizeN hqq) rfl _ rfl rfl ?_) | (refine wpl_loadBW (Blk.new w14 27 (numsA .u8 q2)) aggKey (sizeN hrr) rfl _ rfl rfl ?_) | (refine wpl_loadBW BK.out aggKey (sizeN hkk) rfl _ rfl rfl ?_) | (refine wpl_loadBW (BK.out.alloc _) aggKey (sizeN hkk) rfl _ rfl rfl ?_) | (refine wpl_loadBW BT.out aggKey (sizeN hpp) rfl _ rfl rfl ?_) | (refine wpl_loadBW (BT.out.alloc _) aggKey (sizeN hpp) rfl _ rfl rfl ?_) | (refine wpl_loadBW Bq.out aggKey (sizeN hqq) rfl _ rfl rfl ?_) | (refine wpl_loadBW (Bq.out.alloc _) aggKey (sizeN hqq) rfl _ rfl rfl ?_))
          refine (specCompareKeys_any q q2 HQ.out HR.out _).mono ?_
          rintro e w15 ⟨he, hx⟩
          skip
          subst he
          have hE := (ext_alloc w14 (.cells (numsA .u8 q2) 27)).trans hx
          replace OQ := Lib.hid (OQ.out.ext (by decide) hE)
          replace XL := Lib.hid (XL.out.trans hE)
          replace XR := Lib.hid (XR.out.trans hE)
          replace BK := Lib.hid (BK.out.ext hE)
          replace BT := Lib.hid (BT.out.ext hE)
          replace Bq := Lib.hid (Bq.out.ext hE)
          replace XW := Lib.hid (XW.out.trans hE)
          clear hE
          have Br := Lib.hid ((Blk.new w14 27 (numsA .u8 q2)).ext hx)
          clear hx
          go_wp2_with (first | (refine wpl_loadB BK.out aggKey (sizeN hkk) rfl _ rfl rfl ?_) | (refine wpl_loadB BT.out aggKey (sizeN hpp) rfl _ rfl rfl ?_) | (refine wpl_loadB Bq.out aggKey (sizeN hqq) rfl _ rfl rfl ?_) | (refine wpl_loadB Br.out aggKey (sizeN hrr) rfl _ rfl rfl ?_))
          go_roundw
          case rel => exact ⟨m + 1, by omega, by go_num, XL.out⟩
          case measure => simp [intOf]; omega
        · have hge : ¬ (m : Int) + 1 < (PL.length : Int) := by omega
          go_wp2
          go_ret
          exact ⟨rfl, XW.out⟩
end Go.Proofs.Ytmndkbheehcoaaa
