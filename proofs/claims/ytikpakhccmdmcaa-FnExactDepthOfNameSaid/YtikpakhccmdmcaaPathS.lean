/- The path to a name: the reference. No condition. -/
import Derived.Test.YtikpakhccmdmcaaStpB
import Derived.Test.YtikpakhccmdmcaaSelT
namespace Go.Proofs.Ytikpakhccmdmcaa
open Go.RowKit
set_option linter.unusedVariables false
set_option linter.unusedSimpArgs false

set_option maxHeartbeats 2000000 in
set_option maxRecDepth 100000 in
theorem l04Path_any (v : Value) (L : List En) (s : ByteArray) (h64 : L.length ≤ 64) (hg : good L) (w : World) (S : Nat → Prop) (h : RdL tEnt w S v L) :
    Calls Try.prog 44 #[v, .string s] w fun e w' => ∃ v', e = .returned v' ∧ Own tNd 60 w' w.heap.size v' ((trF L.length L).sel (fun o => ltB s o) (fun o => ltB o s)) ∧ Ext w w' := by
  obtain ⟨R, hR0⟩ : ∃ R, (trF L.length L).sel (fun o => ltB s o) (fun o => ltB o s) = R := ⟨_, rfl⟩
  rw [hR0]
  have HR0 := Lib.hid hR0
  have HG0 := Lib.hid hg
  have H0 := Lib.hid h
  obtain ⟨A, cap, rfl, _⟩ := h
  clear hR0 hg
  go_enter Try.func44, Try.ntmps44
  go_wp2_with fail
  go_loopw [0, 5] (fun l u wr => ∃ (f : Nat) (L1 : List En) (acc : List Nd), L1.length ≤ f ∧ L1.length ≤ 64 ∧ acc.length + L1.length ≤ 64 ∧ good L1 ∧ RdL tEnt w S l L1 ∧ Own tNd 60 wr w.heap.size u acc ∧ acc ++ (trF f L1).sel (fun o => ltB s o) (fun o => ltB o s) = R ∧ Ext w wr) (fun l _ _ => lenV l)
  case atStart => exact ⟨L.length, L, [], Nat.le_refl _, h64, by simpa using h64, HG0.out, H0.out, Own.empty tNd w 60 w.heap.size (Nat.le_refl _), by simpa using HR0.out, ext_alloc _ _⟩
  case round =>
    clear H0 HR0 HG0 h64
    obtain ⟨f, L1, acc, hf, h64, hal, hg1, hr, ho, hR, hx⟩ := hrel
    have HX := Lib.hid hx
    have HO := Lib.hid ho
    have HAL := Lib.hid hal
    obtain ⟨C, cn, cc, rfl⟩ := ho.shape3
    obtain ⟨A, cap, rfl, hcap, hlen, hrd, hok⟩ := id hr
    clear hx ho hal
    by_cases h0 : L1.length = 0
    · rw [trF_nil _ _ h0] at hR
      have HQ := Lib.hid (show acc = R by simpa [Tr.sel] using hR)
      have hz : ¬ (0 : Int) < (L1.length : Int) := by omega
      clear hR
      go_wp2
      go_ret
      exact ⟨_, rfl, by rw [← HQ.out]; exact HO.out, HX.out⟩
    · obtain ⟨f, rfl⟩ : ∃ f', f = f' + 1 := ⟨f - 1, by omega⟩
      have hlt := topE_lt (L := L1) (by omega)
      have hND := trF_ok (f + 1) L1 hg1
      rw [trF_cons _ _ h0] at hR hND
      obtain ⟨k, hk⟩ : ∃ k, topE L1 = k := ⟨_, rfl⟩
      simp only [hk] at hlt hND hR
      rw [gE_lt hlt] at hND hR
      obtain ⟨g, o, rfl, hs0, hc⟩ := hrd.elem hok k hlt
      obtain ⟨TL, hTL⟩ : ∃ T, trF f (L1.take k) = T := ⟨_, rfl⟩
      obtain ⟨TR, hTR⟩ : ∃ T, trF f (L1.drop (k + 1)) = T := ⟨_, rfl⟩
      rw [hTL, hTR] at hR hND
      simp only [Tr.sel] at hR
      have HND := Lib.hid hND.1
      have KL := Lib.hid TL.key_ok.1
      have KR := Lib.hid TR.key_ok.1
      have HC := Lib.hid (show ∀ W, Ext w W → ∀ j u, ([Value.string L1[k].1, .string L1[k].2] : List Value)[j]? = some u → W.cell? ⟨g, o + k * 2 + j, none⟩ = some u from fun W hW j u hu => hW.cell (hc j u hu))
      clear hc hrd hok hND hs0
      by_cases hce : cap = k + 1
      · subst hce
        have H := Lib.hid (show RdL tEnt w S (.slice (some ⟨g, o, none⟩) L1.length (k + 1)) L1 from hr)
        have ihl := fun W (hW : RdL tEnt W S (.slice (some ⟨g, o, none⟩) L1.length (k + 1)) L1) => l04Nodes_any f _ (L1.take k) (by rw [List.length_take]; omega) (by rw [List.length_take]; omega) (hg1.take k) W S (RdL.headN (k := k) hW rfl (by omega))
        have ihr := fun W (hW : RdL tEnt W S (.slice (some ⟨g, o, none⟩) L1.length (k + 1)) L1) => l04Nodes_any f _ (L1.drop (k + 1)) (by rw [List.length_drop]; omega) (by rw [List.length_drop]; omega) (hg1.drop (k + 1)) W S (RdL.cutN (k := k + 1) hW rfl (by omega))
        have htop := fun W (hW : RdL tEnt W S (.slice (some ⟨g, o, none⟩) L1.length (k + 1)) L1) => l04Top_any _ L1 (by omega) hg1 W S hW
        simp only [Option.map_some, Addr.add_lit, show tEnt.sz = 2 from rfl, eq_self, if_true, Nat.sub_self] at ihr
        rw [hk] at htop
        simp only [hTL] at ihl
        simp only [hTR] at ihr
        have HTL := Lib.hid hTL
        have HTR := Lib.hid hTR
        have HG := Lib.hid hg1
        have hi : (0 : Int) ≤ (k : Int) := by omega
        have hi2 : (k : Int) ≤ (L1.length : Int) := by omega
        have hi3 : (k : Int) < (L1.length : Int) := by omega
        have hi4 : (k : Int) + 1 ≤ (L1.length : Int) := by omega
        have hi5 : (0 : Int) ≤ (k : Int) + 1 := by omega
        have hi6 : (k : Int) ≤ ((k + 1 : Nat) : Int) := by omega
        have hi8 : (L1.length : Int) ≤ ((k + 1 : Nat) : Int) := by omega
        have hi9 : (k : Int) + 1 ≤ ((k + 1 : Nat) : Int) := by omega
        have hi0 : (0 : Int) < (L1.length : Int) := by omega
        have HQC := Lib.hid hcap
        clear hTL hTR hg1 hr hk hcap
        go_wp2_with fail
        refine (htop _ (H.out.ext (by decide) HX.out)).mono ?_
        rintro e w1 ⟨rfl, hx⟩
        have XW := Lib.hid (HX.out.trans hx)
        have HO1 := Lib.hid (HO.out.ext hx)
        have HS1 := Lib.hid hx.size
        clear hx htop
        go_wp2_with fail
        refine (ihl _ (H.out.ext (by decide) XW.out)).mono ?_
        rintro e w2 ⟨vl, rfl, ho, hx⟩
        replace XW := Lib.hid (XW.out.trans hx)
        have HO2 := Lib.hid (HO1.out.ext hx)
        have HS2 := Lib.hid (Nat.le_trans HS1.out hx.size)
        obtain ⟨AL, nl, cl, rfl⟩ := ho.shape3
        clear ho hx ihl HO1
        go_wp2_with (refine wpl_storeNew aggKey KL.out rfl rfl _ _ rfl rfl rfl rfl ?_)
        refine (ihr _ (H.out.ext (by decide) (XW.out.alloc _))).mono ?_
        rintro e w3 ⟨vr, rfl, ho, hx⟩
        replace XW := Lib.hid ((XW.out.alloc _).trans hx)
        have HO3 := Lib.hid (((HO2.out.alloc _).ext hx).alloc (.cells (numsA .u8 TR.key) 45))
        have HS3 := Lib.hid (show wr.heap.size ≤ w3.heap.size by have := hx.size; have := HS2.out; simp only [size_alloc] at *; omega)
        have B6 := Lib.hid (((Blk.new w2 45 (numsA .u8 TL.key)).ext hx).alloc (.cells (numsA .u8 TR.key) 45))
        have B8 := Lib.hid (Blk.new w3 45 (numsA .u8 TR.key))
        obtain ⟨AR, nr, cr, rfl⟩ := ho.shape3
        clear ho hx ihr HO2
        go_wp2_with (refine wpl_storeNew aggKey KR.out rfl rfl _ _ rfl rfl rfl rfl ?_)
        refine wp_region_held_drew (S := fun W => Ext w W ∧ Blk W w2.heap.size 45 (numsA .u8 TL.key) ∧ Blk W w3.heap.size 45 (numsA .u8 TR.key)) (by kernel_rfl) ⟨(XW.out.alloc _).drew, B6.out.drewN 1, B8.out.drewN 1⟩ (fun hHeld => ?_)
        have hs9 : (w3.alloc (.cells (numsA .u8 TR.key) 45)).heap.size = (w3.alloc (.cells (numsA .u8 TR.key) 45)).drew.heap.size := rfl
        have HOd := Lib.hid (show Own tNd 60 (w3.alloc (.cells (numsA .u8 TR.key) 45)).drew w.heap.size (.slice C cn cc) acc from HO3.out)
        generalize hw9 : (w3.alloc (.cells (numsA .u8 TR.key) 45)).drew = w9 at hHeld HOd hs9 ⊢
        clear hw9
        refine wpAnyH_take (i := 0) (oi := ?oiz1) (v := ?vz1) ?hiz1 (by kernel_rfl) (by kernel_rfl) (by kernel_rfl) ?hQz1 ?hyz1 (by assumption) ?restz1
        case hiz1 => simp only [List.getElem?_toArray, List.getElem?_cons_zero, List.getElem?_cons_succ]; rfl
        case hQz1 => exact fun _ _ _ h => h
        case hyz1 => exact Or.inl ⟨by rfl, by intro w hSw; (try dsimp only at hSw); go_simp; with_reducible rfl⟩
        try simp only [Act.put, List.setIfInBounds_toArray, List.set_cons_zero, List.set_cons_succ]
        refine wpAnyH_take (i := 1) (oi := ?oiz2) (v := (.agg (numsA .u8 TL.key))) ?hiz2 (by kernel_rfl) (by kernel_rfl) (by kernel_rfl) ?hQz2 ?hyz2 (by assumption) ?restz2
        case hiz2 => simp only [List.getElem?_toArray, List.getElem?_cons_zero, List.getElem?_cons_succ]; rfl
        case hQz2 => exact fun _ _ _ h => h
        case hyz2 => refine yields_loadS w2.heap.size 0 (nums .u8 TL.key) (by rw [nums_length, KL.out]; exact aggKey) (fun W hW j u hu => by rw [Nat.zero_add]; exact hW.2.1.at_ j (by rw [numsA, List.getElem?_toArray]; exact hu)) ?_ _ rfl rfl; rfl
        try simp only [Act.put, List.setIfInBounds_toArray, List.set_cons_zero, List.set_cons_succ]
        refine wpAnyH_take (i := 2) (oi := ?oiz3) (v := (.agg (numsA .u8 TR.key))) ?hiz3 (by kernel_rfl) (by kernel_rfl) (by kernel_rfl) ?hQz3 ?hyz3 (by assumption) ?restz3
        case hiz3 => simp only [List.getElem?_toArray, List.getElem?_cons_zero, List.getElem?_cons_succ]; rfl
        case hQz3 => exact fun _ _ _ h => h
        case hyz3 => refine yields_loadS w3.heap.size 0 (nums .u8 TR.key) (by rw [nums_length, KR.out]; exact aggKey) (fun W hW j u hu => by rw [Nat.zero_add]; exact hW.2.2.at_ j (by rw [numsA, List.getElem?_toArray]; exact hu)) ?_ _ rfl rfl; rfl
        try simp only [Act.put, List.setIfInBounds_toArray, List.set_cons_zero, List.set_cons_succ]
        refine wpAnyH_take (i := 3) (oi := ?oiz4) (v := ?vz4) ?hiz4 (by kernel_rfl) (by kernel_rfl) (by kernel_rfl) ?hQz4 ?hyz4 (by assumption) ?restz4
        case hiz4 => simp only [List.getElem?_toArray, List.getElem?_cons_zero, List.getElem?_cons_succ]; rfl
        case hQz4 => exact fun _ _ _ h => h
        case hyz4 => exact Or.inl ⟨by rfl, by intro w hSw; (try dsimp only at hSw); go_simp; with_reducible rfl⟩
        try simp only [Act.put, List.setIfInBounds_toArray, List.set_cons_zero, List.set_cons_succ]
        refine wpAnyH_take (i := 4) (oi := ?oiz5) (v := ?vz5) ?hiz5 (by kernel_rfl) (by kernel_rfl) (by kernel_rfl) ?hQz5 ?hyz5 (by assumption) ?restz5
        case hiz5 => simp only [List.getElem?_toArray, List.getElem?_cons_zero, List.getElem?_cons_succ]; rfl
        case hQz5 => exact fun _ _ _ h => h
        case hyz5 => exact Or.inl ⟨by rfl, by intro w hSw; (try dsimp only at hSw); go_simp; with_reducible rfl⟩
        try simp only [Act.put, List.setIfInBounds_toArray, List.set_cons_zero, List.set_cons_succ]
        refine wpAnyH_take (i := 5) (oi := ?oiz6) (v := ?vz6) ?hiz6 (by kernel_rfl) (by kernel_rfl) (by kernel_rfl) ?hQz6 ?hyz6 (by assumption) ?restz6
        case hiz6 => simp only [List.getElem?_toArray, List.getElem?_cons_zero, List.getElem?_cons_succ]; rfl
        case hQz6 => exact fun _ _ _ h => h
        case hyz6 => exact Or.inl ⟨by rfl, by intro w hSw; (try dsimp only at hSw); go_simp; with_reducible rfl⟩
        try simp only [Act.put, List.setIfInBounds_toArray, List.set_cons_zero, List.set_cons_succ]
        refine wpAnyH_take (i := 6) (oi := ?oiz7) (v := (.agg #[.string L1[k].1, .string L1[k].2])) ?hiz7 (by kernel_rfl) (by kernel_rfl) (by kernel_rfl) ?hQz7 ?hyz7 (by assumption) ?restz7
        case hiz7 => simp only [List.getElem?_toArray, List.getElem?_cons_zero, List.getElem?_cons_succ]; rfl
        case hQz7 => exact fun _ _ _ h => h
        case hyz7 => refine yields_loadS g (o + k * 2) [.string L1[k].1, .string L1[k].2] aggEntryI (fun W hW => HC.out W hW.1) ?_ _ rfl rfl; rfl
        try simp only [Act.put, List.setIfInBounds_toArray, List.set_cons_zero, List.set_cons_succ]
        refine wpAnyH_take (i := 7) (oi := ?oiz8) (v := (.agg (Nd.enc ⟨TL.key, TR.key, L1[k].1, L1[k].2⟩).toArray)) ?hiz8 (by kernel_rfl) (by kernel_rfl) (by kernel_rfl) ?hQz8 ?hyz8 (by assumption) ?restz8
        case hiz8 => simp only [List.getElem?_toArray, List.getElem?_cons_zero, List.getElem?_cons_succ]; rfl
        case hQz8 => exact fun _ _ _ h => h
        case hyz8 => refine yields_build ?_ rfl (built_node ⟨TL.key, TR.key, L1[k].1, L1[k].2⟩ HND.out); rfl
        try simp only [Act.put, List.setIfInBounds_toArray, List.set_cons_zero, List.set_cons_succ]
        refine wpAnyH_ready (rs := [8]) (by kernel_rfl) (by simp) (AllReadyH.cons (o := ?oy98) ?hy98 (fun K hK => ?sy98) AllReadyH.nil)
        case hy98 => simp only [List.getElem?_toArray, List.getElem?_cons_zero, List.getElem?_cons_succ]; rfl
        refine stp_build1 Try.underlying30 zeroNd (Nd.st HND.out).size (by decide) (by decide) rfl (.tmp 39) rfl rfl ?_
        have hH2 : Ext w (w9.alloc (.cells (Nd.enc ⟨TL.key, TR.key, L1[k].1, L1[k].2⟩).toArray 60)) ∧ Blk (w9.alloc (.cells (Nd.enc ⟨TL.key, TR.key, L1[k].1, L1[k].2⟩).toArray 60)) w2.heap.size 45 (numsA .u8 TL.key) ∧ Blk (w9.alloc (.cells (Nd.enc ⟨TL.key, TR.key, L1[k].1, L1[k].2⟩).toArray 60)) w3.heap.size 45 (numsA .u8 TR.key) := ⟨hHeld.1.alloc _, hHeld.2.1.alloc _, hHeld.2.2.alloc _⟩
        refine hK.out _ _ hH2 (fun _ => ?_)
        clear hK K
        try simp only [Act.put, List.setIfInBounds_toArray, List.set_cons_zero, List.set_cons_succ]
        refine wpAnyH_ready (rs := [9]) (by kernel_rfl) (by simp) (AllReadyH.cons (o := ?oy109) ?hy109 (fun K hK => ?sy109) AllReadyH.nil)
        case hy109 => simp only [List.getElem?_toArray, List.getElem?_cons_zero, List.getElem?_cons_succ]; rfl
        refine stp_append rowNd rfl _ _ rfl (v := .slice C cn cc) rfl (HOd.out.alloc _) _ _ rfl (A := some ⟨w9.heap.size, 0, none⟩) (ys := [⟨TL.key, TR.key, L1[k].1, L1[k].2⟩]) rfl (rd_one (T := tNd) w9 ⟨TL.key, TR.key, L1[k].1, L1[k].2⟩ HND.out _) (by intro y hy; obtain rfl := List.mem_singleton.1 hy; exact HND.out) (by have := HAL.out; simp only [List.length_singleton]; omega) hH2.1.size ?_
        intro v10 w10 ho1 hg1 hat1
        have hfar : ∀ b, wr.heap.size ≤ b → some b ≠ (Value.slice C cn cc).ownBlock := fun b hb e => by have := (HO.out.base_le _ e.symm).2; omega
        have hs2 := HS2.out
        have hs3 := HS3.out
        have hH3 : Ext w w10 ∧ Blk w10 w2.heap.size 45 (numsA .u8 TL.key) ∧ Blk w10 w3.heap.size 45 (numsA .u8 TR.key) := ⟨(HOd.out.alloc _).ext_app hH2.1 hg1, hH2.2.1.grown hg1 (hfar _ hs2), hH2.2.2.grown hg1 (hfar _ hs3)⟩
        have HO10 := Lib.hid ho1
        have HX10 := Lib.hid hH3.1
        obtain ⟨D, dn, dc, rfl⟩ := ho1.shape3
        clear ho1 hg1 hat1 hfar
        refine hK.out _ _ hH3 (fun _ => ?_)
        clear hK K hH2 hH3 hHeld
        try simp only [Act.put, List.setIfInBounds_toArray, List.set_cons_zero, List.set_cons_succ]
        refine wpAnyH_take (i := 10) (oi := ?oiz11) (v := ?vz11) ?hiz11 (by kernel_rfl) (by kernel_rfl) (by kernel_rfl) ?hQz11 ?hyz11 (by assumption) ?restz11
        case hiz11 => simp only [List.getElem?_toArray, List.getElem?_cons_zero, List.getElem?_cons_succ]; rfl
        case hQz11 => exact fun _ _ _ h => h
        case hyz11 => exact Or.inl ⟨by rfl, by intro w hSw; (try dsimp only at hSw); go_simp; with_reducible rfl⟩
        try simp only [Act.put, List.setIfInBounds_toArray, List.set_cons_zero, List.set_cons_succ]
        refine wpAnyH_done (by kernel_rfl) ?_ _
        have d0 := HC.out w10 HX10.out 0 _ rfl
        have d1 : w10.cell? ⟨g, o + k * 2, none⟩ = some (.string L1[k].1) := d0
        have e2 := ltB_eq s L1[k].1
        clear d0 B6 B8
        have HRR := Lib.hid hR
        clear hR
        by_cases hname : L1[k].1 = s
        · have hn2 : (L1[k].1.toList == s.toList) = true := by rw [hname, beq_self_eq_true]
          have HQ := Lib.hid (show acc ++ [(⟨TL.key, TR.key, L1[k].1, L1[k].2⟩ : Nd)] = R by
            have := HRR.out
            simpa [hname, ltB_irrefl] using this)
          clear hname e2
          go_wp2
          go_ret
          exact ⟨_, rfl, by rw [← HQ.out]; exact HO10.out, HX10.out⟩
        · have hn2 : (L1[k].1.toList == s.toList) = false := by rw [beq_eq_false_iff_ne]; exact fun e => hname (toList_inj e)
          cases hl : ltB s L1[k].1 with
          | true =>
            have HQ := Lib.hid (show (acc ++ [(⟨TL.key, TR.key, L1[k].1, L1[k].2⟩ : Nd)]) ++ TL.sel (fun o => ltB s o) (fun o => ltB o s) = R by
              have := HRR.out
              simpa [hl, ltB_asymm hl] using this)
            rw [hl] at e2
            clear hname
            go_wp2
            go_roundw
            case rel => exact ⟨f, L1.take k, _, by rw [List.length_take]; omega, by rw [List.length_take]; omega, by rw [List.length_append, List.length_take]; have := HAL.out; simp only [List.length_singleton]; omega, HG.out.take k, RdL.headN H.out rfl (by omega), HO10.out, by rw [HTL.out]; exact HQ.out, HX10.out⟩
            case measure => simp [lenV]; omega
          | false =>
            have hl2 : ltB L1[k].1 s = true := by
              cases h : ltB L1[k].1 s with
              | true => rfl
              | false => exact absurd (ltB_total h hl) hname
            have HQ := Lib.hid (show (acc ++ [(⟨TL.key, TR.key, L1[k].1, L1[k].2⟩ : Nd)]) ++ TR.sel (fun o => ltB s o) (fun o => ltB o s) = R by
              have := HRR.out
              simpa [hl, hl2] using this)
            rw [hl] at e2
            have hcut := RdL.cutN (k := k + 1) H.out rfl (by omega)
            simp only [Option.map_some, Addr.add_lit, show tEnt.sz = 2 from rfl, eq_self, if_true, Nat.sub_self] at hcut
            have HCUT := Lib.hid hcut
            clear hname hcut
            go_wp2
            go_roundw
            case rel => exact ⟨f, L1.drop (k + 1), _, by rw [List.length_drop]; omega, by rw [List.length_drop]; omega, by rw [List.length_append, List.length_drop]; have := HAL.out; simp only [List.length_singleton]; omega, HG.out.drop (k + 1), HCUT.out, HO10.out, by rw [HTR.out]; exact HQ.out, HX10.out⟩
            case measure => simp [lenV]; omega
      · have H := Lib.hid (show RdL tEnt w S (.slice (some ⟨g, o, none⟩) L1.length cap) L1 from hr)
        have ihl := fun W (hW : RdL tEnt W S (.slice (some ⟨g, o, none⟩) L1.length cap) L1) => l04Nodes_any f _ (L1.take k) (by rw [List.length_take]; omega) (by rw [List.length_take]; omega) (hg1.take k) W S (RdL.headN (k := k) hW rfl (by omega))
        have ihr := fun W (hW : RdL tEnt W S (.slice (some ⟨g, o, none⟩) L1.length cap) L1) => l04Nodes_any f _ (L1.drop (k + 1)) (by rw [List.length_drop]; omega) (by rw [List.length_drop]; omega) (hg1.drop (k + 1)) W S (RdL.cutN (k := k + 1) hW rfl (by omega))
        have htop := fun W (hW : RdL tEnt W S (.slice (some ⟨g, o, none⟩) L1.length cap) L1) => l04Top_any _ L1 (by omega) hg1 W S hW
        simp only [Option.map_some, Addr.add_lit, show tEnt.sz = 2 from rfl, if_neg hce] at ihr
        rw [hk] at htop
        simp only [hTL] at ihl
        simp only [hTR] at ihr
        have HTL := Lib.hid hTL
        have HTR := Lib.hid hTR
        have HG := Lib.hid hg1
        have hi : (0 : Int) ≤ (k : Int) := by omega
        have hi2 : (k : Int) ≤ (L1.length : Int) := by omega
        have hi3 : (k : Int) < (L1.length : Int) := by omega
        have hi4 : (k : Int) + 1 ≤ (L1.length : Int) := by omega
        have hi5 : (0 : Int) ≤ (k : Int) + 1 := by omega
        have hi6 : (k : Int) ≤ (cap : Int) := by omega
        have hi8 : (L1.length : Int) ≤ (cap : Int) := by omega
        have hi9 : (k : Int) + 1 ≤ (cap : Int) := by omega
        have hi0 : (0 : Int) < (L1.length : Int) := by omega
        have HQC := Lib.hid hcap
        clear hTL hTR hg1 hr hk hcap
        go_wp2_with fail
        refine (htop _ (H.out.ext (by decide) HX.out)).mono ?_
        rintro e w1 ⟨rfl, hx⟩
        have XW := Lib.hid (HX.out.trans hx)
        have HO1 := Lib.hid (HO.out.ext hx)
        have HS1 := Lib.hid hx.size
        clear hx htop
        go_wp2_with fail
        refine (ihl _ (H.out.ext (by decide) XW.out)).mono ?_
        rintro e w2 ⟨vl, rfl, ho, hx⟩
        replace XW := Lib.hid (XW.out.trans hx)
        have HO2 := Lib.hid (HO1.out.ext hx)
        have HS2 := Lib.hid (Nat.le_trans HS1.out hx.size)
        obtain ⟨AL, nl, cl, rfl⟩ := ho.shape3
        clear ho hx ihl HO1
        go_wp2_with (refine wpl_storeNew aggKey KL.out rfl rfl _ _ rfl rfl rfl rfl ?_)
        refine (ihr _ (H.out.ext (by decide) (XW.out.alloc _))).mono ?_
        rintro e w3 ⟨vr, rfl, ho, hx⟩
        replace XW := Lib.hid ((XW.out.alloc _).trans hx)
        have HO3 := Lib.hid (((HO2.out.alloc _).ext hx).alloc (.cells (numsA .u8 TR.key) 45))
        have HS3 := Lib.hid (show wr.heap.size ≤ w3.heap.size by have := hx.size; have := HS2.out; simp only [size_alloc] at *; omega)
        have B6 := Lib.hid (((Blk.new w2 45 (numsA .u8 TL.key)).ext hx).alloc (.cells (numsA .u8 TR.key) 45))
        have B8 := Lib.hid (Blk.new w3 45 (numsA .u8 TR.key))
        obtain ⟨AR, nr, cr, rfl⟩ := ho.shape3
        clear ho hx ihr HO2
        go_wp2_with (refine wpl_storeNew aggKey KR.out rfl rfl _ _ rfl rfl rfl rfl ?_)
        refine wp_region_held_drew (S := fun W => Ext w W ∧ Blk W w2.heap.size 45 (numsA .u8 TL.key) ∧ Blk W w3.heap.size 45 (numsA .u8 TR.key)) (by kernel_rfl) ⟨(XW.out.alloc _).drew, B6.out.drewN 1, B8.out.drewN 1⟩ (fun hHeld => ?_)
        have hs9 : (w3.alloc (.cells (numsA .u8 TR.key) 45)).heap.size = (w3.alloc (.cells (numsA .u8 TR.key) 45)).drew.heap.size := rfl
        have HOd := Lib.hid (show Own tNd 60 (w3.alloc (.cells (numsA .u8 TR.key) 45)).drew w.heap.size (.slice C cn cc) acc from HO3.out)
        generalize hw9 : (w3.alloc (.cells (numsA .u8 TR.key) 45)).drew = w9 at hHeld HOd hs9 ⊢
        clear hw9
        refine wpAnyH_take (i := 0) (oi := ?oiz12) (v := ?vz12) ?hiz12 (by kernel_rfl) (by kernel_rfl) (by kernel_rfl) ?hQz12 ?hyz12 (by assumption) ?restz12
        case hiz12 => simp only [List.getElem?_toArray, List.getElem?_cons_zero, List.getElem?_cons_succ]; rfl
        case hQz12 => exact fun _ _ _ h => h
        case hyz12 => exact Or.inl ⟨by rfl, by intro w hSw; (try dsimp only at hSw); go_simp; with_reducible rfl⟩
        try simp only [Act.put, List.setIfInBounds_toArray, List.set_cons_zero, List.set_cons_succ]
        refine wpAnyH_take (i := 1) (oi := ?oiz13) (v := (.agg (numsA .u8 TL.key))) ?hiz13 (by kernel_rfl) (by kernel_rfl) (by kernel_rfl) ?hQz13 ?hyz13 (by assumption) ?restz13
        case hiz13 => simp only [List.getElem?_toArray, List.getElem?_cons_zero, List.getElem?_cons_succ]; rfl
        case hQz13 => exact fun _ _ _ h => h
        case hyz13 => refine yields_loadS w2.heap.size 0 (nums .u8 TL.key) (by rw [nums_length, KL.out]; exact aggKey) (fun W hW j u hu => by rw [Nat.zero_add]; exact hW.2.1.at_ j (by rw [numsA, List.getElem?_toArray]; exact hu)) ?_ _ rfl rfl; rfl
        try simp only [Act.put, List.setIfInBounds_toArray, List.set_cons_zero, List.set_cons_succ]
        refine wpAnyH_take (i := 2) (oi := ?oiz14) (v := (.agg (numsA .u8 TR.key))) ?hiz14 (by kernel_rfl) (by kernel_rfl) (by kernel_rfl) ?hQz14 ?hyz14 (by assumption) ?restz14
        case hiz14 => simp only [List.getElem?_toArray, List.getElem?_cons_zero, List.getElem?_cons_succ]; rfl
        case hQz14 => exact fun _ _ _ h => h
        case hyz14 => refine yields_loadS w3.heap.size 0 (nums .u8 TR.key) (by rw [nums_length, KR.out]; exact aggKey) (fun W hW j u hu => by rw [Nat.zero_add]; exact hW.2.2.at_ j (by rw [numsA, List.getElem?_toArray]; exact hu)) ?_ _ rfl rfl; rfl
        try simp only [Act.put, List.setIfInBounds_toArray, List.set_cons_zero, List.set_cons_succ]
        refine wpAnyH_take (i := 3) (oi := ?oiz15) (v := ?vz15) ?hiz15 (by kernel_rfl) (by kernel_rfl) (by kernel_rfl) ?hQz15 ?hyz15 (by assumption) ?restz15
        case hiz15 => simp only [List.getElem?_toArray, List.getElem?_cons_zero, List.getElem?_cons_succ]; rfl
        case hQz15 => exact fun _ _ _ h => h
        case hyz15 => exact Or.inl ⟨by rfl, by intro w hSw; (try dsimp only at hSw); go_simp; with_reducible rfl⟩
        try simp only [Act.put, List.setIfInBounds_toArray, List.set_cons_zero, List.set_cons_succ]
        refine wpAnyH_take (i := 4) (oi := ?oiz16) (v := ?vz16) ?hiz16 (by kernel_rfl) (by kernel_rfl) (by kernel_rfl) ?hQz16 ?hyz16 (by assumption) ?restz16
        case hiz16 => simp only [List.getElem?_toArray, List.getElem?_cons_zero, List.getElem?_cons_succ]; rfl
        case hQz16 => exact fun _ _ _ h => h
        case hyz16 => exact Or.inl ⟨by rfl, by intro w hSw; (try dsimp only at hSw); go_simp; with_reducible rfl⟩
        try simp only [Act.put, List.setIfInBounds_toArray, List.set_cons_zero, List.set_cons_succ]
        refine wpAnyH_take (i := 5) (oi := ?oiz17) (v := ?vz17) ?hiz17 (by kernel_rfl) (by kernel_rfl) (by kernel_rfl) ?hQz17 ?hyz17 (by assumption) ?restz17
        case hiz17 => simp only [List.getElem?_toArray, List.getElem?_cons_zero, List.getElem?_cons_succ]; rfl
        case hQz17 => exact fun _ _ _ h => h
        case hyz17 => exact Or.inl ⟨by rfl, by intro w hSw; (try dsimp only at hSw); go_simp; with_reducible rfl⟩
        try simp only [Act.put, List.setIfInBounds_toArray, List.set_cons_zero, List.set_cons_succ]
        refine wpAnyH_take (i := 6) (oi := ?oiz18) (v := (.agg #[.string L1[k].1, .string L1[k].2])) ?hiz18 (by kernel_rfl) (by kernel_rfl) (by kernel_rfl) ?hQz18 ?hyz18 (by assumption) ?restz18
        case hiz18 => simp only [List.getElem?_toArray, List.getElem?_cons_zero, List.getElem?_cons_succ]; rfl
        case hQz18 => exact fun _ _ _ h => h
        case hyz18 => refine yields_loadS g (o + k * 2) [.string L1[k].1, .string L1[k].2] aggEntryI (fun W hW => HC.out W hW.1) ?_ _ rfl rfl; rfl
        try simp only [Act.put, List.setIfInBounds_toArray, List.set_cons_zero, List.set_cons_succ]
        refine wpAnyH_take (i := 7) (oi := ?oiz19) (v := (.agg (Nd.enc ⟨TL.key, TR.key, L1[k].1, L1[k].2⟩).toArray)) ?hiz19 (by kernel_rfl) (by kernel_rfl) (by kernel_rfl) ?hQz19 ?hyz19 (by assumption) ?restz19
        case hiz19 => simp only [List.getElem?_toArray, List.getElem?_cons_zero, List.getElem?_cons_succ]; rfl
        case hQz19 => exact fun _ _ _ h => h
        case hyz19 => refine yields_build ?_ rfl (built_node ⟨TL.key, TR.key, L1[k].1, L1[k].2⟩ HND.out); rfl
        try simp only [Act.put, List.setIfInBounds_toArray, List.set_cons_zero, List.set_cons_succ]
        refine wpAnyH_ready (rs := [8]) (by kernel_rfl) (by simp) (AllReadyH.cons (o := ?oy208) ?hy208 (fun K hK => ?sy208) AllReadyH.nil)
        case hy208 => simp only [List.getElem?_toArray, List.getElem?_cons_zero, List.getElem?_cons_succ]; rfl
        refine stp_build1 Try.underlying30 zeroNd (Nd.st HND.out).size (by decide) (by decide) rfl (.tmp 39) rfl rfl ?_
        have hH2 : Ext w (w9.alloc (.cells (Nd.enc ⟨TL.key, TR.key, L1[k].1, L1[k].2⟩).toArray 60)) ∧ Blk (w9.alloc (.cells (Nd.enc ⟨TL.key, TR.key, L1[k].1, L1[k].2⟩).toArray 60)) w2.heap.size 45 (numsA .u8 TL.key) ∧ Blk (w9.alloc (.cells (Nd.enc ⟨TL.key, TR.key, L1[k].1, L1[k].2⟩).toArray 60)) w3.heap.size 45 (numsA .u8 TR.key) := ⟨hHeld.1.alloc _, hHeld.2.1.alloc _, hHeld.2.2.alloc _⟩
        refine hK.out _ _ hH2 (fun _ => ?_)
        clear hK K
        try simp only [Act.put, List.setIfInBounds_toArray, List.set_cons_zero, List.set_cons_succ]
        refine wpAnyH_ready (rs := [9]) (by kernel_rfl) (by simp) (AllReadyH.cons (o := ?oy219) ?hy219 (fun K hK => ?sy219) AllReadyH.nil)
        case hy219 => simp only [List.getElem?_toArray, List.getElem?_cons_zero, List.getElem?_cons_succ]; rfl
        refine stp_append rowNd rfl _ _ rfl (v := .slice C cn cc) rfl (HOd.out.alloc _) _ _ rfl (A := some ⟨w9.heap.size, 0, none⟩) (ys := [⟨TL.key, TR.key, L1[k].1, L1[k].2⟩]) rfl (rd_one (T := tNd) w9 ⟨TL.key, TR.key, L1[k].1, L1[k].2⟩ HND.out _) (by intro y hy; obtain rfl := List.mem_singleton.1 hy; exact HND.out) (by have := HAL.out; simp only [List.length_singleton]; omega) hH2.1.size ?_
        intro v10 w10 ho1 hg1 hat1
        have hfar : ∀ b, wr.heap.size ≤ b → some b ≠ (Value.slice C cn cc).ownBlock := fun b hb e => by have := (HO.out.base_le _ e.symm).2; omega
        have hs2 := HS2.out
        have hs3 := HS3.out
        have hH3 : Ext w w10 ∧ Blk w10 w2.heap.size 45 (numsA .u8 TL.key) ∧ Blk w10 w3.heap.size 45 (numsA .u8 TR.key) := ⟨(HOd.out.alloc _).ext_app hH2.1 hg1, hH2.2.1.grown hg1 (hfar _ hs2), hH2.2.2.grown hg1 (hfar _ hs3)⟩
        have HO10 := Lib.hid ho1
        have HX10 := Lib.hid hH3.1
        obtain ⟨D, dn, dc, rfl⟩ := ho1.shape3
        clear ho1 hg1 hat1 hfar
        refine hK.out _ _ hH3 (fun _ => ?_)
        clear hK K hH2 hH3 hHeld
        try simp only [Act.put, List.setIfInBounds_toArray, List.set_cons_zero, List.set_cons_succ]
        refine wpAnyH_take (i := 10) (oi := ?oiz22) (v := ?vz22) ?hiz22 (by kernel_rfl) (by kernel_rfl) (by kernel_rfl) ?hQz22 ?hyz22 (by assumption) ?restz22
        case hiz22 => simp only [List.getElem?_toArray, List.getElem?_cons_zero, List.getElem?_cons_succ]; rfl
        case hQz22 => exact fun _ _ _ h => h
        case hyz22 => exact Or.inl ⟨by rfl, by intro w hSw; (try dsimp only at hSw); go_simp; with_reducible rfl⟩
        try simp only [Act.put, List.setIfInBounds_toArray, List.set_cons_zero, List.set_cons_succ]
        refine wpAnyH_done (by kernel_rfl) ?_ _
        have d0 := HC.out w10 HX10.out 0 _ rfl
        have d1 : w10.cell? ⟨g, o + k * 2, none⟩ = some (.string L1[k].1) := d0
        have e2 := ltB_eq s L1[k].1
        clear d0 B6 B8
        have HRR := Lib.hid hR
        clear hR
        by_cases hname : L1[k].1 = s
        · have hn2 : (L1[k].1.toList == s.toList) = true := by rw [hname, beq_self_eq_true]
          have HQ := Lib.hid (show acc ++ [(⟨TL.key, TR.key, L1[k].1, L1[k].2⟩ : Nd)] = R by
            have := HRR.out
            simpa [hname, ltB_irrefl] using this)
          clear hname e2
          go_wp2
          go_ret
          exact ⟨_, rfl, by rw [← HQ.out]; exact HO10.out, HX10.out⟩
        · have hn2 : (L1[k].1.toList == s.toList) = false := by rw [beq_eq_false_iff_ne]; exact fun e => hname (toList_inj e)
          cases hl : ltB s L1[k].1 with
          | true =>
            have HQ := Lib.hid (show (acc ++ [(⟨TL.key, TR.key, L1[k].1, L1[k].2⟩ : Nd)]) ++ TL.sel (fun o => ltB s o) (fun o => ltB o s) = R by
              have := HRR.out
              simpa [hl, ltB_asymm hl] using this)
            rw [hl] at e2
            clear hname
            go_wp2
            go_roundw
            case rel => exact ⟨f, L1.take k, _, by rw [List.length_take]; omega, by rw [List.length_take]; omega, by rw [List.length_append, List.length_take]; have := HAL.out; simp only [List.length_singleton]; omega, HG.out.take k, RdL.headN H.out rfl (by omega), HO10.out, by rw [HTL.out]; exact HQ.out, HX10.out⟩
            case measure => simp [lenV]; omega
          | false =>
            have hl2 : ltB L1[k].1 s = true := by
              cases h : ltB L1[k].1 s with
              | true => rfl
              | false => exact absurd (ltB_total h hl) hname
            have HQ := Lib.hid (show (acc ++ [(⟨TL.key, TR.key, L1[k].1, L1[k].2⟩ : Nd)]) ++ TR.sel (fun o => ltB s o) (fun o => ltB o s) = R by
              have := HRR.out
              simpa [hl, hl2] using this)
            rw [hl] at e2
            have hcut := RdL.cutN (k := k + 1) H.out rfl (by omega)
            simp only [Option.map_some, Addr.add_lit, show tEnt.sz = 2 from rfl, if_neg hce] at hcut
            have HCUT := Lib.hid hcut
            clear hname hcut
            go_wp2
            go_roundw
            case rel => exact ⟨f, L1.drop (k + 1), _, by rw [List.length_drop]; omega, by rw [List.length_drop]; omega, by rw [List.length_append, List.length_drop]; have := HAL.out; simp only [List.length_singleton]; omega, HG.out.drop (k + 1), HCUT.out, HO10.out, by rw [HTR.out]; exact HQ.out, HX10.out⟩
            case measure => simp [lenV]; omega
end Go.Proofs.Ytikpakhccmdmcaa
