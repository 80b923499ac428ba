/- What the walk of the law FnMapTrees needs, part 6 of 7. No condition. -/
import Derived.BigFrame
import Derived.Laws.BytesArg
import Derived.Test.YtmndkbheehcoaaaPFnMapTrees5
/- The path to a name: the reference. No condition. -/
namespace Go.Proofs.Ytmndkbheehcoaaa
open Go.RowKit
set_option linter.unusedVariables false
set_option linter.unusedSimpArgs false

set_option maxHeartbeats 2000000 in
set_option maxRecDepth 100000 in
theorem l04Path_any (v : Value) (L : List En) (s : ByteArray) (h64 : L.length ≤ 64) (hg : good L) (w : World) (S : Nat → Prop) (h : RdL tEnt w S v L) :
    Calls Try.prog 82 #[v, .string s] w fun e w' => ∃ v', e = .returned v' ∧ Own tNd 31 w' w.heap.size v' ((trF L.length L).sel (fun o => ltB s o) (fun o => ltB o s)) ∧ Ext w w' := by
  obtain ⟨R, hR0⟩ : ∃ R, (trF L.length L).sel (fun o => ltB s o) (fun o => ltB o s) = R := ⟨_, rfl⟩
  rw [hR0]
  have HR0 := Lib.hid hR0
  have HG0 := Lib.hid hg
  have H0 := Lib.hid h
  obtain ⟨A, cap, rfl, _⟩ := h
  clear hR0 hg
  go_enter Try.func82, Try.ntmps82
  go_wp2_with fail
  go_loopw [0, 5] (fun l u wr => ∃ (f : Nat) (L1 : List En) (acc : List Nd), L1.length ≤ f ∧ L1.length ≤ 64 ∧ acc.length + L1.length ≤ 64 ∧ good L1 ∧ RdL tEnt w S l L1 ∧ Own tNd 31 wr w.heap.size u acc ∧ acc ++ (trF f L1).sel (fun o => ltB s o) (fun o => ltB o s) = R ∧ Ext w wr) (fun l _ _ => lenV l)
  case atStart => exact ⟨L.length, L, [], Nat.le_refl _, h64, by simpa using h64, HG0.out, H0.out, Own.empty tNd w 31 w.heap.size (Nat.le_refl _), by simpa using HR0.out, ext_alloc _ _⟩
  case round =>
    clear H0 HR0 HG0 h64
    obtain ⟨f, L1, acc, hf, h64, hal, hg1, hr, ho, hR, hx⟩ := hrel
    have HX := Lib.hid hx
    have HO := Lib.hid ho
    have HAL := Lib.hid hal
    obtain ⟨C, cn, cc, rfl⟩ := ho.shape3
    obtain ⟨A, cap, rfl, hcap, hlen, hrd, hok⟩ := id hr
    clear hx ho hal
    by_cases h0 : L1.length = 0
    · rw [trF_nil _ _ h0] at hR
      have HQ := Lib.hid (show acc = R by simpa [Tr.sel] using hR)
      have hz : ¬ (0 : Int) < (L1.length : Int) := by omega
      clear hR
      go_wp2
      go_ret
      exact ⟨_, rfl, by rw [← HQ.out]; exact HO.out, HX.out⟩
    · obtain ⟨f, rfl⟩ : ∃ f', f = f' + 1 := ⟨f - 1, by omega⟩
      have hlt := topE_lt (L := L1) (by omega)
      have hND := trF_ok (f + 1) L1 hg1
      rw [trF_cons _ _ h0] at hR hND
      obtain ⟨k, hk⟩ : ∃ k, topE L1 = k := ⟨_, rfl⟩
      simp only [hk] at hlt hND hR
      rw [gE_lt hlt] at hND hR
      obtain ⟨g, o, rfl, hs0, hc⟩ := hrd.elem hok k hlt
      obtain ⟨TL, hTL⟩ : ∃ T, trF f (L1.take k) = T := ⟨_, rfl⟩
      obtain ⟨TR, hTR⟩ : ∃ T, trF f (L1.drop (k + 1)) = T := ⟨_, rfl⟩
      rw [hTL, hTR] at hR hND
      simp only [Tr.sel] at hR
      have HND := Lib.hid hND.1
      have KL := Lib.hid TL.key_ok.1
      have KR := Lib.hid TR.key_ok.1
      have HC := Lib.hid (show ∀ W, Ext w W → ∀ j u, ([Value.string L1[k].1, .string L1[k].2] : List Value)[j]? = some u → W.cell? ⟨g, o + k * 2 + j, none⟩ = some u from fun W hW j u hu => hW.cell (hc j u hu))
      clear hc hrd hok hND hs0
      by_cases hce : cap = k + 1
      · subst hce
        have H := Lib.hid (show RdL tEnt w S (.slice (some ⟨g, o, none⟩) L1.length (k + 1)) L1 from hr)
        have ihl := fun W (hW : RdL tEnt W S (.slice (some ⟨g, o, none⟩) L1.length (k + 1)) L1) => l04Nodes_any f _ (L1.take k) (by rw [List.length_take]; omega) (by rw [List.length_take]; omega) (hg1.take k) W S (RdL.headN (k := k) hW rfl (by omega))
        have ihr := fun W (hW : RdL tEnt W S (.slice (some ⟨g, o, none⟩) L1.length (k + 1)) L1) => l04Nodes_any f _ (L1.drop (k + 1)) (by rw [List.length_drop]; omega) (by rw [List.length_drop]; omega) (hg1.drop (k + 1)) W S (RdL.cutN (k := k + 1) hW rfl (by omega))
        have htop := fun W (hW : RdL tEnt W S (.slice (some ⟨g, o, none⟩) L1.length (k + 1)) L1) => l04Top_any _ L1 (by omega) hg1 W S hW
        simp only [Option.map_some, Addr.add_lit, show tEnt.sz = 2 from rfl, eq_self, if_true, Nat.sub_self] at ihr
        rw [hk] at htop
        simp only [hTL] at ihl
        simp only [hTR] at ihr
        have HTL := Lib.hid hTL
        have HTR := Lib.hid hTR
        have HG := Lib.hid hg1
        have hi : (0 : Int) ≤ (k : Int) := by omega
        have hi2 : (k : Int) ≤ (L1.length : Int) := by omega
        have hi3 : (k : Int) < (L1.length : Int) := by omega
        have hi4 : (k : Int) + 1 ≤ (L1.length : Int) := by omega
        have hi5 : (0 : Int) ≤ (k : Int) + 1 := by omega
        have hi6 : (k : Int) ≤ ((k + 1 : Nat) : Int) := by omega
        have hi8 : (L1.length : Int) ≤ ((k + 1 : Nat) : Int) := by omega
        have hi9 : (k : Int) + 1 ≤ ((k + 1 : Nat) : Int) := by omega
        have hi0 : (0 : Int) < (L1.length : Int) := by omega
        have HQC := Lib.hid hcap
        clear hTL hTR hg1 hr hk hcap
        go_wp2_with fail
        refine (htop _ (H.out.ext (by decide) HX.out)).mono ?_
        rintro e w1 ⟨rfl, hx⟩
        have XW := Lib.hid (HX.out.trans hx)
        have HO1 := Lib.hid (HO.out.ext hx)
        have HS1 := Lib.hid hx.size
        clear hx htop
        go_wp2_with fail
        refine (ihl _ (H.out.ext (by decide) XW.out)).mono ?_
        rintro e w2 ⟨vl, rfl, ho, hx⟩
        replace XW := Lib.hid (XW.out.trans hx)
        have HO2 := Lib.hid (HO1.out.ext hx)
        have HS2 := Lib.hid (Nat.le_trans HS1.out hx.size)
        obtain ⟨AL, nl, cl, rfl⟩ := ho.shape3
        clear ho hx ihl HO1
        go_wp2_with (refine wpl_storeNew aggKey KL.out rfl rfl _ _ rfl rfl rfl rfl ?_)
        refine (ihr _ (H.out.ext (by decide) (XW.out.alloc _))).mono ?_
        rintro e w3 ⟨vr, rfl, ho, hx⟩
        replace XW := Lib.hid ((XW.out.alloc _).trans hx)
        have HO3 := Lib.hid (((HO2.out.alloc _).ext hx).alloc (.cells (numsA .u8 TR.key) 27))
        have HS3 := Lib.hid (show wr.heap.size ≤ w3.heap.size by have := hx.size; have := HS2.out; simp only [size_alloc] at *; omega)
        have B6 := Lib.hid (((Blk.new w2 27 (numsA .u8 TL.key)).ext hx).alloc (.cells (numsA .u8 TR.key) 27))
        have B8 := Lib.hid (Blk.new w3 27 (numsA .u8 TR.key))
        obtain ⟨AR, nr, cr, rfl⟩ := ho.shape3
        clear ho hx ihr HO2
        go_wp2_with (refine wpl_storeNew aggKey KR.out rfl rfl _ _ rfl rfl rfl rfl ?_)
        refine wp_region_held_drew (S := fun W => Ext w W ∧ Blk W w2.heap.size 27 (numsA .u8 TL.key) ∧ Blk W w3.heap.size 27 (numsA .u8 TR.key)) (by kernel_rfl) ⟨(XW.out.alloc _).drew, B6.out.drewN 1, B8.out.drewN 1⟩ (fun hHeld => ?_)
        have hs9 : (w3.alloc (.cells (numsA .u8 TR.key) 27)).heap.size = (w3.alloc (.cells (numsA .u8 TR.key) 27)).drew.heap.size := rfl
        have HOd := Lib.hid (show Own tNd 31 (w3.alloc (.cells (numsA .u8 TR.key) 27)).drew w.heap.size (.slice C cn cc) acc from HO3.out)
        generalize hw9 : (w3.alloc (.cells (numsA .u8 TR.key) 27)).drew = w9 at hHeld HOd hs9 ⊢
        clear hw9
        refine wpAnyH_take (i := 0) (oi := ?oiz1) (v := ?vz1) ?hiz1 (by kernel_rfl) (by kernel_rfl) (by kernel_rfl) ?hQz1 ?hyz1 (by assumption) ?restz1
        case hiz1 => simp only [List.getElem?_toArray, List.getElem?_cons_zero, List.getElem?_cons_succ]; rfl
        case hQz1 => exact fun _ _ _ h => h
        case hyz1 => exact Or.inl ⟨by rfl, by intro w hSw; (try dsimp only at hSw); go_simp; with_reducible rfl⟩
        try simp only [Act.put, List.setIfInBounds_toArray, List.set_cons_zero, List.set_cons_succ]
        refine wpAnyH_take (i := 1) (oi := ?oiz2) (v := (.agg (numsA .u8 TL.key))) ?hiz2 (by kernel_rfl) (by kernel_rfl) (by kernel_rfl) ?hQz2 ?hyz2 (by assumption) ?restz2
        case hiz2 => simp only [List.getElem?_toArray, List.getElem?_cons_zero, List.getElem?_cons_succ]; rfl
        case hQz2 => exact fun _ _ _ h => h
        case hyz2 => refine yields_loadS w2.heap.size 0 (nums .u8 TL.key) (by rw [nums_length, KL.out]; exact aggKey) (fun W hW j u hu => by rw [Nat.zero_add]; exact hW.2.1.at_ j (by rw [numsA, List.getElem?_toArray]; exact hu)) ?_ _ rfl rfl; rfl
        try simp only [Act.put, List.setIfInBounds_toArray, List.set_cons_zero, List.set_cons_succ]
        refine wpAnyH_take (i := 2) (oi := ?oiz3) (v := (.agg (numsA .u8 TR.key))) ?hiz3 (by kernel_rfl) (by kernel_rfl) (by kernel_rfl) ?hQz3 ?hyz3 (by assumption) ?restz3
        case hiz3 => simp only [List.getElem?_toArray, List.getElem?_cons_zero, List.getElem?_cons_succ]; rfl
        case hQz3 => exact fun _ _ _ h => h
        case hyz3 => refine yields_loadS w3.heap.size 0 (nums .u8 TR.key) (by rw [nums_length, KR.out]; exact aggKey) (fun W hW j u hu => by rw [Nat.zero_add]; exact hW.2.2.at_ j (by rw [numsA, List.getElem?_toArray]; exact hu)) ?_ _ rfl rfl; rfl
        try simp only [Act.put, List.setIfInBounds_toArray, List.set_cons_zero, List.set_cons_succ]
        refine wpAnyH_take (i := 3) (oi := ?oiz4) (v := ?vz4) ?hiz4 (by kernel_rfl) (by kernel_rfl) (by kernel_rfl) ?hQz4 ?hyz4 (by assumption) ?restz4
        case hiz4 => simp only [List.getElem?_toArray, List.getElem?_cons_zero, List.getElem?_cons_succ]; rfl
        case hQz4 => exact fun _ _ _ h => h
        case hyz4 => exact Or.inl ⟨by rfl, by intro w hSw; (try dsimp only at hSw); go_simp; with_reducible rfl⟩
        try simp only [Act.put, List.setIfInBounds_toArray, List.set_cons_zero, List.set_cons_succ]
        refine wpAnyH_take (i := 4) (oi := ?oiz5) (v := ?vz5) ?hiz5 (by kernel_rfl) (by kernel_rfl) (by kernel_rfl) ?hQz5 ?hyz5 (by assumption) ?restz5
        case hiz5 => simp only [List.getElem?_toArray, List.getElem?_cons_zero, List.getElem?_cons_succ]; rfl
        case hQz5 => exact fun _ _ _ h => h
        case hyz5 => exact Or.inl ⟨by rfl, by intro w hSw; (try dsimp only at hSw); go_simp; with_reducible rfl⟩
        try simp only [Act.put, List.setIfInBounds_toArray, List.set_cons_zero, List.set_cons_succ]
        refine wpAnyH_take (i := 5) (oi := ?oiz6) (v := ?vz6) ?hiz6 (by kernel_rfl) (by kernel_rfl) (by kernel_rfl) ?hQz6 ?hyz6 (by assumption) ?restz6
        case hiz6 => simp only [List.getElem?_toArray, List.getElem?_cons_zero, List.getElem?_cons_succ]; rfl
        case hQz6 => exact fun _ _ _ h => h
        case hyz6 => exact Or.inl ⟨by rfl, by intro w hSw; (try dsimp only at hSw); go_simp; with_reducible rfl⟩
        try simp only [Act.put, List.setIfInBounds_toArray, List.set_cons_zero, List.set_cons_succ]
        refine wpAnyH_take (i := 6) (oi := ?oiz7) (v := (.agg #[.string L1[k].1, .string L1[k].2])) ?hiz7 (by kernel_rfl) (by kernel_rfl) (by kernel_rfl) ?hQz7 ?hyz7 (by assumption) ?restz7
        case hiz7 => simp only [List.getElem?_toArray, List.getElem?_cons_zero, List.getElem?_cons_succ]; rfl
        case hQz7 => exact fun _ _ _ h => h
        case hyz7 => refine yields_loadS g (o + k * 2) [.string L1[k].1, .string L1[k].2] aggEntryI (fun W hW => HC.out W hW.1) ?_ _ rfl rfl; rfl
        try simp only [Act.put, List.setIfInBounds_toArray, List.set_cons_zero, List.set_cons_succ]
        refine wpAnyH_take (i := 7) (oi := ?oiz8) (v := (.agg (Nd.enc ⟨TL.key, TR.key, L1[k].1, L1[k].2⟩).toArray)) ?hiz8 (by kernel_rfl) (by kernel_rfl) (by kernel_rfl) ?hQz8 ?hyz8 (by assumption) ?restz8
        case hiz8 => simp only [List.getElem?_toArray, List.getElem?_cons_zero, List.getElem?_cons_succ]; rfl
        case hQz8 => exact fun _ _ _ h => h
        case hyz8 => refine yields_build ?_ rfl (built_node ⟨TL.key, TR.key, L1[k].1, L1[k].2⟩ HND.out); rfl
        try simp only [Act.put, List.setIfInBounds_toArray, List.set_cons_zero, List.set_cons_succ]
        refine wpAnyH_ready (rs := [8]) (by kernel_rfl) (by simp) (AllReadyH.cons (o := ?oy98) ?hy98 (fun K hK => ?sy98) AllReadyH.nil)
        case hy98 => simp only [List.getElem?_toArray, List.getElem?_cons_zero, List.getElem?_cons_succ]; rfl
        refine stp_build1 Try.underlying36 zeroNd (Nd.st HND.out).size (by decide) (by decide) rfl (.tmp 39) rfl rfl ?_
        have hH2 : Ext w (w9.alloc (.cells (Nd.enc ⟨TL.key, TR.key, L1[k].1, L1[k].2⟩).toArray 31)) ∧ Blk (w9.alloc (.cells (Nd.enc ⟨TL.key, TR.key, L1[k].1, L1[k].2⟩).toArray 31)) w2.heap.size 27 (numsA .u8 TL.key) ∧ Blk (w9.alloc (.cells (Nd.enc ⟨TL.key, TR.key, L1[k].1, L1[k].2⟩).toArray 31)) w3.heap.size 27 (numsA .u8 TR.key) := ⟨hHeld.1.alloc _, hHeld.2.1.alloc _, hHeld.2.2.alloc _⟩
        refine hK.out _ _ hH2 (fun _ => ?_)
        clear hK K
        try simp only [Act.put, List.setIfInBounds_toArray, List.set_cons_zero, List.set_cons_succ]
        refine wpAnyH_ready (rs := [9]) (by kernel_rfl) (by simp) (AllReadyH.cons (o := ?oy109) ?hy109 (fun K hK => ?sy109) AllReadyH.nil)
        case hy109 => simp only [List.getElem?_toArray, List.getElem?_cons_zero, List.getElem?_cons_succ]; rfl
        refine stp_append rowNd rfl _ _ rfl (v := .slice C cn cc) rfl (HOd.out.alloc _) _ _ rfl (A := some ⟨w9.heap.size, 0, none⟩) (ys := [⟨TL.key, TR.key, L1[k].1, L1[k].2⟩]) rfl (rd_one (T := tNd) w9 ⟨TL.key, TR.key, L1[k].1, L1[k].2⟩ HND.out _) (by intro y hy; obtain rfl := List.mem_singleton.1 hy; exact HND.out) (by have := HAL.out; simp only [List.length_singleton]; omega) hH2.1.size ?_
        intro v10 w10 ho1 hg1 hat1
        have hfar : ∀ b, wr.heap.size ≤ b → some b ≠ (Value.slice C cn cc).ownBlock := fun b hb e => by have := (HO.out.base_le _ e.symm).2; omega
        have hs2 := HS2.out
        have hs3 := HS3.out
        have hH3 : Ext w w10 ∧ Blk w10 w2.heap.size 27 (numsA .u8 TL.key) ∧ Blk w10 w3.heap.size 27 (numsA .u8 TR.key) := ⟨(HOd.out.alloc _).ext_app hH2.1 hg1, hH2.2.1.grown hg1 (hfar _ hs2), hH2.2.2.grown hg1 (hfar _ hs3)⟩
        have HO10 := Lib.hid ho1
        have HX10 := Lib.hid hH3.1
        obtain ⟨D, dn, dc, rfl⟩ := ho1.shape3
        clear ho1 hg1 hat1 hfar
        refine hK.out _ _ hH3 (fun _ => ?_)
        clear hK K hH2 hH3 hHeld
        try simp only [Act.put, List.setIfInBounds_toArray, List.set_cons_zero, List.set_cons_succ]
        refine wpAnyH_take (i := 10) (oi := ?oiz11) (v := ?vz11) ?hiz11 (by kernel_rfl) (by kernel_rfl) (by kernel_rfl) ?hQz11 ?hyz11 (by assumption) ?restz11
        case hiz11 => simp only [List.getElem?_toArray, List.getElem?_cons_zero, List.getElem?_cons_succ]; rfl
        case hQz11 => exact fun _ _ _ h => h
        case hyz11 => exact Or.inl ⟨by rfl, by intro w hSw; (try dsimp only at hSw); go_simp; with_reducible rfl⟩
        try simp only [Act.put, List.setIfInBounds_toArray, List.set_cons_zero, List.set_cons_succ]
        refine wpAnyH_done (by kernel_rfl) ?_ _
        have d0 := HC.out w10 HX10.out 0 _ rfl
        have d1 : w10.cell? ⟨g, o + k * 2, none⟩ = some (.string L1[k].1) := d0
        have e2 := ltB_eq s L1[k].1
        clear d0 B6 B8
        have HRR := Lib.hid hR
        clear hR
        by_cases hname : L1[k].1 = s
        · have hn2 : (L1[k].1.toList == s.toList) = true := by rw [hname, beq_self_eq_true]
          have HQ := Lib.hid (show acc ++ [(⟨TL.key, TR.key, L1[k].1, L1[k].2⟩ : Nd)] = R by
            have := HRR.out
            simpa [hname, ltB_irrefl] using this)
          clear hname e2
          go_wp2
          go_ret
          exact ⟨_, rfl, by rw [← HQ.out]; exact HO10.out, HX10.out⟩
        · have hn2 : (L1[k].1.toList == s.toList) = false := by rw [beq_eq_false_iff_ne]; exact fun e => hname (toList_inj e)
          cases hl : ltB s L1[k].1 with
          | true =>
            have HQ := Lib.hid (show (acc ++ [(⟨TL.key, TR.key, L1[k].1, L1[k].2⟩ : Nd)]) ++ TL.sel (fun o => ltB s o) (fun o => ltB o s) = R by
              have := HRR.out
              simpa [hl, ltB_asymm hl] using this)
            rw [hl] at e2
            clear hname
            go_wp2
            go_roundw
            case rel => exact ⟨f, L1.take k, _, by rw [List.length_take]; omega, by rw [List.length_take]; omega, by rw [List.length_append, List.length_take]; have := HAL.out; simp only [List.length_singleton]; omega, HG.out.take k, RdL.headN H.out rfl (by omega), HO10.out, by rw [HTL.out]; exact HQ.out, HX10.out⟩
            case measure => simp [lenV]; omega
          | false =>
            have hl2 : ltB L1[k].1 s = true := by
              cases h : ltB L1[k].1 s with
              | true => rfl
              | false => exact absurd (ltB_total h hl) hname
            have HQ := Lib.hid (show (acc ++ [(⟨TL.key, TR.key, L1[k].1, L1[k].2⟩ : Nd)]) ++ TR.sel (fun o => ltB s o) (fun o => ltB o s) = R by
              have := HRR.out
              simpa [hl, hl2] using this)
            rw [hl] at e2
            have hcut := RdL.cutN (k := k + 1) H.out rfl (by omega)
            simp only [Option.map_some, Addr.add_lit, show tEnt.sz = 2 from rfl, eq_self, if_true, Nat.sub_self] at hcut
            have HCUT := Lib.hid hcut
            clear hname hcut
            go_wp2
            go_roundw
            case rel => exact ⟨f, L1.drop (k + 1), _, by rw [List.length_drop]; omega, by rw [List.length_drop]; omega, by rw [List.length_append, List.length_drop]; have := HAL.out; simp only [List.length_singleton]; omega, HG.out.drop (k + 1), HCUT.out, HO10.out, by rw [HTR.out]; exact HQ.out, HX10.out⟩
            case measure => simp [lenV]; omega
      · have H := Lib.hid (show RdL tEnt w S (.slice (some ⟨g, o, none⟩) L1.length cap) L1 from hr)
        have ihl := fun W (hW : RdL tEnt W S (.slice (some ⟨g, o, none⟩) L1.length cap) L1) => l04Nodes_any f _ (L1.take k) (by rw [List.length_take]; omega) (by rw [List.length_take]; omega) (hg1.take k) W S (RdL.headN (k := k) hW rfl (by omega))
        have ihr := fun W (hW : RdL tEnt W S (.slice (some ⟨g, o, none⟩) L1.length cap) L1) => l04Nodes_any f _ (L1.drop (k + 1)) (by rw [List.length_drop]; omega) (by rw [List.length_drop]; omega) (hg1.drop (k + 1)) W S (RdL.cutN (k := k + 1) hW rfl (by omega))
        have htop := fun W (hW : RdL tEnt W S (.slice (some ⟨g, o, none⟩) L1.length cap) L1) => l04Top_any _ L1 (by omega) hg1 W S hW
        simp only [Option.map_some, Addr.add_lit, show tEnt.sz = 2 from rfl, if_neg hce] at ihr
        rw [hk] at htop
        simp only [hTL] at ihl
        simp only [hTR] at ihr
        have HTL := Lib.hid hTL
        have HTR := Lib.hid hTR
        have HG := Lib.hid hg1
        have hi : (0 : Int) ≤ (k : Int) := by omega
        have hi2 : (k : Int) ≤ (L1.length : Int) := by omega
        have hi3 : (k : Int) < (L1.length : Int) := by omega
        have hi4 : (k : Int) + 1 ≤ (L1.length : Int) := by omega
        have hi5 : (0 : Int) ≤ (k : Int) + 1 := by omega
        have hi6 : (k : Int) ≤ (cap : Int) := by omega
        have hi8 : (L1.length : Int) ≤ (cap : Int) := by omega
        have hi9 : (k : Int) + 1 ≤ (cap : Int) := by omega
        have hi0 : (0 : Int) < (L1.length : Int) := by omega
        have HQC := Lib.hid hcap
        clear hTL hTR hg1 hr hk hcap
        go_wp2_with fail
        refine (htop _ (H.out.ext (by decide) HX.out)).mono ?_
        rintro e w1 ⟨rfl, hx⟩
        have XW := Lib.hid (HX.out.trans hx)
        have HO1 := Lib.hid (HO.out.ext hx)
        have HS1 := Lib.hid hx.size
        clear hx htop
        go_wp2_with fail
        refine (ihl _ (H.out.ext (by decide) XW.out)).mono ?_
        rintro e w2 ⟨vl, rfl, ho, hx⟩
        replace XW := Lib.hid (XW.out.trans hx)
        have HO2 := Lib.hid (HO1.out.ext hx)
        have HS2 := Lib.hid (Nat.le_trans HS1.out hx.size)
        obtain ⟨AL, nl, cl, rfl⟩ := ho.shape3
        clear ho hx ihl HO1
        go_wp2_with (refine wpl_storeNew aggKey KL.out rfl rfl _ _ rfl rfl rfl rfl ?_)
        refine (ihr _ (H.out.ext (by decide) (XW.out.alloc _))).mono ?_
        rintro e w3 ⟨vr, rfl, ho, hx⟩
        replace XW := Lib.hid ((XW.out.alloc _).trans hx)
        have HO3 := Lib.hid (((HO2.out.alloc _).ext hx).alloc (.cells (numsA .u8 TR.key) 27))
        have HS3 := Lib.hid (show wr.heap.size ≤ w3.heap.size by have := hx.size; have := HS2.out; simp only [size_alloc] at *; omega)
        have B6 := Lib.hid (((Blk.new w2 27 (numsA .u8 TL.key)).ext hx).alloc (.cells (numsA .u8 TR.key) 27))
        have B8 := Lib.hid (Blk.new w3 27 (numsA .u8 TR.key))
        obtain ⟨AR, nr, cr, rfl⟩ := ho.shape3
        clear ho hx ihr HO2
        go_wp2_with (refine wpl_storeNew aggKey KR.out rfl rfl _ _ rfl rfl rfl rfl ?_)
        refine wp_region_held_drew (S := fun W => Ext w W ∧ Blk W w2.heap.size 27 (numsA .u8 TL.key) ∧ Blk W w3.heap.size 27 (numsA .u8 TR.key)) (by kernel_rfl) ⟨(XW.out.alloc _).drew, B6.out.drewN 1, B8.out.drewN 1⟩ (fun hHeld => ?_)
        have hs9 : (w3.alloc (.cells (numsA .u8 TR.key) 27)).heap.size = (w3.alloc (.cells (numsA .u8 TR.key) 27)).drew.heap.size := rfl
        have HOd := Lib.hid (show Own tNd 31 (w3.alloc (.cells (numsA .u8 TR.key) 27)).drew w.heap.size (.slice C cn cc) acc from HO3.out)
        generalize hw9 : (w3.alloc (.cells (numsA .u8 TR.key) 27)).drew = w9 at hHeld HOd hs9 ⊢
        clear hw9
        refine wpAnyH_take (i := 0) (oi := ?oiz12) (v := ?vz12) ?hiz12 (by kernel_rfl) (by kernel_rfl) (by kernel_rfl) ?hQz12 ?hyz12 (by assumption) ?restz12
        case hiz12 => simp only [List.getElem?_toArray, List.getElem?_cons_zero, List.getElem?_cons_succ]; rfl
        case hQz12 => exact fun _ _ _ h => h
        case hyz12 => exact Or.inl ⟨by rfl, by intro w hSw; (try dsimp only at hSw); go_simp; with_reducible rfl⟩
        try simp only [Act.put, List.setIfInBounds_toArray, List.set_cons_zero, List.set_cons_succ]
        refine wpAnyH_take (i := 1) (oi := ?oiz13) (v := (.agg (numsA .u8 TL.key))) ?hiz13 (by kernel_rfl) (by kernel_rfl) (by kernel_rfl) ?hQz13 ?hyz13 (by assumption) ?restz13
        case hiz13 => simp only [List.getElem?_toArray, List.getElem?_cons_zero, List.getElem?_cons_succ]; rfl
        case hQz13 => exact fun _ _ _ h => h
        case hyz13 => refine yields_loadS w2.heap.size 0 (nums .u8 TL.key) (by rw [nums_length, KL.out]; exact aggKey) (fun W hW j u hu => by rw [Nat.zero_add]; exact hW.2.1.at_ j (by rw [numsA, List.getElem?_toArray]; exact hu)) ?_ _ rfl rfl; rfl
        try simp only [Act.put, List.setIfInBounds_toArray, List.set_cons_zero, List.set_cons_succ]
        refine wpAnyH_take (i := 2) (oi := ?oiz14) (v := (.agg (numsA .u8 TR.key))) ?hiz14 (by kernel_rfl) (by kernel_rfl) (by kernel_rfl) ?hQz14 ?hyz14 (by assumption) ?restz14
        case hiz14 => simp only [List.getElem?_toArray, List.getElem?_cons_zero, List.getElem?_cons_succ]; rfl
        case hQz14 => exact fun _ _ _ h => h
        case hyz14 => refine yields_loadS w3.heap.size 0 (nums .u8 TR.key) (by rw [nums_length, KR.out]; exact aggKey) (fun W hW j u hu => by rw [Nat.zero_add]; exact hW.2.2.at_ j (by rw [numsA, List.getElem?_toArray]; exact hu)) ?_ _ rfl rfl; rfl
        try simp only [Act.put, List.setIfInBounds_toArray, List.set_cons_zero, List.set_cons_succ]
        refine wpAnyH_take (i := 3) (oi := ?oiz15) (v := ?vz15) ?hiz15 (by kernel_rfl) (by kernel_rfl) (by kernel_rfl) ?hQz15 ?hyz15 (by assumption) ?restz15
        case hiz15 => simp only [List.getElem?_toArray, List.getElem?_cons_zero, List.getElem?_cons_succ]; rfl
        case hQz15 => exact fun _ _ _ h => h
        case hyz15 => exact Or.inl ⟨by rfl, by intro w hSw; (try dsimp only at hSw); go_simp; with_reducible rfl⟩
        try simp only [Act.put, List.setIfInBounds_toArray, List.set_cons_zero, List.set_cons_succ]
        refine wpAnyH_take (i := 4) (oi := ?oiz16) (v := ?vz16) ?hiz16 (by kernel_rfl) (by kernel_rfl) (by kernel_rfl) ?hQz16 ?hyz16 (by assumption) ?restz16
        case hiz16 => simp only [List.getElem?_toArray, List.getElem?_cons_zero, List.getElem?_cons_succ]; rfl
        case hQz16 => exact fun _ _ _ h => h
        case hyz16 => exact Or.inl ⟨by rfl, by intro w hSw; (try dsimp only at hSw); go_simp; with_reducible rfl⟩
        try simp only [Act.put, List.setIfInBounds_toArray, List.set_cons_zero, List.set_cons_succ]
        refine wpAnyH_take (i := 5) (oi := ?oiz17) (v := ?vz17) ?hiz17 (by kernel_rfl) (by kernel_rfl) (by kernel_rfl) ?hQz17 ?hyz17 (by assumption) ?restz17
        case hiz17 => simp only [List.getElem?_toArray, List.getElem?_cons_zero, List.getElem?_cons_succ]; rfl
        case hQz17 => exact fun _ _ _ h => h
        case hyz17 => exact Or.inl ⟨by rfl, by intro w hSw; (try dsimp only at hSw); go_simp; with_reducible rfl⟩
        try simp only [Act.put, List.setIfInBounds_toArray, List.set_cons_zero, List.set_cons_succ]
        refine wpAnyH_take (i := 6) (oi := ?oiz18) (v := (.agg #[.string L1[k].1, .string L1[k].2])) ?hiz18 (by kernel_rfl) (by kernel_rfl) (by kernel_rfl) ?hQz18 ?hyz18 (by assumption) ?restz18
        case hiz18 => simp only [List.getElem?_toArray, List.getElem?_cons_zero, List.getElem?_cons_succ]; rfl
        case hQz18 => exact fun _ _ _ h => h
        case hyz18 => refine yields_loadS g (o + k * 2) [.string L1[k].1, .string L1[k].2] aggEntryI (fun W hW => HC.out W hW.1) ?_ _ rfl rfl; rfl
        try simp only [Act.put, List.setIfInBounds_toArray, List.set_cons_zero, List.set_cons_succ]
        refine wpAnyH_take (i := 7) (oi := ?oiz19) (v := (.agg (Nd.enc ⟨TL.key, TR.key, L1[k].1, L1[k].2⟩).toArray)) ?hiz19 (by kernel_rfl) (by kernel_rfl) (by kernel_rfl) ?hQz19 ?hyz19 (by assumption) ?restz19
        case hiz19 => simp only [List.getElem?_toArray, List.getElem?_cons_zero, List.getElem?_cons_succ]; rfl
        case hQz19 => exact fun _ _ _ h => h
        case hyz19 => refine yields_build ?_ rfl (built_node ⟨TL.key, TR.key, L1[k].1, L1[k].2⟩ HND.out); rfl
        try simp only [Act.put, List.setIfInBounds_toArray, List.set_cons_zero, List.set_cons_succ]
        refine wpAnyH_ready (rs := [8]) (by kernel_rfl) (by simp) (AllReadyH.cons (o := ?oy208) ?hy208 (fun K hK => ?sy208) AllReadyH.nil)
        case hy208 => simp only [List.getElem?_toArray, List.getElem?_cons_zero, List.getElem?_cons_succ]; rfl
        refine stp_build1 Try.underlying36 zeroNd (Nd.st HND.out).size (by decide) (by decide) rfl (.tmp 39) rfl rfl ?_
        have hH2 : Ext w (w9.alloc (.cells (Nd.enc ⟨TL.key, TR.key, L1[k].1, L1[k].2⟩).toArray 31)) ∧ Blk (w9.alloc (.cells (Nd.enc ⟨TL.key, TR.key, L1[k].1, L1[k].2⟩).toArray 31)) w2.heap.size 27 (numsA .u8 TL.key) ∧ Blk (w9.alloc (.cells (Nd.enc ⟨TL.key, TR.key, L1[k].1, L1[k].2⟩).toArray 31)) w3.heap.size 27 (numsA .u8 TR.key) := ⟨hHeld.1.alloc _, hHeld.2.1.alloc _, hHeld.2.2.alloc _⟩
        refine hK.out _ _ hH2 (fun _ => ?_)
        clear hK K
        try simp only [Act.put, List.setIfInBounds_toArray, List.set_cons_zero, List.set_cons_succ]
        refine wpAnyH_ready (rs := [9]) (by kernel_rfl) (by simp) (AllReadyH.cons (o := ?oy219) ?hy219 (fun K hK => ?sy219) AllReadyH.nil)
        case hy219 => simp only [List.getElem?_toArray, List.getElem?_cons_zero, List.getElem?_cons_succ]; rfl
        refine stp_append rowNd rfl _ _ rfl (v := .slice C cn cc) rfl (HOd.out.alloc _) _ _ rfl (A := some ⟨w9.heap.size, 0, none⟩) (ys := [⟨TL.key, TR.key, L1[k].1, L1[k].2⟩]) rfl (rd_one (T := tNd) w9 ⟨TL.key, TR.key, L1[k].1, L1[k].2⟩ HND.out _) (by intro y hy; obtain rfl := List.mem_singleton.1 hy; exact HND.out) (by have := HAL.out; simp only [List.length_singleton]; omega) hH2.1.size ?_
        intro v10 w10 ho1 hg1 hat1
        have hfar : ∀ b, wr.heap.size ≤ b → some b ≠ (Value.slice C cn cc).ownBlock := fun b hb e => by have := (HO.out.base_le _ e.symm).2; omega
        have hs2 := HS2.out
        have hs3 := HS3.out
        have hH3 : Ext w w10 ∧ Blk w10 w2.heap.size 27 (numsA .u8 TL.key) ∧ Blk w10 w3.heap.size 27 (numsA .u8 TR.key) := ⟨(HOd.out.alloc _).ext_app hH2.1 hg1, hH2.2.1.grown hg1 (hfar _ hs2), hH2.2.2.grown hg1 (hfar _ hs3)⟩
        have HO10 := Lib.hid ho1
        have HX10 := Lib.hid hH3.1
        obtain ⟨D, dn, dc, rfl⟩ := ho1.shape3
        clear ho1 hg1 hat1 hfar
        refine hK.out _ _ hH3 (fun _ => ?_)
        clear hK K hH2 hH3 hHeld
        try simp only [Act.put, List.setIfInBounds_toArray, List.set_cons_zero, List.set_cons_succ]
        refine wpAnyH_take (i := 10) (oi := ?oiz22) (v := ?vz22) ?hiz22 (by kernel_rfl) (by kernel_rfl) (by kernel_rfl) ?hQz22 ?hyz22 (by assumption) ?restz22
        case hiz22 => simp only [List.getElem?_toArray, List.getElem?_cons_zero, List.getElem?_cons_succ]; rfl
        case hQz22 => exact fun _ _ _ h => h
        case hyz22 => exact Or.inl ⟨by rfl, by intro w hSw; (try dsimp only at hSw); go_simp; with_reducible rfl⟩
        try simp only [Act.put, List.setIfInBounds_toArray, List.set_cons_zero, List.set_cons_succ]
        refine wpAnyH_done (by kernel_rfl) ?_ _
        have d0 := HC.out w10 HX10.out 0 _ rfl
        have d1 : w10.cell? ⟨g, o + k * 2, none⟩ = some (.string L1[k].1) := d0
        have e2 := ltB_eq s L1[k].1
        clear d0 B6 B8
        have HRR := Lib.hid hR
        clear hR
        by_cases hname : L1[k].1 = s
        · have hn2 : (L1[k].1.toList == s.toList) = true := by rw [hname, beq_self_eq_true]
          have HQ := Lib.hid (show acc ++ [(⟨TL.key, TR.key, L1[k].1, L1[k].2⟩ : Nd)] = R by
            have := HRR.out
            simpa [hname, ltB_irrefl] using this)
          clear hname e2
          go_wp2
          go_ret
          exact ⟨_, rfl, by rw [← HQ.out]; exact HO10.out, HX10.out⟩
        · have hn2 : (L1[k].1.toList == s.toList) = false := by rw [beq_eq_false_iff_ne]; exact fun e => hname (toList_inj e)
          cases hl : ltB s L1[k].1 with
          | true =>
            have HQ := Lib.hid (show (acc ++ [(⟨TL.key, TR.key, L1[k].1, L1[k].2⟩ : Nd)]) ++ TL.sel (fun o => ltB s o) (fun o => ltB o s) = R by
              have := HRR.out
              simpa [hl, ltB_asymm hl] using this)
            rw [hl] at e2
            clear hname
            go_wp2
            go_roundw
            case rel => exact ⟨f, L1.take k, _, by rw [List.length_take]; omega, by rw [List.length_take]; omega, by rw [List.length_append, List.length_take]; have := HAL.out; simp only [List.length_singleton]; omega, HG.out.take k, RdL.headN H.out rfl (by omega), HO10.out, by rw [HTL.out]; exact HQ.out, HX10.out⟩
            case measure => simp [lenV]; omega
          | false =>
            have hl2 : ltB L1[k].1 s = true := by
              cases h : ltB L1[k].1 s with
              | true => rfl
              | false => exact absurd (ltB_total h hl) hname
            have HQ := Lib.hid (show (acc ++ [(⟨TL.key, TR.key, L1[k].1, L1[k].2⟩ : Nd)]) ++ TR.sel (fun o => ltB s o) (fun o => ltB o s) = R by
              have := HRR.out
              simpa [hl, hl2] using this)
            rw [hl] at e2
            have hcut := RdL.cutN (k := k + 1) H.out rfl (by omega)
            simp only [Option.map_some, Addr.add_lit, show tEnt.sz = 2 from rfl, if_neg hce] at hcut
            have HCUT := Lib.hid hcut
            clear hname hcut
            go_wp2
            go_roundw
            case rel => exact ⟨f, L1.drop (k + 1), _, by rw [List.length_drop]; omega, by rw [List.length_drop]; omega, by rw [List.length_append, List.length_drop]; have := HAL.out; simp only [List.length_singleton]; omega, HG.out.drop (k + 1), HCUT.out, HO10.out, by rw [HTR.out]; exact HQ.out, HX10.out⟩
            case measure => simp [lenV]; omega
end Go.Proofs.Ytmndkbheehcoaaa
/- The path to a name, as it is asked for. No condition. -/
namespace Go.Proofs.Ytmndkbheehcoaaa
open Go.RowKit
set_option linter.unusedVariables false
set_option linter.unusedSimpArgs false

/-- the path to a name, and the code -/
def provR (L : List En) (s : ByteArray) : List Nd × Int := if okE L && nameB s then ((trF L.length L).sel (fun o => ltB s o) (fun o => ltB o s), 0) else ([], 1)
theorem provR_len (L : List En) (s : ByteArray) : (provR L s).1.length ≤ 64 := by
  unfold provR
  split
  · rename_i h
    rw [Bool.and_eq_true] at h
    have h1 := (okE_incs' h.1).2
    exact Nat.le_trans (Tr.sel_le _ _ _) (Nat.le_trans (trF_len _ _) h1)
  · exact Nat.zero_le _
set_option maxHeartbeats 1000000 in
set_option maxRecDepth 100000 in
theorem specProveName_any (v : Value) (L : List En) (s : ByteArray) (hsz : s.size ≤ 140737488351232) (w : World) (S : Nat → Prop) (h : RdL tEnt w S v L) :
    Calls Try.prog 50 #[v, .string s] w fun e w' => ∃ v', e = .returned (.tuple #[v', .int .i64 (provR L s).2]) ∧ Own tNd 31 w' w.heap.size v' (provR L s).1 ∧ Ext w w' := by
  have H := Lib.hid h
  have hokL := h.choose_spec.choose_spec.2.2.2.2
  have hc := l04Ok_any v L w S h
  have hn := l04Name_any s hsz
  have hp := fun (hb : okE L = true) W hW => l04Path_any v L s (okE_incs' hb).2 (good_of hb hokL) W S hW
  obtain ⟨A, cap, rfl, hcap, hlen, _⟩ := h
  cases hb : okE L with
  | false =>
    simp only [provR, hb, Bool.false_and, Bool.false_eq_true, if_false]
    simp only [hb] at hc
    clear hb hp
    go_enter Try.func50, Try.ntmps50
    go_wp2_with fail
    refine hc.mono ?_
    rintro e w1 ⟨rfl, hx⟩
    have HX := Lib.hid hx
    clear hx
    go_wp2
    go_ret2
    exact ⟨_, rfl, Own.empty tNd _ 31 _ HX.out.size, HX.out.alloc _⟩
  | true =>
    simp only [hb] at hc
    replace hp := hp hb
    cases hb2 : nameB s with
    | false =>
      simp only [provR, hb, hb2, Bool.and_false, Bool.false_eq_true, if_false]
      simp only [hb2] at hn
      clear hb hb2 hp
      go_enter Try.func50, Try.ntmps50
      go_wp2_with fail
      refine hc.mono ?_
      rintro e w1 ⟨rfl, hx⟩
      have HX := Lib.hid hx
      clear hx
      go_wp2_with fail
      refine (hn _).mono ?_
      rintro e w' ⟨rfl, rfl⟩
      go_wp2
      go_ret2
      exact ⟨_, rfl, Own.empty tNd _ 31 _ HX.out.size, HX.out.alloc _⟩
    | true =>
      simp only [provR, hb, hb2, Bool.and_true, if_true]
      simp only [hb2] at hn
      clear hb hb2
      go_enter Try.func50, Try.ntmps50
      go_wp2_with fail
      refine hc.mono ?_
      rintro e w1 ⟨rfl, hx⟩
      have HX := Lib.hid hx
      clear hx
      go_wp2_with fail
      refine (hn _).mono ?_
      rintro e w' ⟨rfl, rfl⟩
      go_wp2_with fail
      refine (hp _ (H.out.ext (by decide) HX.out)).mono ?_
      rintro e w2 ⟨v2, rfl, ho, hx⟩
      have HO := Lib.hid (ho.le (base' := w.heap.size) HX.out.size)
      have HX2 := Lib.hid (HX.out.trans hx)
      obtain ⟨A2, n2, c2, rfl⟩ := ho.shape3
      clear ho hx
      go_wp2
      go_ret2
      exact ⟨_, rfl, HO.out, HX2.out⟩
set_option maxHeartbeats 1000000 in
set_option maxRecDepth 100000 in
theorem implProveName_any (v : Value) (L : List En) (s : ByteArray) (hsz : s.size ≤ 140737488351232) (w : World) (S : Nat → Prop) (h : RdL tEnt w S v L) :
    Calls Try.prog 49 #[v, .string s] w fun e w' => ∃ v', e = .returned (.tuple #[v', .int .i64 (provR L s).2]) ∧ Own tNd 31 w' w.heap.size v' (provR L s).1 ∧ Ext w w' := by
  have H := Lib.hid h
  have hokL := h.choose_spec.choose_spec.2.2.2.2
  have hc := validEntries_any v L w S h
  have hn := isName_any s hsz
  have hp := fun (hb : okE L = true) W hW => path_any v L s (okE_incs' hb).2 (good_of hb hokL) W S hW
  obtain ⟨A, cap, rfl, hcap, hlen, _⟩ := h
  cases hb : okE L with
  | false =>
    simp only [provR, hb, Bool.false_and, Bool.false_eq_true, if_false]
    simp only [hb] at hc
    clear hb hp
    go_enter Try.func49, Try.ntmps49
    go_wp2_with fail
    refine hc.mono ?_
    rintro e w1 ⟨rfl, hx⟩
    have HX := Lib.hid hx
    clear hx
    go_wp2
    go_ret2
    exact ⟨_, rfl, Own.nil _ _ _ _, HX.out⟩
  | true =>
    simp only [hb] at hc
    replace hp := hp hb
    cases hb2 : nameB s with
    | false =>
      simp only [provR, hb, hb2, Bool.and_false, Bool.false_eq_true, if_false]
      simp only [hb2] at hn
      clear hb hb2 hp
      go_enter Try.func49, Try.ntmps49
      go_wp2_with fail
      refine hc.mono ?_
      rintro e w1 ⟨rfl, hx⟩
      have HX := Lib.hid hx
      clear hx
      go_wp2_with fail
      refine (hn _).mono ?_
      rintro e w' ⟨rfl, rfl⟩
      go_wp2
      go_ret2
      exact ⟨_, rfl, Own.nil _ _ _ _, HX.out⟩
    | true =>
      simp only [provR, hb, hb2, Bool.and_true, if_true]
      simp only [hb2] at hn
      clear hb hb2
      go_enter Try.func49, Try.ntmps49
      go_wp2_with fail
      refine hc.mono ?_
      rintro e w1 ⟨rfl, hx⟩
      have HX := Lib.hid hx
      clear hx
      go_wp2_with fail
      refine (hn _).mono ?_
      rintro e w' ⟨rfl, rfl⟩
      go_wp2_with fail
      refine (hp _ (H.out.ext (by decide) HX.out)).mono ?_
      rintro e w2 ⟨v2, rfl, ho, hx⟩
      have HO := Lib.hid (ho.le (base' := w.heap.size) HX.out.size)
      have HX2 := Lib.hid (HX.out.trans hx)
      obtain ⟨A2, n2, c2, rfl⟩ := ho.shape3
      clear ho hx
      go_wp2
      go_ret2
      exact ⟨_, rfl, HO.out, HX2.out⟩
end Go.Proofs.Ytmndkbheehcoaaa
/- A map's own path, checked; where two paths part: plainly. No condition. -/
namespace Go.Proofs.Ytmndkbheehcoaaa
open Go.RowKit
set_option linter.unusedVariables false
set_option linter.unusedSimpArgs false

/-- the path to a name in a tree -/
def Tr.way (s : ByteArray) (T : Tr) : List Nd := T.sel (fun o => ltB s o) (fun o => ltB o s)
theorem Tr.way_node (s : ByteArray) (x : Nd) (l r : Tr) : (Tr.node x l r).way s = x :: ((if ltB s x.n then l.way s else []) ++ (if ltB x.n s then r.way s else [])) := by rw [way, Tr.sel]; rfl
theorem way_ck (s : ByteArray) (f : Nat) : ∀ (L : List En), L.length ≤ f → L.Pairwise ltE → (∀ e ∈ L, e.1 = s → ckF s (trF f L).key ((trF f L).way s) = (true, e.2, true)) ∧ ((∀ e ∈ L, e.1 ≠ s) → ckF s (trF f L).key ((trF f L).way s) = (false, ⟨#[]⟩, true)) := by
  have nil : ckF s Tr.leaf.key (Tr.leaf.way s) = (false, ⟨#[]⟩, true) := by
    show ckF s emptyL [] = _
    rw [ckF_nil]; simp
  induction f with
  | zero =>
    intro L hf hp
    obtain rfl : L = [] := List.eq_nil_of_length_eq_zero (by omega)
    rw [trF_zero]
    exact ⟨(fun e he => by cases he), fun _ => nil⟩
  | succ f ih =>
    intro L hf hp
    by_cases h0 : L.length = 0
    · obtain rfl : L = [] := List.eq_nil_of_length_eq_zero h0
      rw [trF_nil _ _ h0]
      exact ⟨(fun e he => by cases he), fun _ => nil⟩
    · have hlt := topE_lt (L := L) (by omega)
      rw [trF_cons _ _ h0]
      obtain ⟨k, hk⟩ : ∃ k, topE L = k := ⟨_, rfl⟩
      rw [hk] at hlt ⊢
      rw [gE_lt hlt]
      have hpw := List.pairwise_iff_getElem.1 hp
      have hl := ih (L.take k) (by rw [List.length_take]; omega) (hp.sublist (List.take_sublist _ _))
      have hr := ih (L.drop (k + 1)) (by rw [List.length_drop]; omega) (hp.sublist (List.drop_sublist _ _))
      generalize trF f (L.take k) = TL at hl ⊢
      generalize trF f (L.drop (k + 1)) = TR at hr ⊢
      rw [Tr.way_node]
      show (∀ e ∈ L, e.1 = s → ckF s (hashL 5 (nodeL ⟨TL.key, TR.key, L[k].1, L[k].2⟩)) _ = _) ∧ (_ → ckF s (hashL 5 (nodeL ⟨TL.key, TR.key, L[k].1, L[k].2⟩)) _ = _)
      rw [ckF_cons]
      by_cases hq : L[k].1 = s
      · rw [ckS_hit _ _ rfl hq]
        have e1 : ltB s L[k].1 = false := by rw [hq]; exact ltB_irrefl s
        have e2 : ltB L[k].1 s = false := by rw [hq]; exact ltB_irrefl s
        simp only [e1, e2, Bool.false_eq_true, if_false, List.append_nil, List.isEmpty_nil]
        refine ⟨fun e he hes => ?_, fun h => absurd hq (h _ (List.getElem_mem hlt))⟩
        obtain ⟨i, hi, rfl⟩ := List.getElem_of_mem he
        obtain rfl : i = k := by
          rcases Nat.lt_trichotomy i k with h | h | h
          · exact absurd (hes.trans hq.symm) (ltB_ne (hpw i k hi hlt h))
          · exact h
          · exact absurd (hq.trans hes.symm) (ltB_ne (hpw k i hlt hi h))
        rfl
      · rw [ckS_on _ _ rfl hq]
        cases h1 : ltB s L[k].1 with
        | true =>
          have e2 := ltB_asymm h1
          simp only [e2, Bool.false_eq_true, if_false, if_true, List.append_nil]
          refine ⟨fun e he hes => hl.1 e ?_ hes, fun h => hl.2 fun e he => h e (List.mem_of_mem_take he)⟩
          obtain ⟨i, hi, rfl⟩ := List.getElem_of_mem he
          have hik : i < k := by
            rcases Nat.lt_trichotomy i k with h | h | h
            · exact h
            · subst h; exact absurd hes hq
            · have h2 := hpw k i hlt hi h
              rw [ltE, hes, e2] at h2
              cases h2
          rw [List.mem_take_iff_getElem]
          exact ⟨i, by omega, rfl⟩
        | false =>
          have e2 : ltB L[k].1 s = true := by
            cases h2 : ltB L[k].1 s with
            | true => rfl
            | false => exact absurd (ltB_total h2 h1) hq
          simp only [e2, Bool.false_eq_true, if_false, if_true, List.nil_append]
          refine ⟨fun e he hes => hr.1 e ?_ hes, fun h => hr.2 fun e he => h e (List.mem_of_mem_drop he)⟩
          obtain ⟨i, hi, rfl⟩ := List.getElem_of_mem he
          have hik : k < i := by
            rcases Nat.lt_trichotomy i k with h | h | h
            · have h2 := hpw i k hi hlt h
              rw [ltE, hes, h1] at h2
              cases h2
            · subst h; exact absurd hes hq
            · exact h
          rw [List.mem_drop_iff_getElem]
          exact ⟨i - (k + 1), by omega, by congr 1; omega⟩
/-- what a map has of a name -/
def valE (L : List En) (s : ByteArray) : ByteArray := if hasE L s then (gE L (posE L s)).2 else ⟨#[]⟩
theorem own_ck {L : List En} (h : okE L = true) (s : ByteArray) : ckF s (trF L.length L).key ((trF L.length L).way s) = (hasE L s, valE L s, true) := by
  have hi := (okE_incs h).1
  have hw := way_ck s L.length L (Nat.le_refl _) (incs_pair.1 hi).2
  cases hh : hasE L s with
  | true =>
    have h2 := hh
    rw [hasE_eq, decide_eq_true_eq] at h2
    rw [valE, hh, if_pos rfl, gE_lt h2.1]
    refine hw.1 _ (List.getElem_mem h2.1) ?_
    rw [← gE_lt h2.1]; exact h2.2
  | false =>
    rw [valE, hh]
    refine hw.2 fun e he hes => ?_
    obtain ⟨i, hl, rfl⟩ := List.getElem_of_mem he
    have hp := posE_hit (s := s) hi i hl (by rw [gE_lt hl]; exact hes)
    rw [hasE_eq, decide_eq_false_iff_not] at hh
    exact hh (by rw [hp]; exact ⟨hl, by rw [gE_lt hl]; exact hes⟩)
/-- the node of zeros -/
def zeroN : Nd := ⟨List.replicate 32 0, List.replicate 32 0, ⟨#[]⟩, ⟨#[]⟩⟩
theorem zK : K32 (List.replicate 32 0) := ⟨rfl, by intro x hx; obtain ⟨_, rfl⟩ := List.mem_replicate.1 hx; omega⟩
theorem zeroN_ok : zeroN.ok := ⟨zK, zK, by decide, by decide⟩
deriving instance DecidableEq for Nd
/-- how far two paths are alike -/
def partN : List Nd → List Nd → Nat
  | x :: xs, y :: ys => if x = y then partN xs ys + 1 else 0
  | _, _ => 0
theorem partN_eq (A : List Nd) : ∀ (B : List Nd) (d : Nat), d ≤ A.length → d ≤ B.length → (∀ p, p < d → A.getD p zeroN = B.getD p zeroN) → (d = A.length ∨ d = B.length ∨ A.getD d zeroN ≠ B.getD d zeroN) → partN A B = d := by
  induction A with
  | nil => intro B d h1 _ _ _; simp at h1; subst h1; simp [partN]
  | cons x xs ih =>
    intro B d h1 h2 h3 h4
    match B, d with
    | [], d => simp at h2; subst h2; simp [partN]
    | y :: ys, 0 =>
      rw [partN, if_neg]
      rcases h4 with h | h | h
      · simp at h
      · simp at h
      · simpa using h
    | y :: ys, d + 1 =>
      have e0 := h3 0 (by omega)
      simp only [List.getD_cons_zero] at e0
      rw [partN, if_pos e0, ih ys d (by simpa using h1) (by simpa using h2) (fun p hp => by simpa using h3 (p + 1) (by omega)) (by simpa using h4)]
theorem alike {A B : List Nd} (hl : A.length = B.length) (h : ∀ p, p < A.length → A.getD p zeroN = B.getD p zeroN) : A = B := by
  refine List.ext_getElem hl fun i h1 h2 => ?_
  have := h i h1
  rw [List.getD_eq_getElem?_getD, List.getD_eq_getElem?_getD, List.getElem?_eq_getElem h1, List.getElem?_eq_getElem h2] at this
  exact this
/-- valid nodes are not the node of zeros -/
def full (A : List Nd) : Prop := ∀ i, i < A.length → A.getD i zeroN ≠ zeroN
theorem full_of {A : List Nd} (h : ∀ x ∈ A, entB x.n x.v = true) : full A := by
  intro i hi e
  rw [List.getD_eq_getElem?_getD, List.getElem?_eq_getElem hi] at e
  have h2 := entB_le (h _ (List.getElem_mem hi))
  rw [show A[i] = zeroN from e] at h2
  exact absurd h2.1 (by decide)
theorem both {A B : List Nd} (fa : full A) (fb : full B) (ne : A ≠ B) (i : Nat) (ha : i ≤ A.length) (hb : i ≤ B.length) (h : ∀ p, p < i → A.getD p zeroN = B.getD p zeroN) (e : A.getD i zeroN = B.getD i zeroN) : i < A.length ∧ i < B.length := by
  by_cases h1 : i < A.length
  · refine ⟨h1, ?_⟩
    by_cases h2 : i < B.length
    · exact h2
    · refine absurd ?_ (fa i h1)
      rw [e, List.getD_eq_getElem?_getD, List.getElem?_eq_none (by omega)]; rfl
  · by_cases h2 : i < B.length
    · refine absurd ?_ (fb i h2)
      rw [← e, List.getD_eq_getElem?_getD, List.getElem?_eq_none (by omega)]; rfl
    · exact absurd (alike (by omega) (fun p hp => h p (by omega))) ne
/-- what is answered: the two nodes and the code -/
def clR (L : List En) (s : ByteArray) (P : List Nd) : Nd × Nd × Int :=
  if okE L && nameB s && okNs P then
    (if (chkR (trF L.length L).key s P).2.2 = 0 then
      (if (chkR (trF L.length L).key s P).1 = hasE L s ∧ (chkR (trF L.length L).key s P).2.1 = valE L s then (zeroN, zeroN, 6)
       else (((trF L.length L).way s).getD (partN ((trF L.length L).way s) P) zeroN, P.getD (partN ((trF L.length L).way s) P) zeroN, 0))
     else (zeroN, zeroN, 4))
  else (zeroN, zeroN, 1)
theorem own_ne {L : List En} (h : okE L = true) (s : ByteArray) {P : List Nd} {c1 : Bool} {c2 : ByteArray} {c3 : Bool} (hc : ckF s (trF L.length L).key P = (c1, c2, c3)) (hn : ¬ (c1 = hasE L s ∧ c2 = valE L s)) : (trF L.length L).way s ≠ P := by
  intro e
  rw [← e, own_ck h s] at hc
  injection hc with e1 e2
  injection e2 with e2 e3
  exact hn ⟨e1.symm, e2.symm⟩
theorem Tr.sel_sub (p q : ByteArray → Bool) (T : Tr) : ∀ x ∈ T.sel p q, x ∈ T.all := by
  induction T with
  | leaf => intro x hx; simp [Tr.sel] at hx
  | node y l r il ir =>
    intro x hx
    simp only [Tr.sel, Tr.all, List.mem_cons, List.mem_append] at hx ⊢
    rcases hx with rfl | hx | hx
    · exact .inl rfl
    · split at hx
      · exact .inr (.inl (il x hx))
      · simp at hx
    · split at hx
      · exact .inr (.inr (ir x hx))
      · simp at hx
theorem way_full {L : List En} (hg : good L) (s : ByteArray) : full ((trF L.length L).way s) := full_of fun x hx => ((trF L.length L).all_ok (trF_ok _ _ hg) x (Tr.sel_sub _ _ _ x hx)).2
theorem okNs_full {P : List Nd} (h : okNs P = true) : full P := full_of fun x hx => by obtain ⟨i, hi, rfl⟩ := List.getElem_of_mem hx; exact okNs_at h hi
end Go.Proofs.Ytmndkbheehcoaaa
/- Nodes held against each other by == and !=. No condition. -/
namespace Go.Proofs.Ytmndkbheehcoaaa
open Go.RowKit
set_option linter.unusedVariables false
set_option linter.unusedSimpArgs false

theorem part_sub (t n : Nat) (cs : Array Value) (off : Nat) (W : World) (h1 : (isAgg t).run Try.prog W = .ok true W) (h2 : (sizeOf t).run Try.prog W = .ok n W) : (part t cs off).run Try.prog W = .ok (.agg (cs.extract off (off + n))) W := by
  unfold part
  simp only [Sem.run_bind, h1, Result.andThen_ok, if_true, h2, Sem.run_pure]
theorem part_one (t : Nat) (cs : Array Value) (off : Nat) (v : Value) (W : World) (h1 : (isAgg t).run Try.prog W = .ok false W) (h2 : cs[off]? = some v) : (part t cs off).run Try.prog W = .ok v W := by
  unfold part
  simp only [Sem.run_bind, h1, Result.andThen_ok, Bool.false_eq_true, if_false, h2, Sem.run_pure]
theorem enc_ex0 {x : Nd} (h : x.ok) : x.enc.toArray.extract 0 (0 + 32) = numsA .u8 x.l := by
  apply Array.toList_inj.1
  have hl := nums_length .u8 x.l
  rw [h.1.1] at hl
  simp only [List.extract_toArray, List.extract_eq_take_drop, Nd.enc, numsA, List.drop_zero, Nat.add_sub_cancel_left, List.append_assoc]
  rw [List.take_left' hl]
theorem enc_ex1 {x : Nd} (h : x.ok) : x.enc.toArray.extract 32 (32 + 32) = numsA .u8 x.r := by
  apply Array.toList_inj.1
  have hl := nums_length .u8 x.l
  have hr := nums_length .u8 x.r
  rw [h.1.1] at hl
  rw [h.2.1.1] at hr
  simp only [List.extract_toArray, List.extract_eq_take_drop, Nd.enc, numsA, Nat.add_sub_cancel_left, List.append_assoc]
  rw [List.drop_left' hl, List.take_left' hr]
theorem enc_ex2 {x : Nd} (h : x.ok) : x.enc.toArray.extract 64 (64 + 2) = #[.string x.n, .string x.v] := by
  apply Array.toList_inj.1
  have hl : (nums .u8 x.l ++ nums .u8 x.r).length = 64 := by rw [List.length_append, nums_length, nums_length, h.1.1, h.2.1.1]
  simp only [List.extract_toArray, List.extract_eq_take_drop, Nd.enc, Nat.add_sub_cancel_left]
  rw [List.drop_left' hl]
  rfl
section
variable {P : Program} (w : World)
theorem eqF_cons {d : Nat} {xs ys : Array Value} {f : Field} {fs : List Field} {a b : Value} {r : Bool} (hn : f.name ≠ "_") (ha : (part f.type xs f.offset).run P w = .ok a w) (hb : (part f.type ys f.offset).run P w = .ok b w) (hr : (Op.equalIn d f.type a b).run P w = .ok r w) :
    (Op.eqFields d xs ys (f :: fs)).run P w = if r then (Op.eqFields d xs ys fs).run P w else .ok false w := by
  rw [Op.eqFields, if_pos hn]
  simp only [Sem.run_bind, ha, hb, hr, Result.andThen_ok, Sem.run_ite, Sem.run_pure]
  cases r <;> simp
theorem eqF_nil {d : Nat} {xs ys : Array Value} : (Op.eqFields d xs ys []).run P w = .ok true w := by simp [Op.eqFields]
end
theorem fieldsNd : ∃ f0 f1 f2 : Field, (Try.prog.fieldsOf 31).toList = [f0, f1, f2] ∧ (f0.name ≠ "_" ∧ f0.type = 27 ∧ f0.offset = 0) ∧ (f1.name ≠ "_" ∧ f1.type = 27 ∧ f1.offset = 32) ∧ (f2.name ≠ "_" ∧ f2.type = 29 ∧ f2.offset = 64) := by
  simp only [Program.fieldsOf, Try.underlying31]
  exact ⟨_, _, _, rfl, ⟨by decide, rfl, rfl⟩, ⟨by decide, rfl, rfl⟩, by decide, rfl, rfl⟩
theorem fieldsEn : ∃ f0 f1 : Field, (Try.prog.fieldsOf 29).toList = [f0, f1] ∧ (f0.name ≠ "_" ∧ f0.type = 9 ∧ f0.offset = 0) ∧ (f1.name ≠ "_" ∧ f1.type = 9 ∧ f1.offset = 1) := by
  simp only [Program.fieldsOf, Try.underlying29]
  exact ⟨_, _, rfl, ⟨by decide, rfl, rfl⟩, by decide, rfl, rfl⟩
theorem run_equalEn (d : Nat) (a b : En) (W : World) : (Op.equalIn (d + 1 + 1) 29 (.agg #[.string a.1, .string a.2]) (.agg #[.string b.1, .string b.2])).run Try.prog W = .ok (decide (a = b)) W := by
  rw [run_equalIn_agg (P := Try.prog) W (d + 1) 29 _ _ (by kernel_rfl) (by kernel_rfl)]
  obtain ⟨f0, f1, e, ⟨n0, t0, o0⟩, n1, t1, o1⟩ := fieldsEn
  have s0 := part_one 9 #[.string a.1, .string a.2] 0 (.string a.1) W (by kernel_rfl) rfl
  have s1 := part_one 9 #[.string b.1, .string b.2] 0 (.string b.1) W (by kernel_rfl) rfl
  have s2 := part_one 9 #[.string a.1, .string a.2] 1 (.string a.2) W (by kernel_rfl) rfl
  have s3 := part_one 9 #[.string b.1, .string b.2] 1 (.string b.2) W (by kernel_rfl) rfl
  have q0 := run_equalIn_string (P := Try.prog) W d 9 a.1 b.1 (by kernel_rfl)
  have q1 := run_equalIn_string (P := Try.prog) W d 9 a.2 b.2 (by kernel_rfl)
  rw [← t0] at s0 s1 q0
  rw [← t1] at s2 s3 q1
  rw [← o0] at s0 s1
  rw [← o1] at s2 s3
  rw [e, eqF_cons W n0 s0 s1 q0, eqF_cons W n1 s2 s3 q1, eqF_nil]
  obtain ⟨a1, a2⟩ := a
  obtain ⟨b1, b2⟩ := b
  by_cases h1 : a1 = b1
  · subst h1
    by_cases h2 : a2 = b2
    · subst h2; simp
    · have h3 : (a2.toList == b2.toList) = false := by rw [beq_eq_false_iff_ne]; exact fun e => h2 (toList_inj e)
      simp [h2, h3]
  · have h3 : (a1.toList == b1.toList) = false := by rw [beq_eq_false_iff_ne]; exact fun e => h1 (toList_inj e)
    simp [h1, h3]
theorem run_equalKy (d : Nat) (a b : List Int) (ha : K32 a) (hb : K32 b) (W : World) : (Op.equalIn (d + 1 + 1) 27 (.agg (numsA .u8 a)) (.agg (numsA .u8 b))).run Try.prog W = .ok (decide (a = b)) W := by
  rw [run_equalIn_array (P := Try.prog) W (d + 1) 27 5 32 1 _ _ (by kernel_rfl) (fun w => by kernel_rfl), run_eqArr (P := Try.prog) W d 5 .u8 (by kernel_rfl) .u8 a b (by rw [ha.1, hb.1]) 32 0 (by rw [ha.1])]
  simp only [List.drop_zero]
theorem run_equalNd (d : Nat) (x y : Nd) (hx : x.ok) (hy : y.ok) (W : World) : (Op.equalIn (d + 1 + 1 + 1) 31 (.agg x.enc.toArray) (.agg y.enc.toArray)).run Try.prog W = .ok (decide (x = y)) W := by
  have q0 := run_equalKy d x.l y.l hx.1 hy.1 W
  have q1 := run_equalKy d x.r y.r hx.2.1 hy.2.1 W
  have q2 := run_equalEn d (x.n, x.v) (y.n, y.v) W
  have a0 := part_sub 27 32 x.enc.toArray 0 W (by kernel_rfl) (by kernel_rfl)
  have b0 := part_sub 27 32 y.enc.toArray 0 W (by kernel_rfl) (by kernel_rfl)
  have a1 := part_sub 27 32 x.enc.toArray 32 W (by kernel_rfl) (by kernel_rfl)
  have b1 := part_sub 27 32 y.enc.toArray 32 W (by kernel_rfl) (by kernel_rfl)
  have a2 := part_sub 29 2 x.enc.toArray 64 W (by kernel_rfl) (by kernel_rfl)
  have b2 := part_sub 29 2 y.enc.toArray 64 W (by kernel_rfl) (by kernel_rfl)
  rw [enc_ex0 hx] at a0
  rw [enc_ex0 hy] at b0
  rw [enc_ex1 hx] at a1
  rw [enc_ex1 hy] at b1
  rw [enc_ex2 hx] at a2
  rw [enc_ex2 hy] at b2
  rw [run_equalIn_agg (P := Try.prog) W (d + 1 + 1) 31 _ _ (by kernel_rfl) (by kernel_rfl)]
  obtain ⟨f0, f1, f2, e, ⟨n0, t0, o0⟩, ⟨n1, t1, o1⟩, n2, t2, o2⟩ := fieldsNd
  rw [← t0] at a0 b0 q0
  rw [← t1] at a1 b1 q1
  rw [← t2] at a2 b2 q2
  rw [← o0] at a0 b0
  rw [← o1] at a1 b1
  rw [← o2] at a2 b2
  rw [e, eqF_cons W n0 a0 b0 q0, eqF_cons W n1 a1 b1 q1, eqF_cons W n2 a2 b2 q2, eqF_nil]
  clear q0 q1 q2 a0 b0 a1 b1 a2 b2 e
  obtain ⟨xl, xr, xn, xv⟩ := x
  obtain ⟨yl, yr, yn, yv⟩ := y
  simp only [Nd.mk.injEq, Prod.mk.injEq]
  by_cases h1 : xl = yl <;> by_cases h2 : xr = yr <;> by_cases h3 : xn = yn <;> by_cases h4 : xv = yv <;> simp [h1, h2, h3, h4]
theorem run_eqNd (x y : Nd) (hx : x.ok) (hy : y.ok) (W : World) : (binOp .eql 31 (.agg x.enc.toArray) (.agg y.enc.toArray)).run Try.prog W = .ok (.bool (decide (x = y))) W := by
  rw [run_eql_struct, show (10000 : Nat) = 9997 + 1 + 1 + 1 from rfl, run_equalNd 9997 x y hx hy W]; rfl
theorem run_neqNd (x y : Nd) (hx : x.ok) (hy : y.ok) (W : World) : (binOp .neq 31 (.agg x.enc.toArray) (.agg y.enc.toArray)).run Try.prog W = .ok (.bool (!decide (x = y))) W := by
  rw [run_neq_struct, show (10000 : Nat) = 9997 + 1 + 1 + 1 from rfl, run_equalNd 9997 x y hx hy W]; rfl
end Go.Proofs.Ytmndkbheehcoaaa
/- Two nodes in variables and a code are the results; the node at a place of a path. No condition. -/
namespace Go.Proofs.Ytmndkbheehcoaaa
open Go.RowKit
set_option linter.unusedVariables false
set_option linter.unusedSimpArgs false

theorem results_b1 {P : Program} {w : World} {fn : Func} {c : Tmp} {t g e n : Nat} {cs : Array Value} (hr : fn.results = #[.cell c t]) (tmps : Array Value) (hp : tmps.getD c undef = .pointer (some ⟨g, 0, none⟩)) (ht : Agg P t n) (hn : cs.size = n) (hb : Blk w g e cs) :
    (results fn tmps).run P w = .ok (.agg cs) w := by
  have hl := run_loadB (P := P) hb ht hn
  have hp' : tmps[c]?.getD undef = .pointer (some ⟨g, 0, none⟩) := by simpa using hp
  simp [results, hr, hp', asAddr, hl]
theorem results_bbt {P : Program} {w : World} {fn : Func} {c1 c2 d : Tmp} {t g1 g2 e1 e2 n : Nat} {cs1 cs2 : Array Value} (hr : fn.results = #[.cell c1 t, .cell c2 t, .tmp d]) (tmps : Array Value) (hp1 : tmps.getD c1 undef = .pointer (some ⟨g1, 0, none⟩)) (hp2 : tmps.getD c2 undef = .pointer (some ⟨g2, 0, none⟩)) (ht : Agg P t n) (hn1 : cs1.size = n) (hn2 : cs2.size = n) (hb1 : Blk w g1 e1 cs1) (hb2 : Blk w g2 e2 cs2) {v : Value} (hv : tmps.getD d undef = v) :
    (results fn tmps).run P w = .ok (.tuple #[.agg cs1, .agg cs2, v]) w := by
  have hl1 := run_loadB (P := P) hb1 ht hn1
  have hl2 := run_loadB (P := P) hb2 ht hn2
  have hp1' : tmps[c1]?.getD undef = .pointer (some ⟨g1, 0, none⟩) := by simpa using hp1
  have hp2' : tmps[c2]?.getD undef = .pointer (some ⟨g2, 0, none⟩) := by simpa using hp2
  have hv' : tmps[d]?.getD undef = v := by simpa using hv
  simp [results, hr, hp1', hp2', hv', asAddr, hl1, hl2]
theorem built_zero : Try.prog.built 31 [] = some zeroN.enc.toArray := by kernel_rfl
theorem getD_lt {P : List Nd} {k : Nat} (h : k < P.length) : P.getD k zeroN = P[k] := by rw [List.getD_eq_getElem?_getD, List.getElem?_eq_getElem h]; rfl
theorem getD_ge {P : List Nd} {k : Nat} (h : ¬ k < P.length) : P.getD k zeroN = zeroN := by rw [List.getD_eq_getElem?_getD, List.getElem?_eq_none (by omega)]; rfl
theorem getD_ok {P : List Nd} (h : ∀ x ∈ P, tNd.ok x) (k : Nat) : (P.getD k zeroN).ok := by
  by_cases hk : k < P.length
  · rw [getD_lt hk]; exact h _ (List.getElem_mem hk)
  · rw [getD_ge hk]; exact zeroN_ok
set_option maxHeartbeats 1000000 in
set_option maxRecDepth 100000 in
theorem clashAt_any (v : Value) (P : List Nd) (k : Nat) (w : World) (S : Nat → Prop) (h : RdL tNd w S v P) :
    Calls Try.prog 89 #[v, .int .i64 k] w fun e w' => e = .returned (.agg (P.getD k zeroN).enc.toArray) ∧ Ext w w' := by
  obtain ⟨A, cap, rfl, hcap, hlen, hrd, hok⟩ := h
  have hx := getD_ok hok k
  by_cases hlt : k < P.length
  · obtain ⟨g, o, rfl, hs0, hc⟩ := hrd.elem hok k hlt
    rw [getD_lt hlt] at hx ⊢
    have hn : ∀ j u, P[k].enc[j]? = some u → w.cell? ⟨g, o + k * 66 + j, none⟩ = some u := fun j u hu => hc j u hu
    generalize P[k] = x at hx hn hc
    have hi : (0 : Int) ≤ (k : Int) := by omega
    have hi2 : (k : Int) < (P.length : Int) := by omega
    have HST := Lib.hid (Nd.st hx)
    have HXO := Lib.hid hx
    have HN := Lib.hid hn
    clear hc hx hn hrd hok
    go_enter Try.func89, Try.ntmps89
    go_wp2_with (first
      | (refine wpl_load ⟨g, o + k * 66, none⟩ x.enc (by rw [Nd.enc_length HXO.out]; exact aggNodeI) rfl _ rfl rfl (fun j u hu => by rw [Addr.add_lit]; exact (ext_alloc w _).cell (HN.out j u hu)) ?_)
      | (refine wpl_storeNewB aggNodeI HST.out rfl rfl _ _ rfl rfl rfl rfl ?_))
    refine bodyPost_ret (results_b1 rfl _ rfl aggNodeI HST.out.size (Blk.new w 31 _)) rfl ?_
    exact ⟨rfl, ext_alloc _ _⟩
  · rw [getD_ge hlt]
    have hi2 : ¬ (k : Int) < (P.length : Int) := by omega
    have HST := Lib.hid (Nd.st zeroN_ok)
    clear hx hrd hok
    go_enter Try.func89, Try.ntmps89
    go_wp2_with (first
      | (refine wpl_buildN rfl rfl built_zero ?_)
      | (refine wpl_storeNewB aggNodeI HST.out rfl rfl _ _ rfl rfl rfl rfl ?_))
    refine bodyPost_ret (results_b1 rfl _ rfl aggNodeI HST.out.size (Blk.new w 31 _)) rfl ?_
    exact ⟨rfl, ext_alloc _ _⟩
end Go.Proofs.Ytmndkbheehcoaaa
/- Two lists of nodes held against each other. No condition. -/
namespace Go.Proofs.Ytmndkbheehcoaaa
open Go.RowKit
set_option linter.unusedVariables false
set_option linter.unusedSimpArgs false

theorem run_neqNdT (x y : Nd) (hx : tNd.ok x) (hy : tNd.ok y) (W : World) : (binOp .neq 31 (.agg (tNd.enc x).toArray) (.agg (tNd.enc y).toArray)).run Try.prog W = .ok (.bool (!decide (x = y))) W := run_neqNd x y hx hy W
set_option maxHeartbeats 1000000 in
set_option maxRecDepth 100000 in
theorem sameNodes_any (v u : Value) (xs ys : List Nd) (w : World) (S S' : Nat → Prop) (h : RdL tNd w S v xs) (h' : RdL tNd w S' u ys) :
    Calls Try.prog 39 #[v, u] w fun e w' => e = .returned (.bool (decide (xs = ys))) ∧ Ext w w' := by
  obtain ⟨A, cap, rfl, hcap, hlen, hrd, hok⟩ := h
  obtain ⟨A', cap', rfl, hcap', hlen', hrd', hok'⟩ := h'
  have Hrd := Lib.hid hrd
  have Hrd' := Lib.hid hrd'
  have Hok := Lib.hid hok
  have Hok' := Lib.hid hok'
  obtain ⟨R, hR⟩ : ∃ R, decide (xs = ys) = R := ⟨_, rfl⟩
  rw [hR]
  have HR := Lib.hid hR
  clear hrd hok hrd' hok' hR
  by_cases hl : xs.length = ys.length
  · have hl1 : ((xs.length : Int) != (ys.length : Int)) = false := by simp [hl]
    have HL := Lib.hid hl
    go_enter Try.func39, Try.ntmps39
    go_wp2
    go_loopw [5] (fun i wr => ∃ k : Nat, k ≤ xs.length ∧ i = .int .i64 k ∧ xs.take k = ys.take k ∧ Ext w wr) (fun i _ => xs.length - (intOf i).toNat)
    case atStart => exact ⟨0, by omega, rfl, by simp, Ext.refl _⟩
    case round =>
      obtain ⟨k, hk, rfl, ht, hx⟩ := hrel
      have HX := Lib.hid hx
      have HT := Lib.hid ht
      clear hx hl1 ht
      by_cases hlt : k < xs.length
      · have hlt' : k < ys.length := by have := HL.out; omega
        obtain ⟨g, o, rfl, hs, hc⟩ := Hrd.out.elem Hok.out k hlt
        obtain ⟨g2, o2, rfl, hs2, hc2⟩ := Hrd'.out.elem Hok'.out k hlt'
        have ht1 := List.take_succ_eq_append_getElem hlt
        have ht2 := List.take_succ_eq_append_getElem hlt'
        have hx0 : (tNd).ok xs[k] := Hok.out _ (List.getElem_mem hlt)
        have hy0 : (tNd).ok ys[k] := Hok'.out _ (List.getElem_mem hlt')
        have hD : ∀ W, Ext wr W → ∀ j u, ((tNd).enc xs[k])[j]? = some u → W.cell? ⟨g, o + k * 66 + j, none⟩ = some u := fun W hW j u hu => hW.cell (HX.out.cell (hc j u hu))
        have hD2 : ∀ W, Ext wr W → ∀ j u, ((tNd).enc ys[k])[j]? = some u → W.cell? ⟨g2, o2 + k * 66 + j, none⟩ = some u := fun W hW j u hu => hW.cell (HX.out.cell (hc2 j u hu))
        have hNE : xs[k] ≠ ys[k] → xs ≠ ys := fun hne e => hne (by have := congrArg (fun (l : List Nd) => l[k]?) e; simp only [List.getElem?_eq_getElem hlt, List.getElem?_eq_getElem hlt'] at this; exact Option.some.inj this)
        clear hc hc2
        generalize xs[k] = x at ht1 hx0 hD hNE
        generalize ys[k] = y at ht2 hy0 hD2 hNE
        have HD := Lib.hid hD
        have HD2 := Lib.hid hD2
        have HX0 := Lib.hid hx0
        have HY0 := Lib.hid hy0
        have HT1 := Lib.hid ht1
        have HT2 := Lib.hid ht2
        have hi : (0 : Int) ≤ (k : Int) := by omega
        have hi2 : (k : Int) < (xs.length : Int) := by omega
        have hi3 : (k : Int) < (ys.length : Int) := by omega
        have hq := run_neqNdT x y HX0.out HY0.out
        clear hD hD2 hx0 hy0 ht1 ht2
        by_cases hxy : x = y
        · rw [decide_eq_true hxy] at hq
          have HXY := Lib.hid hxy
          clear hxy hNE
          go_wp2_with fail
          refine wp_region_held_drew (S := fun W => Ext wr W) (by kernel_rfl) (Ext.refl _).drew (fun hHeld => ?_)
          refine wpAnyH_take (i := 0) (oi := ?oiz19) (v := ?vz19) ?hiz19 (by kernel_rfl) (by kernel_rfl) (by kernel_rfl) ?hQz19 ?hyz19 (by assumption) ?restz19
          case hiz19 => simp only [List.getElem?_toArray, List.getElem?_cons_zero, List.getElem?_cons_succ]; rfl
          case hQz19 => exact fun _ _ _ h => h
          case hyz19 => exact Or.inl ⟨by rfl, by intro w hSw; (try dsimp only at hSw); go_simp; with_reducible rfl⟩
          try simp only [Act.put, List.setIfInBounds_toArray, List.set_cons_zero, List.set_cons_succ]
          refine wpAnyH_take (i := 1) (oi := ?oiz20) (v := ?vz20) ?hiz20 (by kernel_rfl) (by kernel_rfl) (by kernel_rfl) ?hQz20 ?hyz20 (by assumption) ?restz20
          case hiz20 => simp only [List.getElem?_toArray, List.getElem?_cons_zero, List.getElem?_cons_succ]; rfl
          case hQz20 => exact fun _ _ _ h => h
          case hyz20 => exact Or.inl ⟨by rfl, by intro w hSw; (try dsimp only at hSw); go_simp; with_reducible rfl⟩
          try simp only [Act.put, List.setIfInBounds_toArray, List.set_cons_zero, List.set_cons_succ]
          refine wpAnyH_take (i := 2) (oi := ?oiz21) (v := ?vz21) ?hiz21 (by kernel_rfl) (by kernel_rfl) (by kernel_rfl) ?hQz21 ?hyz21 (by assumption) ?restz21
          case hiz21 => simp only [List.getElem?_toArray, List.getElem?_cons_zero, List.getElem?_cons_succ]; rfl
          case hQz21 => exact fun _ _ _ h => h
          case hyz21 => exact Or.inl ⟨by rfl, by intro w hSw; (try dsimp only at hSw); go_simp; with_reducible rfl⟩
          try simp only [Act.put, List.setIfInBounds_toArray, List.set_cons_zero, List.set_cons_succ]
          refine wpAnyH_take (i := 3) (oi := ?oiz22) (v := (.agg ((tNd).enc x).toArray)) ?hiz22 (by kernel_rfl) (by kernel_rfl) (by kernel_rfl) ?hQz22 ?hyz22 (by assumption) ?restz22
          case hiz22 => simp only [List.getElem?_toArray, List.getElem?_cons_zero, List.getElem?_cons_succ]; rfl
          case hQz22 => exact fun _ _ _ h => h
          case hyz22 => refine yields_loadS g (o + k * 66) ((tNd).enc x) (by rw [(tNd).len _ HX0.out]; exact aggNodeI) (fun W hW => HD.out W hW) ?_ _ rfl rfl; rfl
          try simp only [Act.put, List.setIfInBounds_toArray, List.set_cons_zero, List.set_cons_succ]
          refine wpAnyH_take (i := 4) (oi := ?oiz23) (v := ?vz23) ?hiz23 (by kernel_rfl) (by kernel_rfl) (by kernel_rfl) ?hQz23 ?hyz23 (by assumption) ?restz23
          case hiz23 => simp only [List.getElem?_toArray, List.getElem?_cons_zero, List.getElem?_cons_succ]; rfl
          case hQz23 => exact fun _ _ _ h => h
          case hyz23 => exact Or.inl ⟨by rfl, by intro w hSw; (try dsimp only at hSw); go_simp; with_reducible rfl⟩
          try simp only [Act.put, List.setIfInBounds_toArray, List.set_cons_zero, List.set_cons_succ]
          refine wpAnyH_take (i := 5) (oi := ?oiz24) (v := ?vz24) ?hiz24 (by kernel_rfl) (by kernel_rfl) (by kernel_rfl) ?hQz24 ?hyz24 (by assumption) ?restz24
          case hiz24 => simp only [List.getElem?_toArray, List.getElem?_cons_zero, List.getElem?_cons_succ]; rfl
          case hQz24 => exact fun _ _ _ h => h
          case hyz24 => exact Or.inl ⟨by rfl, by intro w hSw; (try dsimp only at hSw); go_simp; with_reducible rfl⟩
          try simp only [Act.put, List.setIfInBounds_toArray, List.set_cons_zero, List.set_cons_succ]
          refine wpAnyH_take (i := 6) (oi := ?oiz25) (v := ?vz25) ?hiz25 (by kernel_rfl) (by kernel_rfl) (by kernel_rfl) ?hQz25 ?hyz25 (by assumption) ?restz25
          case hiz25 => simp only [List.getElem?_toArray, List.getElem?_cons_zero, List.getElem?_cons_succ]; rfl
          case hQz25 => exact fun _ _ _ h => h
          case hyz25 => exact Or.inl ⟨by rfl, by intro w hSw; (try dsimp only at hSw); go_simp; with_reducible rfl⟩
          try simp only [Act.put, List.setIfInBounds_toArray, List.set_cons_zero, List.set_cons_succ]
          refine wpAnyH_take (i := 7) (oi := ?oiz26) (v := (.agg ((tNd).enc y).toArray)) ?hiz26 (by kernel_rfl) (by kernel_rfl) (by kernel_rfl) ?hQz26 ?hyz26 (by assumption) ?restz26
          case hiz26 => simp only [List.getElem?_toArray, List.getElem?_cons_zero, List.getElem?_cons_succ]; rfl
          case hQz26 => exact fun _ _ _ h => h
          case hyz26 => refine yields_loadS g2 (o2 + k * 66) ((tNd).enc y) (by rw [(tNd).len _ HY0.out]; exact aggNodeI) (fun W hW => HD2.out W hW) ?_ _ rfl rfl; rfl
          try simp only [Act.put, List.setIfInBounds_toArray, List.set_cons_zero, List.set_cons_succ]
          refine wpAnyH_take (i := 8) (oi := ?oiz27) (v := ?vz27) ?hiz27 (by kernel_rfl) (by kernel_rfl) (by kernel_rfl) ?hQz27 ?hyz27 (by assumption) ?restz27
          case hiz27 => simp only [List.getElem?_toArray, List.getElem?_cons_zero, List.getElem?_cons_succ]; rfl
          case hQz27 => exact fun _ _ _ h => h
          case hyz27 => exact Or.inl ⟨by rfl, by intro w hSw; (try dsimp only at hSw); go_simp; with_reducible rfl⟩
          try simp only [Act.put, List.setIfInBounds_toArray, List.set_cons_zero, List.set_cons_succ]
          refine wpAnyH_done (by kernel_rfl) ?_ _
          have HX1 := Lib.hid (HX.out.trans hHeld)
          clear hHeld
          go_wp2
          go_roundw
          case rel => exact ⟨k + 1, by omega, by go_num, by rw [HT1.out, HT2.out, HT.out, HXY.out], HX1.out⟩
          case measure => simp [intOf]; omega
        · rw [decide_eq_false hxy] at hq
          have HNE := Lib.hid (hNE hxy)
          clear hxy hNE
          go_wp2_with fail
          refine wp_region_held_drew (S := fun W => Ext wr W) (by kernel_rfl) (Ext.refl _).drew (fun hHeld => ?_)
          refine wpAnyH_take (i := 0) (oi := ?oiz28) (v := ?vz28) ?hiz28 (by kernel_rfl) (by kernel_rfl) (by kernel_rfl) ?hQz28 ?hyz28 (by assumption) ?restz28
          case hiz28 => simp only [List.getElem?_toArray, List.getElem?_cons_zero, List.getElem?_cons_succ]; rfl
          case hQz28 => exact fun _ _ _ h => h
          case hyz28 => exact Or.inl ⟨by rfl, by intro w hSw; (try dsimp only at hSw); go_simp; with_reducible rfl⟩
          try simp only [Act.put, List.setIfInBounds_toArray, List.set_cons_zero, List.set_cons_succ]
          refine wpAnyH_take (i := 1) (oi := ?oiz29) (v := ?vz29) ?hiz29 (by kernel_rfl) (by kernel_rfl) (by kernel_rfl) ?hQz29 ?hyz29 (by assumption) ?restz29
          case hiz29 => simp only [List.getElem?_toArray, List.getElem?_cons_zero, List.getElem?_cons_succ]; rfl
          case hQz29 => exact fun _ _ _ h => h
          case hyz29 => exact Or.inl ⟨by rfl, by intro w hSw; (try dsimp only at hSw); go_simp; with_reducible rfl⟩
          try simp only [Act.put, List.setIfInBounds_toArray, List.set_cons_zero, List.set_cons_succ]
          refine wpAnyH_take (i := 2) (oi := ?oiz30) (v := ?vz30) ?hiz30 (by kernel_rfl) (by kernel_rfl) (by kernel_rfl) ?hQz30 ?hyz30 (by assumption) ?restz30
          case hiz30 => simp only [List.getElem?_toArray, List.getElem?_cons_zero, List.getElem?_cons_succ]; rfl
          case hQz30 => exact fun _ _ _ h => h
          case hyz30 => exact Or.inl ⟨by rfl, by intro w hSw; (try dsimp only at hSw); go_simp; with_reducible rfl⟩
          try simp only [Act.put, List.setIfInBounds_toArray, List.set_cons_zero, List.set_cons_succ]
          refine wpAnyH_take (i := 3) (oi := ?oiz31) (v := (.agg ((tNd).enc x).toArray)) ?hiz31 (by kernel_rfl) (by kernel_rfl) (by kernel_rfl) ?hQz31 ?hyz31 (by assumption) ?restz31
          case hiz31 => simp only [List.getElem?_toArray, List.getElem?_cons_zero, List.getElem?_cons_succ]; rfl
          case hQz31 => exact fun _ _ _ h => h
          case hyz31 => refine yields_loadS g (o + k * 66) ((tNd).enc x) (by rw [(tNd).len _ HX0.out]; exact aggNodeI) (fun W hW => HD.out W hW) ?_ _ rfl rfl; rfl
          try simp only [Act.put, List.setIfInBounds_toArray, List.set_cons_zero, List.set_cons_succ]
          refine wpAnyH_take (i := 4) (oi := ?oiz32) (v := ?vz32) ?hiz32 (by kernel_rfl) (by kernel_rfl) (by kernel_rfl) ?hQz32 ?hyz32 (by assumption) ?restz32
          case hiz32 => simp only [List.getElem?_toArray, List.getElem?_cons_zero, List.getElem?_cons_succ]; rfl
          case hQz32 => exact fun _ _ _ h => h
          case hyz32 => exact Or.inl ⟨by rfl, by intro w hSw; (try dsimp only at hSw); go_simp; with_reducible rfl⟩
          try simp only [Act.put, List.setIfInBounds_toArray, List.set_cons_zero, List.set_cons_succ]
          refine wpAnyH_take (i := 5) (oi := ?oiz33) (v := ?vz33) ?hiz33 (by kernel_rfl) (by kernel_rfl) (by kernel_rfl) ?hQz33 ?hyz33 (by assumption) ?restz33
          case hiz33 => simp only [List.getElem?_toArray, List.getElem?_cons_zero, List.getElem?_cons_succ]; rfl
          case hQz33 => exact fun _ _ _ h => h
          case hyz33 => exact Or.inl ⟨by rfl, by intro w hSw; (try dsimp only at hSw); go_simp; with_reducible rfl⟩
          try simp only [Act.put, List.setIfInBounds_toArray, List.set_cons_zero, List.set_cons_succ]
          refine wpAnyH_take (i := 6) (oi := ?oiz34) (v := ?vz34) ?hiz34 (by kernel_rfl) (by kernel_rfl) (by kernel_rfl) ?hQz34 ?hyz34 (by assumption) ?restz34
          case hiz34 => simp only [List.getElem?_toArray, List.getElem?_cons_zero, List.getElem?_cons_succ]; rfl
          case hQz34 => exact fun _ _ _ h => h
          case hyz34 => exact Or.inl ⟨by rfl, by intro w hSw; (try dsimp only at hSw); go_simp; with_reducible rfl⟩
          try simp only [Act.put, List.setIfInBounds_toArray, List.set_cons_zero, List.set_cons_succ]
          refine wpAnyH_take (i := 7) (oi := ?oiz35) (v := (.agg ((tNd).enc y).toArray)) ?hiz35 (by kernel_rfl) (by kernel_rfl) (by kernel_rfl) ?hQz35 ?hyz35 (by assumption) ?restz35
          case hiz35 => simp only [List.getElem?_toArray, List.getElem?_cons_zero, List.getElem?_cons_succ]; rfl
          case hQz35 => exact fun _ _ _ h => h
          case hyz35 => refine yields_loadS g2 (o2 + k * 66) ((tNd).enc y) (by rw [(tNd).len _ HY0.out]; exact aggNodeI) (fun W hW => HD2.out W hW) ?_ _ rfl rfl; rfl
          try simp only [Act.put, List.setIfInBounds_toArray, List.set_cons_zero, List.set_cons_succ]
          refine wpAnyH_take (i := 8) (oi := ?oiz36) (v := ?vz36) ?hiz36 (by kernel_rfl) (by kernel_rfl) (by kernel_rfl) ?hQz36 ?hyz36 (by assumption) ?restz36
          case hiz36 => simp only [List.getElem?_toArray, List.getElem?_cons_zero, List.getElem?_cons_succ]; rfl
          case hQz36 => exact fun _ _ _ h => h
          case hyz36 => exact Or.inl ⟨by rfl, by intro w hSw; (try dsimp only at hSw); go_simp; with_reducible rfl⟩
          try simp only [Act.put, List.setIfInBounds_toArray, List.set_cons_zero, List.set_cons_succ]
          refine wpAnyH_done (by kernel_rfl) ?_ _
          have HX1 := Lib.hid (HX.out.trans hHeld)
          clear hHeld
          go_wp2
          go_ret
          exact ⟨by rw [← HR.out, decide_eq_false HNE.out]; rfl, HX1.out⟩
      · obtain rfl : k = xs.length := by omega
        have he := HT.out
        rw [List.take_length, HL.out, List.take_length] at he
        have HE := Lib.hid he
        clear he
        go_wp2
        go_ret
        exact ⟨by rw [← HR.out, decide_eq_true HE.out]; rfl, HX.out⟩
  · have hl1 : ((xs.length : Int) != (ys.length : Int)) = true := by rw [bne_iff_ne]; omega
    go_enter Try.func39, Try.ntmps39
    go_wp2
    go_ret
    exact ⟨by rw [← HR.out, decide_eq_false (fun e => hl (by rw [e]))]; rfl, Ext.refl _⟩
end Go.Proofs.Ytmndkbheehcoaaa
/- The nodes of a map, as they are asked for. No condition. -/
namespace Go.Proofs.Ytmndkbheehcoaaa
open Go.RowKit
set_option linter.unusedVariables false
set_option linter.unusedSimpArgs false

/-- the nodes of a map, and the code -/
def nodR (L : List En) : List Nd × Int := if okE L then ((trF L.length L).all, 0) else ([], 1)
theorem nodR_len (L : List En) : (nodR L).1.length ≤ 64 := by
  unfold nodR
  split
  · rename_i h
    exact Nat.le_trans (trF_len _ _) (okE_incs' h).2
  · exact Nat.zero_le _
set_option maxHeartbeats 1000000 in
set_option maxRecDepth 100000 in
theorem specNodesOfMap_any (v : Value) (L : List En) (w : World) (S : Nat → Prop) (h : RdL tEnt w S v L) :
    Calls Try.prog 37 #[v] w fun e w' => ∃ v', e = .returned (.tuple #[v', .int .i64 (nodR L).2]) ∧ Own tNd 31 w' w.heap.size v' (nodR L).1 ∧ Ext w w' := by
  have H := Lib.hid h
  have hokL := h.choose_spec.choose_spec.2.2.2.2
  have hc := l04Ok_any v L w S h
  have hp := fun (hb : okE L = true) W hW => l04Nodes_any L.length v L (Nat.le_refl _) (okE_incs' hb).2 (good_of hb hokL) W S hW
  obtain ⟨A, cap, rfl, hcap, hlen, _⟩ := h
  cases hb : okE L with
  | false =>
    simp only [nodR, hb, Bool.false_eq_true, if_false]
    simp only [hb] at hc
    clear hb hp
    go_enter Try.func37, Try.ntmps37
    go_wp2_with fail
    refine hc.mono ?_
    rintro e w1 ⟨rfl, hx⟩
    have HX := Lib.hid hx
    clear hx
    go_wp2
    go_ret2
    exact ⟨_, rfl, Own.empty tNd _ 31 _ HX.out.size, HX.out.alloc _⟩
  | true =>
    simp only [hb] at hc
    replace hp := hp hb
    simp only [nodR, hb, if_true]
    have HKK := Lib.hid (trF L.length L).key_ok.1
    clear hb
    go_enter Try.func37, Try.ntmps37
    go_wp2_with fail
    refine hc.mono ?_
    rintro e w1 ⟨rfl, hx⟩
    have HX := Lib.hid hx
    clear hx
    go_wp2_with fail
    refine (hp _ (H.out.ext (by decide) HX.out)).mono ?_
    rintro e w2 ⟨v2, rfl, ho, hx⟩
    have HO := Lib.hid (ho.le (base' := w.heap.size) HX.out.size)
    have HX2 := Lib.hid (HX.out.trans hx)
    obtain ⟨A2, n2, c2, rfl⟩ := ho.shape3
    clear ho hx
    go_wp2_with (refine wpl_storeNew aggKey HKK.out rfl rfl _ _ rfl rfl rfl rfl ?_)
    go_ret2
    exact ⟨_, rfl, HO.out.alloc _, HX2.out.alloc _⟩
set_option maxHeartbeats 1000000 in
set_option maxRecDepth 100000 in
theorem implNodesOfMap_any (v : Value) (L : List En) (w : World) (S : Nat → Prop) (h : RdL tEnt w S v L) :
    Calls Try.prog 36 #[v] w fun e w' => ∃ v', e = .returned (.tuple #[v', .int .i64 (nodR L).2]) ∧ Own tNd 31 w' w.heap.size v' (nodR L).1 ∧ Ext w w' := by
  have H := Lib.hid h
  have hokL := h.choose_spec.choose_spec.2.2.2.2
  have hc := validEntries_any v L w S h
  have hp := fun (hb : okE L = true) W hW => allNodes_any v L (okE_incs' hb).2 (good_of hb hokL) W S hW
  obtain ⟨A, cap, rfl, hcap, hlen, _⟩ := h
  cases hb : okE L with
  | false =>
    simp only [nodR, hb, Bool.false_eq_true, if_false]
    simp only [hb] at hc
    clear hb hp
    go_enter Try.func36, Try.ntmps36
    go_wp2_with fail
    refine hc.mono ?_
    rintro e w1 ⟨rfl, hx⟩
    have HX := Lib.hid hx
    clear hx
    go_wp2
    go_ret2
    exact ⟨_, rfl, Own.nil _ _ _ _, HX.out⟩
  | true =>
    simp only [hb] at hc
    replace hp := hp hb
    simp only [nodR, hb, if_true]
    have HKK := Lib.hid (trF L.length L).key_ok.1
    clear hb
    go_enter Try.func36, Try.ntmps36
    go_wp2_with fail
    refine hc.mono ?_
    rintro e w1 ⟨rfl, hx⟩
    have HX := Lib.hid hx
    clear hx
    go_wp2_with fail
    refine (hp _ (H.out.ext (by decide) HX.out)).mono ?_
    rintro e w2 ⟨v2, rfl, ho, hx⟩
    have HO := Lib.hid (ho.le (base' := w.heap.size) HX.out.size)
    have HX2 := Lib.hid (HX.out.trans hx)
    obtain ⟨A2, n2, c2, rfl⟩ := ho.shape3
    clear ho hx
    go_wp2
    go_ret2
    exact ⟨_, rfl, HO.out, HX2.out⟩
end Go.Proofs.Ytmndkbheehcoaaa
/- How deep a name lies. No condition. -/
namespace Go.Proofs.Ytmndkbheehcoaaa
open Go.RowKit
set_option linter.unusedVariables false
set_option linter.unusedSimpArgs false

/-- how deep a name lies, and the code -/
def depR (L : List En) (s : ByteArray) : Int × Int := if okE L && nameB s then (if hasE L s then ((((trF L.length L).sel (fun o => ltB s o) (fun o => ltB o s)).length : Nat), 0) else (0, 6)) else (0, 1)
theorem sizeNd_any (A : Option Addr) (n c : Nat) (w : World) : Calls Try.prog 107 #[.slice A n c] w fun e w' => e = .returned (.int .i64 n) ∧ w = w' := by
  go_enter Try.func107, Try.ntmps107
  go_wp2
  go_ret
  exact ⟨rfl, rfl⟩
set_option maxHeartbeats 1000000 in
set_option maxRecDepth 100000 in
theorem implDepth_any (v : Value) (L : List En) (s : ByteArray) (hsz : s.size ≤ 140737488351232) (w : World) (S : Nat → Prop) (h : RdL tEnt w S v L) :
    Calls Try.prog 46 #[v, .string s] w fun e w' => e = .returned (.tuple #[.int .i64 (depR L s).1, .int .i64 (depR L s).2]) ∧ Ext w w' := by
  have H := Lib.hid h
  have hokL := h.choose_spec.choose_spec.2.2.2.2
  have hg := implGetEntry_any v L s hsz w S h
  have hp := fun (hb : okE L = true) W hW => path_any v L s (okE_incs' hb).2 (good_of hb hokL) W S hW
  obtain ⟨A, cap, rfl, hcap, hlen, _⟩ := h
  cases hb : (okE L && nameB s && hasE L s) with
  | false =>
    obtain ⟨c, hc0, e1, e2⟩ : ∃ c : Int, (c != 0) = true ∧ depR L s = (0, c) ∧ (getR L s).2 = c := by
      cases h1 : (okE L && nameB s) with
      | false => exact ⟨1, rfl, by rw [depR, h1]; rfl, by rw [getR, h1]; rfl⟩
      | true =>
        rw [h1, Bool.true_and] at hb
        exact ⟨6, rfl, by rw [depR, h1, hb]; rfl, by rw [getR, h1, hb]; rfl⟩
    rw [e1]
    simp only [e2] at hg
    clear e1 e2 hb hp
    go_enter Try.func46, Try.ntmps46
    go_wp2_with fail
    refine hg.mono ?_
    rintro e w1 ⟨rfl, hx⟩
    have HX := Lib.hid hx
    clear hx
    go_wp2
    go_ret2
    exact ⟨rfl, HX.out⟩
  | true =>
    simp only [Bool.and_eq_true] at hb
    obtain ⟨⟨h1, h2⟩, h3⟩ := hb
    replace hp := hp h1
    obtain ⟨R, hR⟩ : ∃ R, (trF L.length L).sel (fun o => ltB s o) (fun o => ltB o s) = R := ⟨_, rfl⟩
    simp only [hR] at hp
    have e1 : depR L s = (((R.length : Nat) : Int), 0) := by rw [depR, h1, h2, h3, hR]; rfl
    have e2 : (getR L s).2 = 0 := by rw [getR, h1, h2, h3]; rfl
    rw [e1]
    simp only [e2] at hg
    clear e1 e2 h1 h2 h3 hR
    go_enter Try.func46, Try.ntmps46
    go_wp2_with fail
    refine hg.mono ?_
    rintro e w1 ⟨rfl, hx⟩
    have HX := Lib.hid hx
    clear hx
    go_wp2_with fail
    refine (hp _ (H.out.ext (by decide) HX.out)).mono ?_
    rintro e w2 ⟨v2, rfl, ho, hx⟩
    have HX2 := Lib.hid (HX.out.trans hx)
    obtain ⟨A2, c2, rfl⟩ := ho.shape
    clear ho hx hg hp
    go_wp2_with fail
    refine (sizeNd_any _ _ _ _).mono ?_
    rintro e w' ⟨rfl, rfl⟩
    go_wp2
    go_ret2
    exact ⟨rfl, HX2.out⟩
end Go.Proofs.Ytmndkbheehcoaaa
/- What a map's tree is like: each entry once, names in order, priorities that fall: plainly. No condition. -/
namespace Go.Proofs.Ytmndkbheehcoaaa
open Go.RowKit
set_option linter.unusedVariables false
set_option linter.unusedSimpArgs false

/-! the order of keys -/
theorem cmpL_nil (b : List Int) : cmpL [] b = 0 := by rw [cmpL]; intro x a y b' h; cases h
theorem cmpL_nil' (a : List Int) : cmpL a [] = 0 := by rw [cmpL]; intro x a' y b' _ h; cases h
theorem cmpL_cons (x y : Int) (a b : List Int) : cmpL (x :: a) (y :: b) = if x = y then cmpL a b else if x < y then -1 else 1 := by rw [cmpL]
theorem cmpL_neg (a : List Int) : ∀ b : List Int, cmpL b a = - cmpL a b := by
  induction a with
  | nil => intro b; rw [cmpL_nil, cmpL_nil']; rfl
  | cons x r ih =>
    intro b
    cases b with
    | nil => rw [cmpL_nil, cmpL_nil']; rfl
    | cons y s =>
      rw [cmpL_cons, cmpL_cons]
      by_cases h : x = y
      · rw [if_pos h, if_pos h.symm, ih]
      · rw [if_neg h, if_neg (Ne.symm h)]
        by_cases h2 : x < y
        · rw [if_pos h2, if_neg (by omega)]; rfl
        · rw [if_neg h2, if_pos (by omega)]
theorem cmpL_trans (a : List Int) : ∀ b c : List Int, a.length = b.length → b.length = c.length → cmpL a b ≤ 0 → cmpL b c ≤ 0 → cmpL a c ≤ 0 := by
  induction a with
  | nil => intro b c _ _ _ _; rw [cmpL_nil]; decide
  | cons x r ih =>
    intro b c h1 h2 h3 h4
    match b, c, h1, h2 with
    | y :: s, z :: t, h1, h2 =>
      rw [cmpL_cons] at h3 h4 ⊢
      by_cases e1 : x = y
      · rw [if_pos e1] at h3
        subst e1
        by_cases e2 : x = z
        · rw [if_pos e2] at h4 ⊢
          exact ih s t (by simpa using h1) (by simpa using h2) h3 h4
        · rw [if_neg e2] at h4 ⊢
          exact h4
      · rw [if_neg e1] at h3
        have hxy : x < y := by
          by_cases q : x < y
          · exact q
          · rw [if_neg q] at h3; omega
        by_cases e2 : y = z
        · subst e2
          rw [if_neg e1, if_pos hxy]; decide
        · rw [if_neg e2] at h4
          have hyz : y < z := by
            by_cases q : y < z
            · exact q
            · rw [if_neg q] at h4; omega
          rw [if_neg (by omega), if_pos (by omega)]; decide
theorem topI_max (ps : List (List Int)) (hps : ∀ p ∈ ps, p.length = 32) (k : Nat) : k ≤ ps.length → ∀ i, i < k → cmpL (gK ps i) (gK ps (topI ps k)) ≤ 0 := by
  have hl : ∀ i, i < ps.length → (gK ps i).length = 32 := fun i hi => by rw [gK_lt hi]; exact hps _ (List.getElem_mem hi)
  induction k with
  | zero => intro _ i hi; omega
  | succ k ih =>
    intro hk i hi
    have ht : topI ps k < ps.length := by
      rcases Nat.eq_zero_or_pos k with h0 | h0
      · subst h0; rw [topI_zero]; omega
      · have := topI_lt ps k h0; omega
    rw [topI_succ]
    by_cases hc : 0 < cmpL (gK ps k) (gK ps (topI ps k))
    · rw [if_pos hc]
      by_cases e : i = k
      · subst e; rw [cmpL_self]; decide
      · have h1 := ih (by omega) i (by omega)
        refine cmpL_trans _ (gK ps (topI ps k)) _ (by rw [hl i (by omega), hl _ ht]) (by rw [hl _ ht, hl k (by omega)]) h1 ?_
        have := cmpL_neg (gK ps (topI ps k)) (gK ps k)
        omega
    · rw [if_neg hc]
      by_cases e : i = k
      · subst e; omega
      · exact ih (by omega) i (by omega)
theorem topE_max (L : List En) (i : Nat) (hi : i < L.length) : cmpL (prioL (gE L i).1) (prioL (gE L (topE L)).1) ≤ 0 := by
  have h := topI_max (prios L) (fun p hp => (prios_ok L p hp).1) L.length (by rw [prios_length]; exact Nat.le_refl _) i hi
  have ht := topE_lt (L := L) (by omega)
  rw [gE_lt hi, gE_lt ht]
  rw [prios_at L i hi] at h
  have h2 : gK (prios L) (topI (prios L) L.length) = prioL L[topE L].1 := prios_at L (topE L) ht
  rw [h2] at h
  exact h
/-! the entries of a tree, from the left to the right -/
def Tr.ino : Tr → List En
  | .leaf => []
  | .node x l r => l.ino ++ (x.n, x.v) :: r.ino
theorem trF_ino (f : Nat) : ∀ (L : List En), L.length ≤ f → (trF f L).ino = L := by
  induction f with
  | zero =>
    intro L h
    obtain rfl : L = [] := List.eq_nil_of_length_eq_zero (by omega)
    rw [trF_zero]; rfl
  | succ f ih =>
    intro L h
    by_cases h0 : L.length = 0
    · obtain rfl : L = [] := List.eq_nil_of_length_eq_zero h0
      rw [trF_nil _ _ h0]; rfl
    · have ht := topE_lt (L := L) (by omega)
      rw [trF_cons _ _ h0]
      simp only [Tr.ino]
      rw [ih _ (by rw [List.length_take]; omega), ih _ (by rw [List.length_drop]; omega), gE_lt ht]
      rw [← List.drop_eq_getElem_cons ht, List.take_append_drop]
theorem Tr.all_len (T : Tr) : T.all.length = T.ino.length := by
  induction T with
  | leaf => rfl
  | node x l r il ir => simp only [Tr.all, Tr.ino, List.length_cons, List.length_append, il, ir]; omega
theorem Tr.all_ino (T : Tr) : ∀ x ∈ T.all, (x.n, x.v) ∈ T.ino := by
  induction T with
  | leaf => intro x hx; simp [Tr.all] at hx
  | node y l r il ir =>
    intro x hx
    simp only [Tr.all, List.mem_cons, List.mem_append] at hx
    simp only [Tr.ino, List.mem_append, List.mem_cons]
    rcases hx with rfl | hx | hx
    · exact .inr (.inl rfl)
    · exact .inl (il x hx)
    · exact .inr (.inr (ir x hx))
/-- no node stands above one of a greater priority -/
def Tr.heap : Tr → Prop
  | .leaf => True
  | .node x l r => (∀ e ∈ l.ino ++ r.ino, cmpL (prioL e.1) (prioL x.n) ≤ 0) ∧ l.heap ∧ r.heap
theorem trF_heap (f : Nat) : ∀ (L : List En), L.length ≤ f → (trF f L).heap := by
  induction f with
  | zero => intro L h; rw [trF_zero]; trivial
  | succ f ih =>
    intro L h
    by_cases h0 : L.length = 0
    · rw [trF_nil _ _ h0]; trivial
    · have ht := topE_lt (L := L) (by omega)
      rw [trF_cons _ _ h0]
      refine ⟨fun e he => ?_, ih _ (by rw [List.length_take]; omega), ih _ (by rw [List.length_drop]; omega)⟩
      rw [trF_ino _ _ (by rw [List.length_take]; omega), trF_ino _ _ (by rw [List.length_drop]; omega), List.mem_append] at he
      have hm : e ∈ L := by
        rcases he with he | he
        · exact List.mem_of_mem_take he
        · exact List.mem_of_mem_drop he
      obtain ⟨i, hi, rfl⟩ := List.getElem_of_mem hm
      have := topE_max L i hi
      rwa [gE_lt hi] at this
theorem Tr.heap_top {x : Nd} {l r : Tr} (h : (Tr.node x l r).heap) : ∀ y ∈ (Tr.node x l r).all, cmpL (prioL y.n) (prioL x.n) ≤ 0 := by
  intro y hy
  simp only [Tr.all, List.mem_cons, List.mem_append] at hy
  rcases hy with rfl | hy | hy
  · rw [cmpL_self]; decide
  · exact h.1 _ (List.mem_append.2 (.inl (l.all_ino y hy)))
  · exact h.1 _ (List.mem_append.2 (.inr (r.all_ino y hy)))
/-- priorities fall along a list of nodes -/
def falls : List Nd → Prop
  | x :: y :: r => cmpL (prioL y.n) (prioL x.n) ≤ 0 ∧ falls (y :: r)
  | _ => True
theorem falls_cons {x : Nd} {M : List Nd} (h : falls M) (hx : ∀ y ∈ M, cmpL (prioL y.n) (prioL x.n) ≤ 0) : falls (x :: M) := by
  cases M with
  | nil => trivial
  | cons y r => exact ⟨hx y (by simp), h⟩
theorem falls_at {M : List Nd} (h : falls M) (i : Nat) (hi : i + 1 < M.length) : cmpL (prioL M[i + 1].n) (prioL M[i].n) ≤ 0 := by
  induction M generalizing i with
  | nil => simp at hi
  | cons x r ih =>
    match r, h, i, hi, ih with
    | y :: s, h, 0, hi, _ => exact h.1
    | y :: s, h, i + 1, hi, ih => exact ih h.2 i (by simpa using hi)
theorem way_falls (s : ByteArray) (T : Tr) (h : T.heap) : falls (T.way s) := by
  induction T with
  | leaf => trivial
  | node x l r il ir =>
    rw [Tr.way_node]
    cases h1 : ltB s x.n with
    | true =>
      simp only [ltB_asymm h1, Bool.false_eq_true, if_false, if_true, List.append_nil]
      exact falls_cons (il h.2.1) fun y hy => h.1 _ (List.mem_append.2 (.inl (l.all_ino y (Tr.sel_sub _ _ _ y hy))))
    | false =>
      simp only [Bool.false_eq_true, if_false, List.nil_append]
      cases h2 : ltB x.n s with
      | true =>
        simp only [if_true]
        exact falls_cons (ir h.2.2) fun y hy => h.1 _ (List.mem_append.2 (.inr (r.all_ino y (Tr.sel_sub _ _ _ y hy))))
      | false =>
        simp only [Bool.false_eq_true, if_false]
        trivial
/-- how deep the names of a tree lie -/
theorem way_pos (s : ByteArray) (x : Nd) (l r : Tr) : 1 ≤ ((Tr.node x l r).way s).length := by rw [Tr.way_node, List.length_cons]; omega
theorem way_pos' (s : ByteArray) (T : Tr) (h : T.all ≠ []) : 1 ≤ (T.way s).length := by
  cases T with
  | leaf => exact absurd rfl h
  | node x l r => exact way_pos s x l r
theorem way_top (x : Nd) (l r : Tr) : ((Tr.node x l r).way x.n).length = 1 := by
  rw [Tr.way_node, ltB_irrefl]; rfl
theorem way_low (x : Nd) (l r : Tr) (hp : (Tr.node x l r).ino.Pairwise ltE) (y : Nd) (hy : y ∈ l.all ++ r.all) : 2 ≤ ((Tr.node x l r).way y.n).length := by
  simp only [Tr.ino] at hp
  rw [List.pairwise_append] at hp
  obtain ⟨_, hr, hlr⟩ := hp
  rw [List.pairwise_cons] at hr
  rw [Tr.way_node]
  rcases List.mem_append.1 hy with hy | hy
  · have h1 : ltB y.n x.n = true := hlr _ (l.all_ino y hy) (x.n, x.v) (by simp)
    rw [h1, ltB_asymm h1]
    have := way_pos' y.n l (fun e => by rw [e] at hy; cases hy)
    simp only [if_true, Bool.false_eq_true, if_false, List.append_nil, List.length_cons]
    omega
  · have h1 : ltB x.n y.n = true := hr.1 _ (r.all_ino y hy)
    rw [h1, ltB_asymm h1]
    have := way_pos' y.n r (fun e => by rw [e] at hy; cases hy)
    simp only [if_true, Bool.false_eq_true, if_false, List.nil_append, List.length_cons]
    omega
/-- what is asked of the tree of a map -/
theorem tree_facts {L : List En} (h : okE L = true) (hok : ∀ e ∈ L, tEnt.ok e) : ∃ T, trF L.length L = T ∧ T.all.length = L.length ∧ (∀ x ∈ T.all, x.ok ∧ entB x.n x.v = true ∧ nameB x.n = true ∧ hasE L x.n = true) ∧ T.ino = L ∧ T.heap := by
  have hi := trF_ino L.length L (Nat.le_refl _)
  have hh := trF_heap L.length L (Nat.le_refl _)
  have ho := (trF L.length L).all_ok (trF_ok _ _ (good_of h hok))
  refine ⟨_, rfl, by rw [Tr.all_len, hi], fun x hx => ?_, hi, hh⟩
  have h1 := ho x hx
  have h2 := (trF L.length L).all_ino x hx
  rw [hi] at h2
  obtain ⟨i, hil, he⟩ := List.getElem_of_mem h2
  have hp := posE_hit (okE_incs h).1 i hil (s := x.n) (by rw [gE_lt hil, he])
  refine ⟨h1.1, h1.2, ?_, ?_⟩
  · have h3 := h1.2
    rw [entB_eq, Bool.and_eq_true] at h3
    exact h3.1
  · rw [hasE_eq, hp, decide_eq_true]
    exact ⟨hil, by rw [gE_lt hil, he]⟩
theorem depth_facts {L : List En} (h : okE L = true) (hok : ∀ e ∈ L, tEnt.ok e) {x : Nd} {l r : Tr} (hT : trF L.length L = .node x l r) (i : Nat) (hi : i < (Tr.node x l r).all.length) :
    ∃ d : Int, depR L (Tr.node x l r).all[i].n = (d, 0) ∧ 1 ≤ d ∧ d ≤ L.length ∧ decide (d = 1) = decide (i = 0) := by
  obtain ⟨T, hT2, hl, hall, hino, hheap⟩ := tree_facts h hok
  rw [hT] at hT2
  subst hT2
  have hx := hall _ (List.getElem_mem hi)
  refine ⟨(((Tr.node x l r).way (Tr.node x l r).all[i].n).length : Nat), ?_, ?_, ?_, ?_⟩
  · rw [depR, h, hx.2.2.1, hx.2.2.2, hT]; rfl
  · have := way_pos (Tr.node x l r).all[i].n x l r
    omega
  · have h1 : ((Tr.node x l r).way (Tr.node x l r).all[i].n).length ≤ (Tr.node x l r).all.length := Tr.sel_le _ _ _
    omega
  · cases i with
    | zero =>
      have h2 : (Tr.node x l r).all[0] = x := rfl
      rw [h2, way_top]; rfl
    | succ i =>
      have h2 : (Tr.node x l r).all[i + 1] ∈ l.all ++ r.all := by
        have h3 : (Tr.node x l r).all[i + 1] = (l.all ++ r.all)[i]'(by simpa [Tr.all] using hi) := rfl
        rw [h3]; exact List.getElem_mem _
      have h4 := way_low x l r (by rw [hino]; exact (incs_pair.1 (okE_incs h).1).2) _ h2
      rw [decide_eq_false (by omega), decide_eq_false (by omega)]
theorem Tr.key_nil {T : Tr} (h : T.all.length = 0) : T.key = emptyL := by
  cases T with
  | leaf => rfl
  | node x l r => simp [Tr.all] at h
theorem Tr.node_of {T : Tr} (h : 0 < T.all.length) : ∃ x l r, T = .node x l r := by
  cases T with
  | leaf => simp [Tr.all] at h
  | node x l r => exact ⟨x, l, r, rfl⟩
theorem prio_size {s : ByteArray} (h : prioR s = (prioL s, 0)) : s.size ≤ 24 := by
  unfold prioR at h
  cases hn : nameB s with
  | false => rw [hn] at h; injection h with h1 h2; cases h2
  | true => rw [nameB_eq] at hn; simp at hn; omega
/-- the i-th node: how deep it lies, and its priority -/
theorem node_facts {L : List En} (h : okE L = true) (hok : ∀ e ∈ L, tEnt.ok e) {T : Tr} (hT : trF L.length L = T) {x : Nd} {l r : Tr} (hx : T = .node x l r) {NL : List Nd} (hN : T.all = NL) (i : Nat) (hi : i < NL.length) :
    NL[i].ok ∧ entB NL[i].n NL[i].v = true ∧ prioR NL[i].n = (prioL NL[i].n, 0) ∧ nodeKR NL[i] = (hashL 5 (nodeL NL[i]), 0) ∧ cmpL (prioL NL[i].n) (prioL x.n) ≤ 0 ∧ ∃ d : Int, depR L NL[i].n = (d, 0) ∧ 1 ≤ d ∧ d ≤ L.length ∧ decide (d = 1) = decide (i = 0) := by
  subst hN
  obtain ⟨T', hT', hl, hall, hino, hheap⟩ := tree_facts h hok
  rw [hT] at hT'
  subst hT'
  have h1 := hall _ (List.getElem_mem hi)
  have hd := depth_facts h hok (hT.trans hx) i (by rw [← hx]; exact hi)
  subst hx
  refine ⟨h1.1, h1.2.1, by rw [prioR, h1.2.2.1]; rfl, by rw [nodeKR, h1.2.1]; rfl, Tr.heap_top hheap _ (List.getElem_mem hi), hd⟩
theorem way_facts {L : List En} (h : okE L = true) (hok : ∀ e ∈ L, tEnt.ok e) {T : Tr} (hT : trF L.length L = T) (hne : 0 < T.all.length) {s : ByteArray} (hs : nameB s = true) {PL : List Nd} (hP : T.way s = PL) :
    provR L s = (PL, 0) ∧ 1 ≤ PL.length ∧ PL.length ≤ L.length ∧ ∀ i (hi : i + 1 < PL.length), PL[i].ok ∧ PL[i + 1].ok ∧ prioR PL[i].n = (prioL PL[i].n, 0) ∧ prioR PL[i + 1].n = (prioL PL[i + 1].n, 0) ∧ ¬ cmpL (prioL PL[i].n) (prioL PL[i + 1].n) < 0 := by
  subst hP
  obtain ⟨T', hT', hl, hall, hino, hheap⟩ := tree_facts h hok
  rw [hT] at hT'
  subst hT'
  have hsub : ∀ y ∈ T.way s, y ∈ T.all := fun y hy => Tr.sel_sub _ _ _ y hy
  refine ⟨?_, ?_, ?_, fun i hi => ?_⟩
  · rw [provR, h, hs, hT]; rfl
  · exact way_pos' s T (fun e => by rw [e] at hne; exact absurd hne (by decide))
  · rw [← hl]; exact Tr.sel_le _ _ _
  · have h1 := hall _ (hsub _ (List.getElem_mem (Nat.lt_of_succ_lt hi)))
    have h2 := hall _ (hsub _ (List.getElem_mem hi))
    have h3 := falls_at (way_falls s T hheap) i hi
    have h4 := cmpL_neg (prioL (T.way s)[i].n) (prioL (T.way s)[i + 1].n)
    exact ⟨h1.1, h2.1, by rw [prioR, h1.2.2.1]; rfl, by rw [prioR, h2.2.2.1]; rfl, by omega⟩
end Go.Proofs.Ytmndkbheehcoaaa
/- Whether a byte string is too long for a law. No condition. -/
namespace Go.Proofs.Ytmndkbheehcoaaa
open Go.RowKit
set_option linter.unusedVariables false
set_option linter.unusedSimpArgs false
set_option maxHeartbeats 1000000 in
set_option maxRecDepth 100000 in
theorem f6big_no (A : Option Addr) (n c : Nat) (w : World) (h : ¬ 4096 < n) : Calls Try.prog 34 #[.slice A n c] w fun e w' => e = .returned (.bool false) ∧ w = w' := by
  have h := f6big_any A n c w
  rwa [decide_eq_false (by omega)] at h
set_option maxHeartbeats 1000000 in
set_option maxRecDepth 100000 in
theorem f6big_yes (A : Option Addr) (n c : Nat) (w : World) (h : 4096 < n) : Calls Try.prog 34 #[.slice A n c] w fun e w' => e = .returned (.bool true) ∧ w = w' := by
  have h := f6big_any A n c w
  rwa [decide_eq_true (by omega)] at h
end Go.Proofs.Ytmndkbheehcoaaa
/- Two variables of a struct's type, made and filled at once. No condition. -/
namespace Go.Proofs.Ytmndkbheehcoaaa
open Go.RowKit Go.BigFrame
set_option linter.unusedVariables false
set_option linter.unusedSimpArgs false

theorem setRow_alloc2 (w : World) (cs cs' : Array Value) (t : TypeId) (o : Obj) : ((w.alloc (.cells cs t)).alloc o).setRow w.heap.size cs' = (w.alloc (.cells cs' t)).alloc o := by
  unfold World.setRow World.alloc
  congr 1
  apply Array.ext
  · simp
  · intro i h1 h2
    simp only [Array.getElem_modify, Array.getElem_push, Array.size_push]
    by_cases h : i < w.heap.size
    · have hne : w.heap.size ≠ i := by omega
      simp [h, hne, Nat.lt_succ_of_lt h]
    · by_cases h3 : w.heap.size = i
      · subst h3
        simp
      · simp [h3, h]
        split
        · omega
        · rfl
theorem wpl_two {P : Program} {ops : Array Oper} {rest : List Oper} {o1 o2 o3 o4 : Oper} {a : Act} {w : World} {Q : Exit → Act → World → Prop} {t n : Nat} {Z cs1 cs2 : Array Value} (ht : Agg P t n) (hs1 : St n cs1) (hs2 : St n cs2) (hz : (P.info? t).map (·.zero) = some (some (.agg Z))) (hZ : Z.size = n)
    (g1 : o1.guard = none) (p1 : o1.op = .alloc t) (g2 : o2.guard = none) (p2 : o2.op = .alloc t) (g3 : o3.guard = none) (x3 y3 : Operand) (p3 : o3.op = .store t x3 y3) (d3 : o3.dst = none) (g4 : o4.guard = none) (x4 y4 : Operand) (p4 : o4.op = .store t x4 y4) (d4 : o4.dst = none)
    (e3 : ((a.put o1.dst (.pointer (some ⟨w.heap.size, 0, none⟩))).put o2.dst (.pointer (some ⟨w.heap.size + 1, 0, none⟩))).eval x3 = .pointer (some ⟨w.heap.size, 0, none⟩))
    (f3 : ((a.put o1.dst (.pointer (some ⟨w.heap.size, 0, none⟩))).put o2.dst (.pointer (some ⟨w.heap.size + 1, 0, none⟩))).eval y3 = .agg cs1)
    (e4 : ((a.put o1.dst (.pointer (some ⟨w.heap.size, 0, none⟩))).put o2.dst (.pointer (some ⟨w.heap.size + 1, 0, none⟩))).eval x4 = .pointer (some ⟨w.heap.size + 1, 0, none⟩))
    (f4 : ((a.put o1.dst (.pointer (some ⟨w.heap.size, 0, none⟩))).put o2.dst (.pointer (some ⟨w.heap.size + 1, 0, none⟩))).eval y4 = .agg cs2)
    (h : wpList P ops Q rest ((a.put o1.dst (.pointer (some ⟨w.heap.size, 0, none⟩))).put o2.dst (.pointer (some ⟨w.heap.size + 1, 0, none⟩))) ((w.alloc (.cells cs1 t)).alloc (.cells cs2 t))) :
    wpList P ops Q (o1 :: o2 :: o3 :: o4 :: rest) a w := by
  have hsz : (w.alloc (.cells Z t)).heap.size = w.heap.size + 1 := by simp
  have hsz1 : (w.alloc (.cells cs1 t)).heap.size = w.heap.size + 1 := by simp
  refine wpl_alloc Z hz g1 p1 ?_
  refine wpl_alloc Z hz g2 p2 ?_
  rw [hsz]
  refine wpl_storeB ((Blk.new w t Z).alloc _) ht hs1 hZ g3 x3 y3 p3 e3 f3 d3 ?_
  rw [setRow_alloc2]
  refine wpl_storeB (g := w.heap.size + 1) (e := t) (cur := Z) (by have := Blk.new (w.alloc (.cells cs1 t)) t Z; rwa [hsz1] at this) ht hs2 hZ g4 x4 y4 p4 e4 f4 d4 ?_
  have := setRow_alloc (w.alloc (.cells cs1 t)) Z cs2 t
  rw [hsz1] at this
  rw [this]
  exact h
/-- the same load where a guard lets it by -/
theorem wpl_loadBW {P : Program} {ops : Array Oper} {rest : List Oper} {o : Oper} {a : Act} {w : World} {Q : Exit → Act → World → Prop} {t g e n : Nat} {cs : Array Value} (hb : Blk w g e cs) (ht : Agg P t n) (hn : cs.size = n) (hw : Region.wanted o (yielded ops a.tmps) = true) (x : Operand) (ho : o.op = .load t x) (hx : a.eval x = .pointer (some ⟨g, 0, none⟩))
    (h : wpList P ops Q rest (a.put o.dst (.agg cs)) w) : wpList P ops Q (o :: rest) a w := by
  refine wpList_want hw fun K hK => ?_
  unfold Oper.wp execOp
  simp only [ho, hx, Instr.loadAt, Instr.sureAddr, Sem.run_bind, Sem.run_pure, Result.andThen_ok, run_loadB hb ht hn]
  exact hK _ _ h
end Go.Proofs.Ytmndkbheehcoaaa
/- The texts that mark entries. No condition. -/
namespace Go.Proofs.Ytmndkbheehcoaaa
open Go.RowKit
set_option linter.unusedVariables false
set_option linter.unusedSimpArgs false

theorem convS {A : Option Addr} {cap : Nat} {xs : List Int} {w : World} {S : Nat → Prop} (h : RdL tByte w S (.slice A xs.length cap) xs) : (convert 56 9 (.slice A xs.length cap)).run Try.prog w = .ok (.string (strOfNums xs)) w := by
  obtain ⟨A', cap', e, hcap, hlen, hrd, hok⟩ := h
  obtain ⟨rfl, _, rfl⟩ := Value.slice.inj e
  rw [flat_bytes] at hrd
  rcases Nat.eq_zero_or_pos xs.length with h0 | h0
  · obtain rfl : xs = [] := List.eq_nil_of_length_eq_zero h0
    rw [run_convert_bytes_string w _ _ _ A _ cap Try.underlying56 Try.underlying5 Try.underlying9]
    cases A <;> simp [Conv.bytesToString, loadCells] <;> rfl
  · obtain ⟨g, o, rfl, _, hc⟩ := hrd.2 h0
    exact run_convert_bytes_arg w _ _ Try.underlying56 Try.underlying5 g o xs.length cap xs rfl (fun i hi => hc i _ (nums_at _ _ _ hi)) _ Try.underlying9
/-- the digits of n ahead of s -/
def digs (n : Nat) (s : ByteArray) : ByteArray := if n = 0 then s else digs (n / 10) (strOfNums [(48 + (n % 10 : Nat) : Int)] ++ s)
termination_by n
decreasing_by omega
theorem digs_zero (s : ByteArray) : digs 0 s = s := by rw [digs]; rfl
theorem digs_pos {n : Nat} (h : 0 < n) (s : ByteArray) : digs n s = digs (n / 10) (strOfNums [(48 + (n % 10 : Nat) : Int)] ++ s) := by rw [digs, if_neg (by omega)]
/-- the text of a mark -/
@[irreducible] def mtxt (m : Int) : ByteArray := ⟨#[109]⟩ ++ digs m.toNat ⟨#[]⟩
theorem mtxt_eq (m : Int) : mtxt m = ⟨#[109]⟩ ++ digs m.toNat ⟨#[]⟩ := by rw [mtxt]
set_option maxHeartbeats 1000000 in
set_option maxRecDepth 100000 in
theorem markText_any (m : Int) (h0 : 0 < m) (h1 : m ≤ 1000000000000000) (w : World) :
    Calls Try.prog 94 #[.int .i64 m] w fun e w' => e = .returned (.string (mtxt m)) ∧ Ext w w' := by
  obtain ⟨M, rfl⟩ : ∃ M : Nat, m = (M : Int) := ⟨m.toNat, by omega⟩
  have HT := Lib.hid (mtxt_eq (M : Int))
  go_enter Try.func94, Try.ntmps94
  go_wp2
  go_loopw [0, 3] (fun q s wr => ∃ (k : Nat) (S : ByteArray), k ≤ M ∧ q = .int .i64 k ∧ s = .string S ∧ digs k S = digs M ⟨#[]⟩ ∧ S.size + k ≤ M ∧ Ext w wr) (fun q _ _ => (intOf q).toNat)
  case atStart => exact ⟨M, _, by omega, rfl, rfl, rfl, by show 0 + M ≤ M; omega, Ext.refl _⟩
  case round =>
    obtain ⟨k, S, hk, rfl, rfl, hd, hz, hx⟩ := hrel
    have HX := Lib.hid hx
    have HD := Lib.hid hd
    clear hx hd
    by_cases hp : 0 < k
    · have hcv : ∀ (W : World) (v : Int), v = 48 + ((k % 10 : Nat) : Int) → (convert 56 9 (.slice (some ⟨W.heap.size, 0, none⟩) 1 1)).run Try.prog (W.alloc (.cells #[.int .u8 v] 5)) = .ok (.string (strOfNums [(48 + (k % 10 : Nat) : Int)])) (W.alloc (.cells #[.int .u8 v] 5)) := by
        rintro W v rfl
        exact convS (xs := [(48 + (k % 10 : Nat) : Int)]) (Own.of_blk8 (base := 0) (e := 5) (Blk.new W 5 _) (Nat.zero_le _) (by simp) (by intro y hy; simp at hy; subst hy; omega)).rd
      have HC := Lib.hid hcv
      have hs1 : (strOfNums [48 + (k : Int) % 10]).size = 1 := strOfNums_size _
      have hcc : ((k % 10 : Nat) : Int) = (k : Int) % 10 := by omega
      have he : digs (k / 10) (strOfNums [48 + (k : Int) % 10] ++ S) = digs M ⟨#[]⟩ := by
        rw [← HD.out, digs_pos hp, hcc]
      have hz2 : (strOfNums [48 + (k : Int) % 10] ++ S).size + k / 10 ≤ M := by
        rw [ByteArray.size_append, hs1]; omega
      have HE := Lib.hid he
      have HZ := Lib.hid hz2
      clear he hz2
      go_wp2
      go_roundw
      case rel => exact ⟨k / 10, _, by omega, by go_num, rfl, HE.out, HZ.out, HX.out.alloc _⟩
      case measure => simp [intOf]; omega
    · obtain rfl : k = 0 := by omega
      go_wp2
      go_ret
      exact ⟨by rw [HT.out]; simp; rw [← HD.out, digs_zero], HX.out⟩
end Go.Proofs.Ytmndkbheehcoaaa
/- A node is read from its bytes. No condition. -/
namespace Go.Proofs.Ytmndkbheehcoaaa
open Go.RowKit
set_option linter.unusedVariables false
set_option linter.unusedSimpArgs false

theorem strOf_strL (s : ByteArray) : strOfNums (strL s) = s := by
  unfold strL
  have h : ∀ l : List UInt8, (l.map fun b => (b.toNat : Int)).map (fun n => UInt8.ofNat n.toNat) = l := by
    intro l
    rw [List.map_map]
    conv => rhs; rw [← List.map_id l]
    refine List.map_congr_left fun b _ => ?_
    simp
  apply ByteArray.ext
  apply Array.toList_inj.1
  exact h s.data.toList
theorem conv_at {A : Option Addr} {cap : Nat} {xs : List Int} {w : World} {g o : Nat} (hA : A = some ⟨g, o, none⟩) (hc : ∀ j u, (nums .u8 xs)[j]? = some u → w.cell? ⟨g, o + j, none⟩ = some u) : (convert 56 9 (.slice A xs.length cap)).run Try.prog w = .ok (.string (strOfNums xs)) w := by
  subst hA
  rcases Nat.eq_zero_or_pos xs.length with h0 | h0
  · obtain rfl : xs = [] := List.eq_nil_of_length_eq_zero h0
    rw [run_convert_bytes_string w _ _ _ (some ⟨g, o, none⟩) _ cap Try.underlying56 Try.underlying5 Try.underlying9]
    simp [Conv.bytesToString, loadCells]
    rfl
  · exact run_convert_bytes_arg w _ _ Try.underlying56 Try.underlying5 g o xs.length cap xs rfl (fun i hi => hc i _ (nums_at _ _ _ hi)) _ Try.underlying9
/-- what is read of a node's bytes -/
structure NdRd (w : World) (x : Nd) (g o cap : Nat) : Prop where
  l : ∀ W, Ext w W → ∀ j u, (nums .u8 x.l)[j]? = some u → W.cell? ⟨g, o + j, none⟩ = some u
  r : ∀ W, Ext w W → ∀ j u, (nums .u8 x.r)[j]? = some u → W.cell? ⟨g, o + 32 + j, none⟩ = some u
  c : ∀ W, Ext w W → W.cell? ⟨g, o + 64, none⟩ = some (.int .u8 x.n.size)
  n : ∀ W, Ext w W → ∀ q, (convert 56 9 (.slice (some ⟨g, o + 65, none⟩) x.n.size q)).run Try.prog W = .ok (.string x.n) W
  v : ∀ W, Ext w W → ∀ q, (convert 56 9 (.slice (some ⟨g, o + (65 + x.n.size), none⟩) x.v.size q)).run Try.prog W = .ok (.string x.v) W
theorem ndRd_of {w : World} {S : Nat → Prop} {x : Nd} (hok : x.ok) (he : entB x.n x.v = true) {A : Option Addr} {cap : Nat} (h : RdL tByte w S (.slice A (nodeL x).length cap) (nodeL x)) : ∃ g o, A = some ⟨g, o, none⟩ ∧ NdRd w x g o cap := by
  have hl := nodeL_length hok
  have hn := entB_le he
  obtain ⟨A', c', e, h1, h2, h3, h4⟩ := h
  injection e with e1 e2 e3
  subst e1 e3
  obtain ⟨g, o, rfl, hs, hc⟩ := h3.2 (by omega)
  rw [flat_bytes, nodeL_eq, show (x.n.size : Int) % 256 = x.n.size by omega] at hc
  have hll : (nums .u8 x.l).length = 32 := by rw [nums_length, hok.1.1]
  have hrl : (nums .u8 x.r).length = 32 := by rw [nums_length, hok.2.1.1]
  have hnl : (nums .u8 (strL x.n)).length = x.n.size := by rw [nums_length, strL_length]
  have hvl : (nums .u8 (strL x.v)).length = x.v.size := by rw [nums_length, strL_length]
  have h1l : (nums .u8 [(x.n.size : Int)]).length = 1 := rfl
  simp only [nums_append] at hc
  refine ⟨g, o, rfl, ⟨fun W hW j u hu => hW.cell (hc j u ?_), fun W hW j u hu => ?_, fun W hW => hW.cell (hc 64 _ ?_), fun W hW q => ?_, fun W hW q => ?_⟩⟩
  · have hj := (List.getElem?_eq_some_iff.1 hu).1
    rw [List.getElem?_append_left (by simp only [List.length_append, hll]; omega), List.getElem?_append_left (by simp only [List.length_append, hll]; omega), List.getElem?_append_left (by simp only [List.length_append, hll]; omega), List.getElem?_append_left hj]
    exact hu
  · have hj := (List.getElem?_eq_some_iff.1 hu).1
    rw [Nat.add_assoc]
    refine hW.cell (hc (32 + j) u ?_)
    rw [List.getElem?_append_left (by simp only [List.length_append, hll, hrl]; omega), List.getElem?_append_left (by simp only [List.length_append, hll, hrl]; omega), List.getElem?_append_left (by simp only [List.length_append, hll, hrl]; omega), List.getElem?_append_right (by omega), hll, Nat.add_sub_cancel_left]
    exact hu
  · rw [List.getElem?_append_left (by simp only [List.length_append, hll, hrl, h1l, hnl]; omega), List.getElem?_append_left (by simp only [List.length_append, hll, hrl, h1l]; omega), List.getElem?_append_right (by simp only [List.length_append, hll, hrl]; omega)]
    simp only [List.length_append, hll, hrl]
    rfl
  · have := conv_at (cap := q) (xs := strL x.n) (w := W) (g := g) (o := o + 65) rfl (fun j u hu => by
      have hj := (List.getElem?_eq_some_iff.1 hu).1
      rw [Nat.add_assoc]
      refine hW.cell (hc (65 + j) u ?_)
      rw [List.getElem?_append_left (by simp only [List.length_append, hll, hrl, h1l, hnl]; rw [hnl] at hj; omega), List.getElem?_append_right (by simp only [List.length_append, hll, hrl, h1l]; omega)]
      have e : 65 + j - (nums .u8 x.l ++ nums .u8 x.r ++ nums .u8 [(x.n.size : Int)]).length = j := by simp only [List.length_append, hll, hrl, h1l]; omega
      rw [e]; exact hu)
    rw [strL_length, strOf_strL] at this
    exact this
  · have := conv_at (cap := q) (xs := strL x.v) (w := W) (g := g) (o := o + (65 + x.n.size)) rfl (fun j u hu => by
      have hj := (List.getElem?_eq_some_iff.1 hu).1
      rw [Nat.add_assoc]
      refine hW.cell (hc (65 + x.n.size + j) u ?_)
      rw [List.getElem?_append_right (by simp only [List.length_append, hll, hrl, hnl, h1l]; omega)]
      have e : 65 + x.n.size + j - (nums .u8 x.l ++ nums .u8 x.r ++ nums .u8 [(x.n.size : Int)] ++ nums .u8 (strL x.n)).length = j := by simp only [List.length_append, hll, hrl, hnl, h1l]; omega
      rw [e]; exact hu)
    rw [strL_length, strOf_strL] at this
    exact this
theorem results_bt {P : Program} {w : World} {fn : Func} {c d : Tmp} {t g e n : Nat} {cs : Array Value} (hr : fn.results = #[.cell c t, .tmp d]) (tmps : Array Value) (hp : tmps.getD c undef = .pointer (some ⟨g, 0, none⟩)) (ht : Agg P t n) (hn : cs.size = n) (hb : Blk w g e cs) {v : Value} (hv : tmps.getD d undef = v) :
    (results fn tmps).run P w = .ok (.tuple #[.agg cs, v]) w := by
  have hl := run_loadB (P := P) hb ht hn
  have hp' : tmps[c]?.getD undef = .pointer (some ⟨g, 0, none⟩) := by simpa using hp
  have hv' : tmps[d]?.getD undef = v := by simpa using hv
  simp [results, hr, hp', hv', asAddr, hl]
set_option maxHeartbeats 1000000 in
set_option maxRecDepth 100000 in
theorem readNode_any (x : Nd) (hok : x.ok) (he : entB x.n x.v = true) (v : Value) (w : World) (S : Nat → Prop) (h : RdL tByte w S v (nodeL x)) :
    Calls Try.prog 44 #[v] w fun e w' => e = .returned (.tuple #[.agg x.enc.toArray, .int .i64 0]) ∧ Ext w w' := by
  have hl := nodeL_length hok
  have hn := entB_le he
  have hvE := fun W => validEntry_any x.n x.v hok.2.2.1 hok.2.2.2 W
  simp only [he] at hvE
  obtain ⟨A, cap, rfl, hcap, hlen, _⟩ := id h
  obtain ⟨g, o, rfl, hR⟩ := ndRd_of hok he h
  have HR := Lib.hid hR
  have HST := Lib.hid (Nd.st hok)
  have HOK := Lib.hid hok
  have hsz := HST.out.size
  have c64 : ∀ z, (w.alloc z).cell? ⟨g, o + 64, none⟩ = some (.int .u8 x.n.size) := fun z => HR.out.c _ (ext_alloc _ _)
  rw [hl] at hcap ⊢
  obtain ⟨N, hN⟩ : ∃ N, x.n.size = N := ⟨_, rfl⟩
  obtain ⟨V, hV⟩ : ∃ V, x.v.size = V := ⟨_, rfl⟩
  rw [hN] at hn c64 hcap ⊢
  rw [hV] at hn hcap ⊢
  have HN := Lib.hid hN
  have HV := Lib.hid hV
  clear hN hV h hR hl hlen hok he
  have hn0 : (0 : Int) ≤ (N : Int) := by omega
  have hnb : (N : Int) ≤ 255 := by omega
  have i1 : ¬ (((65 + N + V : Nat)) : Int) < 65 := by omega
  have i2 : (64 : Int) < ((65 + N + V : Nat) : Int) := by omega
  have i3 : ¬ (((65 + N + V : Nat)) : Int) < 65 + (N : Int) := by omega
  have j1 : (32 : Int) ≤ ((65 + N + V : Nat) : Int) := by omega
  have j2 : ((65 + N + V : Nat) : Int) ≤ (cap : Int) := by omega
  have j3 : (65 : Int) ≤ 65 + (N : Int) := by omega
  have j4 : 65 + (N : Int) ≤ (cap : Int) := by omega
  have j5 : 65 + (N : Int) ≤ ((65 + N + V : Nat) : Int) := by omega
  have j1p : (32 : Int) ≤ 65 + (N : Int) + (V : Int) := by omega
  have j6 : (0 : Int) ≤ 65 + (N : Int) := by omega
  have j5p : 65 + (N : Int) ≤ 65 + (N : Int) + (V : Int) := by omega
  have k1 : ¬ cap = 32 := by omega
  have k2 : ¬ cap = 65 := by omega
  go_enter Try.func44, Try.ntmps44
  go_wp2_with fail
  generalize hwz : (w.alloc (Obj.cells Try.zeroCells31 31)) = wz
  have HXZ := Lib.hid (show Ext w wz by rw [← hwz]; exact ext_alloc _ _)
  have BZ := Lib.hid (show Blk wz w.heap.size 31 Try.zeroCells31 by rw [← hwz]; exact Blk.new _ _ _)
  clear hwz c64
  have HL := Lib.hid (fun W (hW : Ext wz W) => HR.out.l W (HXZ.out.trans hW))
  have HRR := Lib.hid (fun W (hW : Ext wz W) => HR.out.r W (HXZ.out.trans hW))
  have et : (65 + (N : Int)).toNat = 65 + N := by omega
  have hcn : ∀ W, Ext wz W → ∀ q, (convert 56 9 (.slice (some ⟨g, o + 65, none⟩) ((65 + (N : Int)).toNat - 65) q)).run Try.prog W = .ok (.string x.n) W := fun W hW q => by rw [et, Nat.add_sub_cancel_left, ← HN.out]; exact HR.out.n W (HXZ.out.trans hW) q
  have hcv0 : ∀ W, Ext wz W → ∀ q, (convert 56 9 (.slice (some ⟨g, o + (65 + (N : Int)).toNat, none⟩) (65 + N + V - (65 + (N : Int)).toNat) q)).run Try.prog W = .ok (.string x.v) W := fun W hW q => by rw [et, Nat.add_sub_cancel_left, ← HN.out, ← HV.out]; exact HR.out.v W (HXZ.out.trans hW) q
  have hcv1 : V = 0 → ∀ W, ∀ q, (convert 56 9 (.slice (some ⟨g, o, none⟩) (65 + N + V - (65 + (N : Int)).toNat) q)).run Try.prog W = .ok (.string x.v) W := fun h0 W q => by
    have e1 : x.v = strOfNums (strL x.v) := (strOf_strL x.v).symm
    have e2 : strL x.v = [] := List.eq_nil_of_length_eq_zero (by rw [strL_length, HV.out, h0])
    rw [et, Nat.add_sub_cancel_left, e1, e2, h0]
    exact conv_at (xs := []) (g := g) (o := o) rfl (fun j u hu => by cases hu)
  have ha1 : ∀ W, (Instr.arrayAt 27 (.slice (some ⟨g, o, none⟩) (65 + N + V) cap)).run Try.prog W = .ok (.pointer (some ⟨g, o, none⟩)) W := fun W => by
    have W7 : ¬ 65 + N + V < 32 := by omega
    simp [Instr.arrayAt, run_underlying (show Try.prog.underlying 27 = some (.array 32 5) by kernel_rfl), W7]
  have ha2 : ∀ W, (Instr.arrayAt 27 (.slice (some ⟨g, o + 32, none⟩) (65 + N + V - 32) (cap - 32))).run Try.prog W = .ok (.pointer (some ⟨g, o + 32, none⟩)) W := fun W => by
    have W7 : ¬ 65 + N + V - 32 < 32 := by omega
    simp [Instr.arrayAt, run_underlying (show Try.prog.underlying 27 = some (.array 32 5) by kernel_rfl), W7]
  obtain ⟨Z, hZ, hcv⟩ : ∃ Z, (if cap = (65 + (N : Int)).toNat then (some ⟨g, o, none⟩ : Option Addr) else some ⟨g, o + (65 + (N : Int)).toNat, none⟩) = Z ∧ ∀ W, Ext wz W → ∀ q, (convert 56 9 (.slice Z (65 + N + V - (65 + (N : Int)).toNat) q)).run Try.prog W = .ok (.string x.v) W := by
    by_cases kc : cap = (65 + (N : Int)).toNat
    · rw [if_pos kc]; exact ⟨_, rfl, fun W _ q => hcv1 (by omega) W q⟩
    · rw [if_neg kc]; exact ⟨_, rfl, hcv0⟩
  clear et hcv0 hcv1
  refine wp_region_held_drew (S := fun W => Ext wz W) (by kernel_rfl) (Ext.refl _).drew (fun hHeld => ?_)
  refine wpAnyH_take (i := 0) (oi := ?oiz1) (v := ?vz1) ?hiz1 (by kernel_rfl) (by kernel_rfl) (by kernel_rfl) ?hQz1 ?hyz1 (by assumption) ?restz1
  case hiz1 => simp only [List.getElem?_toArray, List.getElem?_cons_zero, List.getElem?_cons_succ]; rfl
  case hQz1 => exact fun _ _ _ h => h
  case hyz1 => exact Or.inl ⟨by rfl, by intro w hSw; (try dsimp only at hSw); go_simp; with_reducible rfl⟩
  try simp only [Act.put, List.setIfInBounds_toArray, List.set_cons_zero, List.set_cons_succ]
  refine wpAnyH_take (i := 1) (oi := ?oiz2) (v := ?vz2) ?hiz2 (by kernel_rfl) (by kernel_rfl) (by kernel_rfl) ?hQz2 ?hyz2 (by assumption) ?restz2
  case hiz2 => simp only [List.getElem?_toArray, List.getElem?_cons_zero, List.getElem?_cons_succ]; rfl
  case hQz2 => exact fun _ _ _ h => h
  case hyz2 => exact Or.inl ⟨by rfl, by intro w hSw; (try dsimp only at hSw); go_simp; with_reducible rfl⟩
  try simp only [Act.put, List.setIfInBounds_toArray, List.set_cons_zero, List.set_cons_succ]
  refine wpAnyH_take (i := 2) (oi := ?oiz3) (v := (.agg (nums .u8 x.l).toArray)) ?hiz3 (by kernel_rfl) (by kernel_rfl) (by kernel_rfl) ?hQz3 ?hyz3 (by assumption) ?restz3
  case hiz3 => simp only [List.getElem?_toArray, List.getElem?_cons_zero, List.getElem?_cons_succ]; rfl
  case hQz3 => exact fun _ _ _ h => h
  case hyz3 => refine yields_loadS g o (nums .u8 x.l) (by rw [nums_length, HOK.out.1.1]; exact aggKey) (fun W hW => HL.out W hW) ?_ _ rfl rfl; rfl
  try simp only [Act.put, List.setIfInBounds_toArray, List.set_cons_zero, List.set_cons_succ]
  refine wpAnyH_take (i := 3) (oi := ?oiz4) (v := ?vz4) ?hiz4 (by kernel_rfl) (by kernel_rfl) (by kernel_rfl) ?hQz4 ?hyz4 (by assumption) ?restz4
  case hiz4 => simp only [List.getElem?_toArray, List.getElem?_cons_zero, List.getElem?_cons_succ]; rfl
  case hQz4 => exact fun _ _ _ h => h
  case hyz4 => exact Or.inl ⟨by rfl, by intro w hSw; (try dsimp only at hSw); go_simp; with_reducible rfl⟩
  try simp only [Act.put, List.setIfInBounds_toArray, List.set_cons_zero, List.set_cons_succ]
  refine wpAnyH_take (i := 4) (oi := ?oiz5) (v := ?vz5) ?hiz5 (by kernel_rfl) (by kernel_rfl) (by kernel_rfl) ?hQz5 ?hyz5 (by assumption) ?restz5
  case hiz5 => simp only [List.getElem?_toArray, List.getElem?_cons_zero, List.getElem?_cons_succ]; rfl
  case hQz5 => exact fun _ _ _ h => h
  case hyz5 => exact Or.inl ⟨by rfl, by intro w hSw; (try dsimp only at hSw); go_simp; with_reducible rfl⟩
  try simp only [Act.put, List.setIfInBounds_toArray, List.set_cons_zero, List.set_cons_succ]
  refine wpAnyH_take (i := 5) (oi := ?oiz6) (v := ?vz6) ?hiz6 (by kernel_rfl) (by kernel_rfl) (by kernel_rfl) ?hQz6 ?hyz6 (by assumption) ?restz6
  case hiz6 => simp only [List.getElem?_toArray, List.getElem?_cons_zero, List.getElem?_cons_succ]; rfl
  case hQz6 => exact fun _ _ _ h => h
  case hyz6 => exact Or.inl ⟨by rfl, by intro w hSw; (try dsimp only at hSw); go_simp; with_reducible rfl⟩
  try simp only [Act.put, List.setIfInBounds_toArray, List.set_cons_zero, List.set_cons_succ]
  refine wpAnyH_take (i := 6) (oi := ?oiz7) (v := (.agg (nums .u8 x.r).toArray)) ?hiz7 (by kernel_rfl) (by kernel_rfl) (by kernel_rfl) ?hQz7 ?hyz7 (by assumption) ?restz7
  case hiz7 => simp only [List.getElem?_toArray, List.getElem?_cons_zero, List.getElem?_cons_succ]; rfl
  case hQz7 => exact fun _ _ _ h => h
  case hyz7 => refine yields_loadS g (o + 32) (nums .u8 x.r) (by rw [nums_length, HOK.out.2.1.1]; exact aggKey) (fun W hW => HRR.out W hW) ?_ _ rfl rfl; rfl
  try simp only [Act.put, List.setIfInBounds_toArray, List.set_cons_zero, List.set_cons_succ]
  refine wpAnyH_take (i := 7) (oi := ?oiz8) (v := ?vz8) ?hiz8 (by kernel_rfl) (by kernel_rfl) (by kernel_rfl) ?hQz8 ?hyz8 (by assumption) ?restz8
  case hiz8 => simp only [List.getElem?_toArray, List.getElem?_cons_zero, List.getElem?_cons_succ]; rfl
  case hQz8 => exact fun _ _ _ h => h
  case hyz8 => exact Or.inl ⟨by rfl, by intro w hSw; (try dsimp only at hSw); go_simp; with_reducible rfl⟩
  try simp only [Act.put, List.setIfInBounds_toArray, List.set_cons_zero, List.set_cons_succ]
  refine wpAnyH_take (i := 8) (oi := ?oiz9) (v := ?vz9) ?hiz9 (by kernel_rfl) (by kernel_rfl) (by kernel_rfl) ?hQz9 ?hyz9 (by assumption) ?restz9
  case hiz9 => simp only [List.getElem?_toArray, List.getElem?_cons_zero, List.getElem?_cons_succ]; rfl
  case hQz9 => exact fun _ _ _ h => h
  case hyz9 => exact Or.inl ⟨by rfl, by intro w hSw; (try dsimp only at hSw); go_simp; with_reducible rfl⟩
  try simp only [Act.put, List.setIfInBounds_toArray, List.set_cons_zero, List.set_cons_succ]
  refine wpAnyH_take (i := 9) (oi := ?oiz10) (v := ?vz10) ?hiz10 (by kernel_rfl) (by kernel_rfl) (by kernel_rfl) ?hQz10 ?hyz10 (by assumption) ?restz10
  case hiz10 => simp only [List.getElem?_toArray, List.getElem?_cons_zero, List.getElem?_cons_succ]; rfl
  case hQz10 => exact fun _ _ _ h => h
  case hyz10 => exact Or.inl ⟨by rfl, by intro w hSw; (try dsimp only at hSw); go_simp; with_reducible rfl⟩
  try simp only [Act.put, List.setIfInBounds_toArray, List.set_cons_zero, List.set_cons_succ]
  refine wpAnyH_take (i := 10) (oi := ?oiz11) (v := (.string x.n)) ?hiz11 (by kernel_rfl) (by kernel_rfl) (by kernel_rfl) ?hQz11 ?hyz11 (by assumption) ?restz11
  case hiz11 => simp only [List.getElem?_toArray, List.getElem?_cons_zero, List.getElem?_cons_succ]; rfl
  case hQz11 => exact fun _ _ _ h => h
  case hyz11 => exact Or.inl ⟨by rfl, by intro w hSw; (try dsimp only at hSw); have hcq := hcn w hSw; go_simp; (try with_reducible rfl)⟩
  try simp only [Act.put, List.setIfInBounds_toArray, List.set_cons_zero, List.set_cons_succ]
  refine wpAnyH_take (i := 11) (oi := ?oiz12) (v := ?vz12) ?hiz12 (by kernel_rfl) (by kernel_rfl) (by kernel_rfl) ?hQz12 ?hyz12 (by assumption) ?restz12
  case hiz12 => simp only [List.getElem?_toArray, List.getElem?_cons_zero, List.getElem?_cons_succ]; rfl
  case hQz12 => exact fun _ _ _ h => h
  case hyz12 => exact Or.inl ⟨by rfl, by intro w hSw; (try dsimp only at hSw); go_simp; with_reducible rfl⟩
  try simp only [Act.put, List.setIfInBounds_toArray, List.set_cons_zero, List.set_cons_succ]
  refine wpAnyH_take (i := 12) (oi := ?oiz13) (v := ?vz13) ?hiz13 (by kernel_rfl) (by kernel_rfl) (by kernel_rfl) ?hQz13 ?hyz13 (by assumption) ?restz13
  case hiz13 => simp only [List.getElem?_toArray, List.getElem?_cons_zero, List.getElem?_cons_succ]; rfl
  case hQz13 => exact fun _ _ _ h => h
  case hyz13 => exact Or.inl ⟨by rfl, by intro w hSw; (try dsimp only at hSw); go_simp; with_reducible rfl⟩
  try simp only [Act.put, List.setIfInBounds_toArray, List.set_cons_zero, List.set_cons_succ]
  refine wpAnyH_take (i := 13) (oi := ?oiz14) (v := ?vz14) ?hiz14 (by kernel_rfl) (by kernel_rfl) (by kernel_rfl) ?hQz14 ?hyz14 (by assumption) ?restz14
  case hiz14 => simp only [List.getElem?_toArray, List.getElem?_cons_zero, List.getElem?_cons_succ]; rfl
  case hQz14 => exact fun _ _ _ h => h
  case hyz14 => exact Or.inl ⟨by rfl, by intro w hSw; (try dsimp only at hSw); go_simp; with_reducible rfl⟩
  try simp only [Act.put, List.setIfInBounds_toArray, List.set_cons_zero, List.set_cons_succ]
  refine wpAnyH_take (i := 14) (oi := ?oiz15) (v := (.string x.v)) ?hiz15 (by kernel_rfl) (by kernel_rfl) (by kernel_rfl) ?hQz15 ?hyz15 (by assumption) ?restz15
  case hiz15 => simp only [List.getElem?_toArray, List.getElem?_cons_zero, List.getElem?_cons_succ]; rfl
  case hQz15 => exact fun _ _ _ h => h
  case hyz15 => exact Or.inl ⟨by rfl, by intro w hSw; (try dsimp only at hSw); have hcq := hcv w hSw; go_simp; (try with_reducible rfl)⟩
  try simp only [Act.put, List.setIfInBounds_toArray, List.set_cons_zero, List.set_cons_succ]
  refine wpAnyH_take (i := 15) (oi := ?oiz16) (v := ?vz16) ?hiz16 (by kernel_rfl) (by kernel_rfl) (by kernel_rfl) ?hQz16 ?hyz16 (by assumption) ?restz16
  case hiz16 => simp only [List.getElem?_toArray, List.getElem?_cons_zero, List.getElem?_cons_succ]; rfl
  case hQz16 => exact fun _ _ _ h => h
  case hyz16 => exact Or.inl ⟨by rfl, by intro w hSw; (try dsimp only at hSw); go_simp; with_reducible rfl⟩
  try simp only [Act.put, List.setIfInBounds_toArray, List.set_cons_zero, List.set_cons_succ]
  refine wpAnyH_take (i := 16) (oi := ?oiz17) (v := (.agg x.enc.toArray)) ?hiz17 (by kernel_rfl) (by kernel_rfl) (by kernel_rfl) ?hQz17 ?hyz17 (by assumption) ?restz17
  case hiz17 => simp only [List.getElem?_toArray, List.getElem?_cons_zero, List.getElem?_cons_succ]; rfl
  case hQz17 => exact fun _ _ _ h => h
  case hyz17 => refine yields_build ?_ rfl (built_node x HOK.out); rfl
  try simp only [Act.put, List.setIfInBounds_toArray, List.set_cons_zero, List.set_cons_succ]
  generalize hw9 : wz.drew = w9 at hHeld ⊢
  have HX9 := Lib.hid (show Ext wz w9 by rw [← hw9]; exact (Ext.refl _).drew)
  clear hw9
  refine wpAnyH_ready (rs := [17]) (by kernel_rfl) (by simp) (AllReadyH.cons (o := ?oy1817) ?hy1817 (fun K hK => ?sy1817) AllReadyH.nil)
  case hy1817 => simp only [List.getElem?_toArray, List.getElem?_cons_zero, List.getElem?_cons_succ]; rfl
  refine stp_alloc zNd.toArray (by kernel_rfl) rfl rfl ?_
  have hH2 := hHeld.alloc (.cells zNd.toArray 31)
  refine hK.out _ _ hH2 (fun _ => ?_)
  clear hK K hH2
  try simp only [Act.put, List.setIfInBounds_toArray, List.set_cons_zero, List.set_cons_succ]
  refine wpAnyH_ready (rs := [18]) (by kernel_rfl) (by simp) (AllReadyH.cons (o := ?oy1918) ?hy1918 (fun K hK => ?sy1918) AllReadyH.nil)
  case hy1918 => simp only [List.getElem?_toArray, List.getElem?_cons_zero, List.getElem?_cons_succ]; rfl
  refine stp_storeP (Blk.new w9 31 _) aggNodeI HST.out (by simp [zNd]) rfl _ _ rfl rfl rfl rfl ?_
  have hH3 := hHeld.alloc (.cells x.enc.toArray 31)
  rw [splice_all _ _ (by rw [Array.length_toList, HST.out.size]; rfl), setRow_alloc, Array.toArray_toList]
  refine hK.out _ _ hH3 (fun _ => ?_)
  clear hK K hH3 hHeld
  try simp only [Act.put, List.setIfInBounds_toArray, List.set_cons_zero, List.set_cons_succ]
  refine wpAnyH_done (by kernel_rfl) ?_ _
  have B5 := Lib.hid (Blk.new w9 31 x.enc.toArray)
  have XW := Lib.hid ((HXZ.out.trans HX9.out).alloc (.cells x.enc.toArray 31))
  have B2 := Lib.hid ((BZ.out.ext HX9.out).alloc (.cells x.enc.toArray 31))
  generalize w9.alloc (.cells x.enc.toArray 31) = w10 at B5 B2 XW ⊢
  clear HL HRR hcn hcv ha1 ha2 hZ
  go_wp2_with (refine wpl_loadP (off := 64) (sub := #[.string x.n, .string x.v]) B5.out aggEntryI rfl (Nd.ent HOK.out) rfl _ rfl rfl ?_)
  refine (hvE _).mono ?_
  rintro e w11 ⟨rfl, hx⟩
  replace B5 := Lib.hid (B5.out.ext hx)
  replace B2 := Lib.hid (B2.out.ext hx)
  replace XW := Lib.hid (XW.out.trans hx)
  clear hx
  go_wp2_with (first | (refine wpl_loadB B5.out aggNodeI hsz rfl _ rfl rfl ?_) | (refine wpl_storeB B2.out aggNodeI HST.out rfl rfl _ _ rfl rfl rfl rfl ?_))
  refine bodyPost_ret (results_bt rfl _ rfl aggNodeI hsz (B2.out.setRow _) rfl) rfl ?_
  exact ⟨rfl, XW.out.setRow (Nat.le_refl _) _⟩
end Go.Proofs.Ytmndkbheehcoaaa
/- The bytes of a node, a hash, and two keys compared, as they are asked for. No condition. -/
namespace Go.Proofs.Ytmndkbheehcoaaa
open Go.RowKit
set_option linter.unusedVariables false
set_option linter.unusedSimpArgs false

set_option maxHeartbeats 1000000 in
set_option maxRecDepth 100000 in
theorem mapNodeBytes_any (x : Nd) (hok : x.ok) (he : entB x.n x.v = true) (w : World) :
    Calls Try.prog 43 #[.agg x.enc.toArray] w fun e w' => ∃ v', e = .returned (.tuple #[v', .int .i64 0]) ∧ Own tByte 5 w' w.heap.size v' (nodeL x) ∧ Ext w w' := by
  have hc := fun W => validEntry_any x.n x.v hok.2.2.1 hok.2.2.2 W
  simp only [he] at hc
  have hsz := (Nd.st hok).size
  go_enter Try.func43, Try.ntmps43
  go_wp2_with (refine wpl_loadP (off := 64) (sub := #[.string x.n, .string x.v]) (Blk.new w _ _) aggEntryI rfl (Nd.ent hok) rfl _ rfl rfl ?_)
  refine (hc _).mono ?_
  rintro e w1 ⟨rfl, hx⟩
  have B0 := Lib.hid ((Blk.new w 31 x.enc.toArray).ext hx)
  have XW := Lib.hid ((ext_alloc w _).trans hx)
  clear hx hc
  go_wp2_with (refine wpl_loadB B0.out aggNodeI hsz rfl _ rfl rfl ?_)
  refine (nodeBytes_any x hok he _).mono ?_
  rintro e w2 ⟨v2, rfl, ho, hx⟩
  have HO := Lib.hid (ho.le (base' := w.heap.size) XW.out.size)
  replace XW := Lib.hid (XW.out.trans hx)
  obtain ⟨A2, n2, q2, rfl⟩ := ho.shape3
  clear ho hx
  go_wp2
  go_ret2
  exact ⟨_, rfl, HO.out, XW.out⟩
set_option maxHeartbeats 1000000 in
set_option maxRecDepth 100000 in
theorem specHashOf_any (tag : Int) (ht : 0 ≤ tag ∧ tag ≤ 255) (v : Value) (xs : List Int) (w : World) (S : Nat → Prop) (h : RdL tByte w S v xs) (hl : xs.length ≤ 4096) :
    Calls Try.prog 45 #[.int .u8 tag, v] w fun e w' => e = .returned (.tuple #[.agg (numsA .u8 (hashL tag xs)), .int .i64 0]) ∧ Ext w w' := by
  have hk := (hashL_ok tag xs).1
  have H := Lib.hid h
  obtain ⟨A, cap, rfl, _⟩ := h
  have hl2 : ¬ (4096 : Int) < (xs.length : Int) := by omega
  go_enter Try.func45, Try.ntmps45
  go_wp2_with fail
  refine (l01Hash_any tag ht _ xs _ _ (H.out.ext (by decide) (ext_alloc _ _)) (by omega)).mono ?_
  rintro e w1 ⟨rfl, hx⟩
  have B1 := Lib.hid ((Blk.new w 27 _).ext hx)
  have XW := Lib.hid ((ext_alloc w _).trans hx)
  clear hx
  go_wp2_with (refine wpl_storeN B1.out aggKey hk rfl rfl _ _ rfl rfl rfl rfl ?_)
  refine bodyPost_ret (results_blk2 rfl _ rfl aggKey hk (B1.out.setRow _) rfl) rfl ?_
  exact ⟨rfl, XW.out.setRow (Nat.le_refl _) _⟩
set_option maxHeartbeats 1000000 in
set_option maxRecDepth 100000 in
theorem specCompareKeys_any (a b : List Int) (ha : K32 a) (hb : K32 b) (w : World) :
    Calls Try.prog 47 #[.agg (numsA .u8 a), .agg (numsA .u8 b)] w fun e w' => e = .returned (.int .i64 (cmpL a b)) ∧ Ext w w' := by
  have h1 := ha.1
  have h2 := hb.1
  go_enter Try.func47, Try.ntmps47
  go_wp2_with (first
    | (refine wpl_loadN ((Blk.new w 27 (numsA .u8 a)).alloc _) aggKey h1 rfl _ rfl rfl ?_)
    | (refine wpl_loadN (Blk.new' (g := w.heap.size + 1) (w := w.alloc _) (by simp) 27 (numsA .u8 b)) aggKey h2 rfl _ rfl rfl ?_))
  refine (l01Compare_any a b ha hb _).mono ?_
  rintro e w1 ⟨rfl, hx⟩
  have XW := Lib.hid (((ext_alloc w _).alloc _).trans hx)
  clear hx
  go_wp2
  go_ret
  exact ⟨rfl, XW.out⟩
end Go.Proofs.Ytmndkbheehcoaaa
