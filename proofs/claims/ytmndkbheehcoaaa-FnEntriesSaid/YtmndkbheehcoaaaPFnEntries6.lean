/- What the walk of the law FnEntries needs, part 6 of 6. No condition. -/
import Derived.BigFrame
import Derived.Test.YtmndkbheehcoaaaPFnEntries5
/- The path to a name: the reference. No condition. -/
namespace Go.Proofs.Ytmndkbheehcoaaa
open Go.RowKit
set_option linter.unusedVariables false
set_option linter.unusedSimpArgs false

set_option maxHeartbeats 2000000 in
set_option maxRecDepth 100000 in
theorem l04Path_any (v : Value) (L : List En) (s : ByteArray) (h64 : L.length ≤ 64) (hg : good L) (w : World) (S : Nat → Prop) (h : RdL tEnt w S v L) :
    Calls Try.prog 82 #[v, .string s] w fun e w' => ∃ v', e = .returned v' ∧ Own tNd 31 w' w.heap.size v' ((trF L.length L).sel (fun o => ltB s o) (fun o => ltB o s)) ∧ Ext w w' := by
  obtain ⟨R, hR0⟩ : ∃ R, (trF L.length L).sel (fun o => ltB s o) (fun o => ltB o s) = R := ⟨_, rfl⟩
  rw [hR0]
  have HR0 := Lib.hid hR0
  have HG0 := Lib.hid hg
  have H0 := Lib.hid h
  obtain ⟨A, cap, rfl, _⟩ := h
  clear hR0 hg
  go_enter Try.func82, Try.ntmps82
  go_wp2_with fail
  go_loopw [0, 5] (fun l u wr => ∃ (f : Nat) (L1 : List En) (acc : List Nd), L1.length ≤ f ∧ L1.length ≤ 64 ∧ acc.length + L1.length ≤ 64 ∧ good L1 ∧ RdL tEnt w S l L1 ∧ Own tNd 31 wr w.heap.size u acc ∧ acc ++ (trF f L1).sel (fun o => ltB s o) (fun o => ltB o s) = R ∧ Ext w wr) (fun l _ _ => lenV l)
  case atStart => exact ⟨L.length, L, [], Nat.le_refl _, h64, by simpa using h64, HG0.out, H0.out, Own.empty tNd w 31 w.heap.size (Nat.le_refl _), by simpa using HR0.out, ext_alloc _ _⟩
  case round =>
    clear H0 HR0 HG0 h64
    obtain ⟨f, L1, acc, hf, h64, hal, hg1, hr, ho, hR, hx⟩ := hrel
    have HX := Lib.hid hx
    have HO := Lib.hid ho
    have HAL := Lib.hid hal
    obtain ⟨C, cn, cc, rfl⟩ := ho.shape3
    obtain ⟨A, cap, rfl, hcap, hlen, hrd, hok⟩ := id hr
    clear hx ho hal
    by_cases h0 : L1.length = 0
    · rw [trF_nil _ _ h0] at hR
      have HQ := Lib.hid (show acc = R by simpa [Tr.sel] using hR)
      have hz : ¬ (0 : Int) < (L1.length : Int) := by omega
      clear hR
      go_wp2
      go_ret
      exact ⟨_, rfl, by rw [← HQ.out]; exact HO.out, HX.out⟩
    · obtain ⟨f, rfl⟩ : ∃ f', f = f' + 1 := ⟨f - 1, by omega⟩
      have hlt := topE_lt (L := L1) (by omega)
      have hND := trF_ok (f + 1) L1 hg1
      rw [trF_cons _ _ h0] at hR hND
      obtain ⟨k, hk⟩ : ∃ k, topE L1 = k := ⟨_, rfl⟩
      simp only [hk] at hlt hND hR
      rw [gE_lt hlt] at hND hR
      obtain ⟨g, o, rfl, hs0, hc⟩ := hrd.elem hok k hlt
      obtain ⟨TL, hTL⟩ : ∃ T, trF f (L1.take k) = T := ⟨_, rfl⟩
      obtain ⟨TR, hTR⟩ : ∃ T, trF f (L1.drop (k + 1)) = T := ⟨_, rfl⟩
      rw [hTL, hTR] at hR hND
      simp only [Tr.sel] at hR
      have HND := Lib.hid hND.1
      have KL := Lib.hid TL.key_ok.1
      have KR := Lib.hid TR.key_ok.1
      have HC := Lib.hid (show ∀ W, Ext w W → ∀ j u, ([Value.string L1[k].1, .string L1[k].2] : List Value)[j]? = some u → W.cell? ⟨g, o + k * 2 + j, none⟩ = some u from fun W hW j u hu => hW.cell (hc j u hu))
      clear hc hrd hok hND hs0
      by_cases hce : cap = k + 1
      · subst hce
        have H := Lib.hid (show RdL tEnt w S (.slice (some ⟨g, o, none⟩) L1.length (k + 1)) L1 from hr)
        have ihl := fun W (hW : RdL tEnt W S (.slice (some ⟨g, o, none⟩) L1.length (k + 1)) L1) => l04Nodes_any f _ (L1.take k) (by rw [List.length_take]; omega) (by rw [List.length_take]; omega) (hg1.take k) W S (RdL.headN (k := k) hW rfl (by omega))
        have ihr := fun W (hW : RdL tEnt W S (.slice (some ⟨g, o, none⟩) L1.length (k + 1)) L1) => l04Nodes_any f _ (L1.drop (k + 1)) (by rw [List.length_drop]; omega) (by rw [List.length_drop]; omega) (hg1.drop (k + 1)) W S (RdL.cutN (k := k + 1) hW rfl (by omega))
        have htop := fun W (hW : RdL tEnt W S (.slice (some ⟨g, o, none⟩) L1.length (k + 1)) L1) => l04Top_any _ L1 (by omega) hg1 W S hW
        simp only [Option.map_some, Addr.add_lit, show tEnt.sz = 2 from rfl, eq_self, if_true, Nat.sub_self] at ihr
        rw [hk] at htop
        simp only [hTL] at ihl
        simp only [hTR] at ihr
        have HTL := Lib.hid hTL
        have HTR := Lib.hid hTR
        have HG := Lib.hid hg1
        have hi : (0 : Int) ≤ (k : Int) := by omega
        have hi2 : (k : Int) ≤ (L1.length : Int) := by omega
        have hi3 : (k : Int) < (L1.length : Int) := by omega
        have hi4 : (k : Int) + 1 ≤ (L1.length : Int) := by omega
        have hi5 : (0 : Int) ≤ (k : Int) + 1 := by omega
        have hi6 : (k : Int) ≤ ((k + 1 : Nat) : Int) := by omega
        have hi8 : (L1.length : Int) ≤ ((k + 1 : Nat) : Int) := by omega
        have hi9 : (k : Int) + 1 ≤ ((k + 1 : Nat) : Int) := by omega
        have hi0 : (0 : Int) < (L1.length : Int) := by omega
        have HQC := Lib.hid hcap
        clear hTL hTR hg1 hr hk hcap
        go_wp2_with fail
        refine (htop _ (H.out.ext (by decide) HX.out)).mono ?_
        rintro e w1 ⟨rfl, hx⟩
        have XW := Lib.hid (HX.out.trans hx)
        have HO1 := Lib.hid (HO.out.ext hx)
        have HS1 := Lib.hid hx.size
        clear hx htop
        go_wp2_with fail
        refine (ihl _ (H.out.ext (by decide) XW.out)).mono ?_
        rintro e w2 ⟨vl, rfl, ho, hx⟩
        replace XW := Lib.hid (XW.out.trans hx)
        have HO2 := Lib.hid (HO1.out.ext hx)
        have HS2 := Lib.hid (Nat.le_trans HS1.out hx.size)
        obtain ⟨AL, nl, cl, rfl⟩ := ho.shape3
        clear ho hx ihl HO1
        go_wp2_with (refine wpl_storeNew aggKey KL.out rfl rfl _ _ rfl rfl rfl rfl ?_)
        refine (ihr _ (H.out.ext (by decide) (XW.out.alloc _))).mono ?_
        rintro e w3 ⟨vr, rfl, ho, hx⟩
        replace XW := Lib.hid ((XW.out.alloc _).trans hx)
        have HO3 := Lib.hid (((HO2.out.alloc _).ext hx).alloc (.cells (numsA .u8 TR.key) 27))
        have HS3 := Lib.hid (show wr.heap.size ≤ w3.heap.size by have := hx.size; have := HS2.out; simp only [size_alloc] at *; omega)
        have B6 := Lib.hid (((Blk.new w2 27 (numsA .u8 TL.key)).ext hx).alloc (.cells (numsA .u8 TR.key) 27))
        have B8 := Lib.hid (Blk.new w3 27 (numsA .u8 TR.key))
        obtain ⟨AR, nr, cr, rfl⟩ := ho.shape3
        clear ho hx ihr HO2
        go_wp2_with (refine wpl_storeNew aggKey KR.out rfl rfl _ _ rfl rfl rfl rfl ?_)
        refine wp_region_held_drew (S := fun W => Ext w W ∧ Blk W w2.heap.size 27 (numsA .u8 TL.key) ∧ Blk W w3.heap.size 27 (numsA .u8 TR.key)) (by kernel_rfl) ⟨(XW.out.alloc _).drew, B6.out.drewN 1, B8.out.drewN 1⟩ (fun hHeld => ?_)
        have hs9 : (w3.alloc (.cells (numsA .u8 TR.key) 27)).heap.size = (w3.alloc (.cells (numsA .u8 TR.key) 27)).drew.heap.size := rfl
        have HOd := Lib.hid (show Own tNd 31 (w3.alloc (.cells (numsA .u8 TR.key) 27)).drew w.heap.size (.slice C cn cc) acc from HO3.out)
        generalize hw9 : (w3.alloc (.cells (numsA .u8 TR.key) 27)).drew = w9 at hHeld HOd hs9 ⊢
        clear hw9
        refine wpAnyH_take (i := 0) (oi := ?oiz1) (v := ?vz1) ?hiz1 (by kernel_rfl) (by kernel_rfl) (by kernel_rfl) ?hQz1 ?hyz1 (by assumption) ?restz1
        case hiz1 => simp only [List.getElem?_toArray, List.getElem?_cons_zero, List.getElem?_cons_succ]; rfl
        case hQz1 => exact fun _ _ _ h => h
        case hyz1 => exact Or.inl ⟨by rfl, by intro w hSw; (try dsimp only at hSw); go_simp; with_reducible rfl⟩
        try simp only [Act.put, List.setIfInBounds_toArray, List.set_cons_zero, List.set_cons_succ]
        refine wpAnyH_take (i := 1) (oi := ?oiz2) (v := (.agg (numsA .u8 TL.key))) ?hiz2 (by kernel_rfl) (by kernel_rfl) (by kernel_rfl) ?hQz2 ?hyz2 (by assumption) ?restz2
        case hiz2 => simp only [List.getElem?_toArray, List.getElem?_cons_zero, List.getElem?_cons_succ]; rfl
        case hQz2 => exact fun _ _ _ h => h
        case hyz2 => refine yields_loadS w2.heap.size 0 (nums .u8 TL.key) (by rw [nums_length, KL.out]; exact aggKey) (fun W hW j u hu => by rw [Nat.zero_add]; exact hW.2.1.at_ j (by rw [numsA, List.getElem?_toArray]; exact hu)) ?_ _ rfl rfl; rfl
        try simp only [Act.put, List.setIfInBounds_toArray, List.set_cons_zero, List.set_cons_succ]
        refine wpAnyH_take (i := 2) (oi := ?oiz3) (v := (.agg (numsA .u8 TR.key))) ?hiz3 (by kernel_rfl) (by kernel_rfl) (by kernel_rfl) ?hQz3 ?hyz3 (by assumption) ?restz3
        case hiz3 => simp only [List.getElem?_toArray, List.getElem?_cons_zero, List.getElem?_cons_succ]; rfl
        case hQz3 => exact fun _ _ _ h => h
        case hyz3 => refine yields_loadS w3.heap.size 0 (nums .u8 TR.key) (by rw [nums_length, KR.out]; exact aggKey) (fun W hW j u hu => by rw [Nat.zero_add]; exact hW.2.2.at_ j (by rw [numsA, List.getElem?_toArray]; exact hu)) ?_ _ rfl rfl; rfl
        try simp only [Act.put, List.setIfInBounds_toArray, List.set_cons_zero, List.set_cons_succ]
        refine wpAnyH_take (i := 3) (oi := ?oiz4) (v := ?vz4) ?hiz4 (by kernel_rfl) (by kernel_rfl) (by kernel_rfl) ?hQz4 ?hyz4 (by assumption) ?restz4
        case hiz4 => simp only [List.getElem?_toArray, List.getElem?_cons_zero, List.getElem?_cons_succ]; rfl
        case hQz4 => exact fun _ _ _ h => h
        case hyz4 => exact Or.inl ⟨by rfl, by intro w hSw; (try dsimp only at hSw); go_simp; with_reducible rfl⟩
        try simp only [Act.put, List.setIfInBounds_toArray, List.set_cons_zero, List.set_cons_succ]
        refine wpAnyH_take (i := 4) (oi := ?oiz5) (v := ?vz5) ?hiz5 (by kernel_rfl) (by kernel_rfl) (by kernel_rfl) ?hQz5 ?hyz5 (by assumption) ?restz5
        case hiz5 => simp only [List.getElem?_toArray, List.getElem?_cons_zero, List.getElem?_cons_succ]; rfl
        case hQz5 => exact fun _ _ _ h => h
        case hyz5 => exact Or.inl ⟨by rfl, by intro w hSw; (try dsimp only at hSw); go_simp; with_reducible rfl⟩
        try simp only [Act.put, List.setIfInBounds_toArray, List.set_cons_zero, List.set_cons_succ]
        refine wpAnyH_take (i := 5) (oi := ?oiz6) (v := ?vz6) ?hiz6 (by kernel_rfl) (by kernel_rfl) (by kernel_rfl) ?hQz6 ?hyz6 (by assumption) ?restz6
        case hiz6 => simp only [List.getElem?_toArray, List.getElem?_cons_zero, List.getElem?_cons_succ]; rfl
        case hQz6 => exact fun _ _ _ h => h
        case hyz6 => exact Or.inl ⟨by rfl, by intro w hSw; (try dsimp only at hSw); go_simp; with_reducible rfl⟩
        try simp only [Act.put, List.setIfInBounds_toArray, List.set_cons_zero, List.set_cons_succ]
        refine wpAnyH_take (i := 6) (oi := ?oiz7) (v := (.agg #[.string L1[k].1, .string L1[k].2])) ?hiz7 (by kernel_rfl) (by kernel_rfl) (by kernel_rfl) ?hQz7 ?hyz7 (by assumption) ?restz7
        case hiz7 => simp only [List.getElem?_toArray, List.getElem?_cons_zero, List.getElem?_cons_succ]; rfl
        case hQz7 => exact fun _ _ _ h => h
        case hyz7 => refine yields_loadS g (o + k * 2) [.string L1[k].1, .string L1[k].2] aggEntryI (fun W hW => HC.out W hW.1) ?_ _ rfl rfl; rfl
        try simp only [Act.put, List.setIfInBounds_toArray, List.set_cons_zero, List.set_cons_succ]
        refine wpAnyH_take (i := 7) (oi := ?oiz8) (v := (.agg (Nd.enc ⟨TL.key, TR.key, L1[k].1, L1[k].2⟩).toArray)) ?hiz8 (by kernel_rfl) (by kernel_rfl) (by kernel_rfl) ?hQz8 ?hyz8 (by assumption) ?restz8
        case hiz8 => simp only [List.getElem?_toArray, List.getElem?_cons_zero, List.getElem?_cons_succ]; rfl
        case hQz8 => exact fun _ _ _ h => h
        case hyz8 => refine yields_build ?_ rfl (built_node ⟨TL.key, TR.key, L1[k].1, L1[k].2⟩ HND.out); rfl
        try simp only [Act.put, List.setIfInBounds_toArray, List.set_cons_zero, List.set_cons_succ]
        refine wpAnyH_ready (rs := [8]) (by kernel_rfl) (by simp) (AllReadyH.cons (o := ?oy98) ?hy98 (fun K hK => ?sy98) AllReadyH.nil)
        case hy98 => simp only [List.getElem?_toArray, List.getElem?_cons_zero, List.getElem?_cons_succ]; rfl
        refine stp_build1 Try.underlying36 zeroNd (Nd.st HND.out).size (by decide) (by decide) rfl (.tmp 39) rfl rfl ?_
        have hH2 : Ext w (w9.alloc (.cells (Nd.enc ⟨TL.key, TR.key, L1[k].1, L1[k].2⟩).toArray 31)) ∧ Blk (w9.alloc (.cells (Nd.enc ⟨TL.key, TR.key, L1[k].1, L1[k].2⟩).toArray 31)) w2.heap.size 27 (numsA .u8 TL.key) ∧ Blk (w9.alloc (.cells (Nd.enc ⟨TL.key, TR.key, L1[k].1, L1[k].2⟩).toArray 31)) w3.heap.size 27 (numsA .u8 TR.key) := ⟨hHeld.1.alloc _, hHeld.2.1.alloc _, hHeld.2.2.alloc _⟩
        refine hK.out _ _ hH2 (fun _ => ?_)
        clear hK K
        try simp only [Act.put, List.setIfInBounds_toArray, List.set_cons_zero, List.set_cons_succ]
        refine wpAnyH_ready (rs := [9]) (by kernel_rfl) (by simp) (AllReadyH.cons (o := ?oy109) ?hy109 (fun K hK => ?sy109) AllReadyH.nil)
        case hy109 => simp only [List.getElem?_toArray, List.getElem?_cons_zero, List.getElem?_cons_succ]; rfl
        refine stp_append rowNd rfl _ _ rfl (v := .slice C cn cc) rfl (HOd.out.alloc _) _ _ rfl (A := some ⟨w9.heap.size, 0, none⟩) (ys := [⟨TL.key, TR.key, L1[k].1, L1[k].2⟩]) rfl (rd_one (T := tNd) w9 ⟨TL.key, TR.key, L1[k].1, L1[k].2⟩ HND.out _) (by intro y hy; obtain rfl := List.mem_singleton.1 hy; exact HND.out) (by have := HAL.out; simp only [List.length_singleton]; omega) hH2.1.size ?_
        intro v10 w10 ho1 hg1 hat1
        have hfar : ∀ b, wr.heap.size ≤ b → some b ≠ (Value.slice C cn cc).ownBlock := fun b hb e => by have := (HO.out.base_le _ e.symm).2; omega
        have hs2 := HS2.out
        have hs3 := HS3.out
        have hH3 : Ext w w10 ∧ Blk w10 w2.heap.size 27 (numsA .u8 TL.key) ∧ Blk w10 w3.heap.size 27 (numsA .u8 TR.key) := ⟨(HOd.out.alloc _).ext_app hH2.1 hg1, hH2.2.1.grown hg1 (hfar _ hs2), hH2.2.2.grown hg1 (hfar _ hs3)⟩
        have HO10 := Lib.hid ho1
        have HX10 := Lib.hid hH3.1
        obtain ⟨D, dn, dc, rfl⟩ := ho1.shape3
        clear ho1 hg1 hat1 hfar
        refine hK.out _ _ hH3 (fun _ => ?_)
        clear hK K hH2 hH3 hHeld
        try simp only [Act.put, List.setIfInBounds_toArray, List.set_cons_zero, List.set_cons_succ]
        refine wpAnyH_take (i := 10) (oi := ?oiz11) (v := ?vz11) ?hiz11 (by kernel_rfl) (by kernel_rfl) (by kernel_rfl) ?hQz11 ?hyz11 (by assumption) ?restz11
        case hiz11 => simp only [List.getElem?_toArray, List.getElem?_cons_zero, List.getElem?_cons_succ]; rfl
        case hQz11 => exact fun _ _ _ h => h
        case hyz11 => exact Or.inl ⟨by rfl, by intro w hSw; (try dsimp only at hSw); go_simp; with_reducible rfl⟩
        try simp only [Act.put, List.setIfInBounds_toArray, List.set_cons_zero, List.set_cons_succ]
        refine wpAnyH_done (by kernel_rfl) ?_ _
        have d0 := HC.out w10 HX10.out 0 _ rfl
        have d1 : w10.cell? ⟨g, o + k * 2, none⟩ = some (.string L1[k].1) := d0
        have e2 := ltB_eq s L1[k].1
        clear d0 B6 B8
        have HRR := Lib.hid hR
        clear hR
        by_cases hname : L1[k].1 = s
        · have hn2 : (L1[k].1.toList == s.toList) = true := by rw [hname, beq_self_eq_true]
          have HQ := Lib.hid (show acc ++ [(⟨TL.key, TR.key, L1[k].1, L1[k].2⟩ : Nd)] = R by
            have := HRR.out
            simpa [hname, ltB_irrefl] using this)
          clear hname e2
          go_wp2
          go_ret
          exact ⟨_, rfl, by rw [← HQ.out]; exact HO10.out, HX10.out⟩
        · have hn2 : (L1[k].1.toList == s.toList) = false := by rw [beq_eq_false_iff_ne]; exact fun e => hname (toList_inj e)
          cases hl : ltB s L1[k].1 with
          | true =>
            have HQ := Lib.hid (show (acc ++ [(⟨TL.key, TR.key, L1[k].1, L1[k].2⟩ : Nd)]) ++ TL.sel (fun o => ltB s o) (fun o => ltB o s) = R by
              have := HRR.out
              simpa [hl, ltB_asymm hl] using this)
            rw [hl] at e2
            clear hname
            go_wp2
            go_roundw
            case rel => exact ⟨f, L1.take k, _, by rw [List.length_take]; omega, by rw [List.length_take]; omega, by rw [List.length_append, List.length_take]; have := HAL.out; simp only [List.length_singleton]; omega, HG.out.take k, RdL.headN H.out rfl (by omega), HO10.out, by rw [HTL.out]; exact HQ.out, HX10.out⟩
            case measure => simp [lenV]; omega
          | false =>
            have hl2 : ltB L1[k].1 s = true := by
              cases h : ltB L1[k].1 s with
              | true => rfl
              | false => exact absurd (ltB_total h hl) hname
            have HQ := Lib.hid (show (acc ++ [(⟨TL.key, TR.key, L1[k].1, L1[k].2⟩ : Nd)]) ++ TR.sel (fun o => ltB s o) (fun o => ltB o s) = R by
              have := HRR.out
              simpa [hl, hl2] using this)
            rw [hl] at e2
            have hcut := RdL.cutN (k := k + 1) H.out rfl (by omega)
            simp only [Option.map_some, Addr.add_lit, show tEnt.sz = 2 from rfl, eq_self, if_true, Nat.sub_self] at hcut
            have HCUT := Lib.hid hcut
            clear hname hcut
            go_wp2
            go_roundw
            case rel => exact ⟨f, L1.drop (k + 1), _, by rw [List.length_drop]; omega, by rw [List.length_drop]; omega, by rw [List.length_append, List.length_drop]; have := HAL.out; simp only [List.length_singleton]; omega, HG.out.drop (k + 1), HCUT.out, HO10.out, by rw [HTR.out]; exact HQ.out, HX10.out⟩
            case measure => simp [lenV]; omega
      · have H := Lib.hid (show RdL tEnt w S (.slice (some ⟨g, o, none⟩) L1.length cap) L1 from hr)
        have ihl := fun W (hW : RdL tEnt W S (.slice (some ⟨g, o, none⟩) L1.length cap) L1) => l04Nodes_any f _ (L1.take k) (by rw [List.length_take]; omega) (by rw [List.length_take]; omega) (hg1.take k) W S (RdL.headN (k := k) hW rfl (by omega))
        have ihr := fun W (hW : RdL tEnt W S (.slice (some ⟨g, o, none⟩) L1.length cap) L1) => l04Nodes_any f _ (L1.drop (k + 1)) (by rw [List.length_drop]; omega) (by rw [List.length_drop]; omega) (hg1.drop (k + 1)) W S (RdL.cutN (k := k + 1) hW rfl (by omega))
        have htop := fun W (hW : RdL tEnt W S (.slice (some ⟨g, o, none⟩) L1.length cap) L1) => l04Top_any _ L1 (by omega) hg1 W S hW
        simp only [Option.map_some, Addr.add_lit, show tEnt.sz = 2 from rfl, if_neg hce] at ihr
        rw [hk] at htop
        simp only [hTL] at ihl
        simp only [hTR] at ihr
        have HTL := Lib.hid hTL
        have HTR := Lib.hid hTR
        have HG := Lib.hid hg1
        have hi : (0 : Int) ≤ (k : Int) := by omega
        have hi2 : (k : Int) ≤ (L1.length : Int) := by omega
        have hi3 : (k : Int) < (L1.length : Int) := by omega
        have hi4 : (k : Int) + 1 ≤ (L1.length : Int) := by omega
        have hi5 : (0 : Int) ≤ (k : Int) + 1 := by omega
        have hi6 : (k : Int) ≤ (cap : Int) := by omega
        have hi8 : (L1.length : Int) ≤ (cap : Int) := by omega
        have hi9 : (k : Int) + 1 ≤ (cap : Int) := by omega
        have hi0 : (0 : Int) < (L1.length : Int) := by omega
        have HQC := Lib.hid hcap
        clear hTL hTR hg1 hr hk hcap
        go_wp2_with fail
        refine (htop _ (H.out.ext (by decide) HX.out)).mono ?_
        rintro e w1 ⟨rfl, hx⟩
        have XW := Lib.hid (HX.out.trans hx)
        have HO1 := Lib.hid (HO.out.ext hx)
        have HS1 := Lib.hid hx.size
        clear hx htop
        go_wp2_with fail
        refine (ihl _ (H.out.ext (by decide) XW.out)).mono ?_
        rintro e w2 ⟨vl, rfl, ho, hx⟩
        replace XW := Lib.hid (XW.out.trans hx)
        have HO2 := Lib.hid (HO1.out.ext hx)
        have HS2 := Lib.hid (Nat.le_trans HS1.out hx.size)
        obtain ⟨AL, nl, cl, rfl⟩ := ho.shape3
        clear ho hx ihl HO1
        go_wp2_with (refine wpl_storeNew aggKey KL.out rfl rfl _ _ rfl rfl rfl rfl ?_)
        refine (ihr _ (H.out.ext (by decide) (XW.out.alloc _))).mono ?_
        rintro e w3 ⟨vr, rfl, ho, hx⟩
        replace XW := Lib.hid ((XW.out.alloc _).trans hx)
        have HO3 := Lib.hid (((HO2.out.alloc _).ext hx).alloc (.cells (numsA .u8 TR.key) 27))
        have HS3 := Lib.hid (show wr.heap.size ≤ w3.heap.size by have := hx.size; have := HS2.out; simp only [size_alloc] at *; omega)
        have B6 := Lib.hid (((Blk.new w2 27 (numsA .u8 TL.key)).ext hx).alloc (.cells (numsA .u8 TR.key) 27))
        have B8 := Lib.hid (Blk.new w3 27 (numsA .u8 TR.key))
        obtain ⟨AR, nr, cr, rfl⟩ := ho.shape3
        clear ho hx ihr HO2
        go_wp2_with (refine wpl_storeNew aggKey KR.out rfl rfl _ _ rfl rfl rfl rfl ?_)
        refine wp_region_held_drew (S := fun W => Ext w W ∧ Blk W w2.heap.size 27 (numsA .u8 TL.key) ∧ Blk W w3.heap.size 27 (numsA .u8 TR.key)) (by kernel_rfl) ⟨(XW.out.alloc _).drew, B6.out.drewN 1, B8.out.drewN 1⟩ (fun hHeld => ?_)
        have hs9 : (w3.alloc (.cells (numsA .u8 TR.key) 27)).heap.size = (w3.alloc (.cells (numsA .u8 TR.key) 27)).drew.heap.size := rfl
        have HOd := Lib.hid (show Own tNd 31 (w3.alloc (.cells (numsA .u8 TR.key) 27)).drew w.heap.size (.slice C cn cc) acc from HO3.out)
        generalize hw9 : (w3.alloc (.cells (numsA .u8 TR.key) 27)).drew = w9 at hHeld HOd hs9 ⊢
        clear hw9
        refine wpAnyH_take (i := 0) (oi := ?oiz12) (v := ?vz12) ?hiz12 (by kernel_rfl) (by kernel_rfl) (by kernel_rfl) ?hQz12 ?hyz12 (by assumption) ?restz12
        case hiz12 => simp only [List.getElem?_toArray, List.getElem?_cons_zero, List.getElem?_cons_succ]; rfl
        case hQz12 => exact fun _ _ _ h => h
        case hyz12 => exact Or.inl ⟨by rfl, by intro w hSw; (try dsimp only at hSw); go_simp; with_reducible rfl⟩
        try simp only [Act.put, List.setIfInBounds_toArray, List.set_cons_zero, List.set_cons_succ]
        refine wpAnyH_take (i := 1) (oi := ?oiz13) (v := (.agg (numsA .u8 TL.key))) ?hiz13 (by kernel_rfl) (by kernel_rfl) (by kernel_rfl) ?hQz13 ?hyz13 (by assumption) ?restz13
        case hiz13 => simp only [List.getElem?_toArray, List.getElem?_cons_zero, List.getElem?_cons_succ]; rfl
        case hQz13 => exact fun _ _ _ h => h
        case hyz13 => refine yields_loadS w2.heap.size 0 (nums .u8 TL.key) (by rw [nums_length, KL.out]; exact aggKey) (fun W hW j u hu => by rw [Nat.zero_add]; exact hW.2.1.at_ j (by rw [numsA, List.getElem?_toArray]; exact hu)) ?_ _ rfl rfl; rfl
        try simp only [Act.put, List.setIfInBounds_toArray, List.set_cons_zero, List.set_cons_succ]
        refine wpAnyH_take (i := 2) (oi := ?oiz14) (v := (.agg (numsA .u8 TR.key))) ?hiz14 (by kernel_rfl) (by kernel_rfl) (by kernel_rfl) ?hQz14 ?hyz14 (by assumption) ?restz14
        case hiz14 => simp only [List.getElem?_toArray, List.getElem?_cons_zero, List.getElem?_cons_succ]; rfl
        case hQz14 => exact fun _ _ _ h => h
        case hyz14 => refine yields_loadS w3.heap.size 0 (nums .u8 TR.key) (by rw [nums_length, KR.out]; exact aggKey) (fun W hW j u hu => by rw [Nat.zero_add]; exact hW.2.2.at_ j (by rw [numsA, List.getElem?_toArray]; exact hu)) ?_ _ rfl rfl; rfl
        try simp only [Act.put, List.setIfInBounds_toArray, List.set_cons_zero, List.set_cons_succ]
        refine wpAnyH_take (i := 3) (oi := ?oiz15) (v := ?vz15) ?hiz15 (by kernel_rfl) (by kernel_rfl) (by kernel_rfl) ?hQz15 ?hyz15 (by assumption) ?restz15
        case hiz15 => simp only [List.getElem?_toArray, List.getElem?_cons_zero, List.getElem?_cons_succ]; rfl
        case hQz15 => exact fun _ _ _ h => h
        case hyz15 => exact Or.inl ⟨by rfl, by intro w hSw; (try dsimp only at hSw); go_simp; with_reducible rfl⟩
        try simp only [Act.put, List.setIfInBounds_toArray, List.set_cons_zero, List.set_cons_succ]
        refine wpAnyH_take (i := 4) (oi := ?oiz16) (v := ?vz16) ?hiz16 (by kernel_rfl) (by kernel_rfl) (by kernel_rfl) ?hQz16 ?hyz16 (by assumption) ?restz16
        case hiz16 => simp only [List.getElem?_toArray, List.getElem?_cons_zero, List.getElem?_cons_succ]; rfl
        case hQz16 => exact fun _ _ _ h => h
        case hyz16 => exact Or.inl ⟨by rfl, by intro w hSw; (try dsimp only at hSw); go_simp; with_reducible rfl⟩
        try simp only [Act.put, List.setIfInBounds_toArray, List.set_cons_zero, List.set_cons_succ]
        refine wpAnyH_take (i := 5) (oi := ?oiz17) (v := ?vz17) ?hiz17 (by kernel_rfl) (by kernel_rfl) (by kernel_rfl) ?hQz17 ?hyz17 (by assumption) ?restz17
        case hiz17 => simp only [List.getElem?_toArray, List.getElem?_cons_zero, List.getElem?_cons_succ]; rfl
        case hQz17 => exact fun _ _ _ h => h
        case hyz17 => exact Or.inl ⟨by rfl, by intro w hSw; (try dsimp only at hSw); go_simp; with_reducible rfl⟩
        try simp only [Act.put, List.setIfInBounds_toArray, List.set_cons_zero, List.set_cons_succ]
        refine wpAnyH_take (i := 6) (oi := ?oiz18) (v := (.agg #[.string L1[k].1, .string L1[k].2])) ?hiz18 (by kernel_rfl) (by kernel_rfl) (by kernel_rfl) ?hQz18 ?hyz18 (by assumption) ?restz18
        case hiz18 => simp only [List.getElem?_toArray, List.getElem?_cons_zero, List.getElem?_cons_succ]; rfl
        case hQz18 => exact fun _ _ _ h => h
        case hyz18 => refine yields_loadS g (o + k * 2) [.string L1[k].1, .string L1[k].2] aggEntryI (fun W hW => HC.out W hW.1) ?_ _ rfl rfl; rfl
        try simp only [Act.put, List.setIfInBounds_toArray, List.set_cons_zero, List.set_cons_succ]
        refine wpAnyH_take (i := 7) (oi := ?oiz19) (v := (.agg (Nd.enc ⟨TL.key, TR.key, L1[k].1, L1[k].2⟩).toArray)) ?hiz19 (by kernel_rfl) (by kernel_rfl) (by kernel_rfl) ?hQz19 ?hyz19 (by assumption) ?restz19
        case hiz19 => simp only [List.getElem?_toArray, List.getElem?_cons_zero, List.getElem?_cons_succ]; rfl
        case hQz19 => exact fun _ _ _ h => h
        case hyz19 => refine yields_build ?_ rfl (built_node ⟨TL.key, TR.key, L1[k].1, L1[k].2⟩ HND.out); rfl
        try simp only [Act.put, List.setIfInBounds_toArray, List.set_cons_zero, List.set_cons_succ]
        refine wpAnyH_ready (rs := [8]) (by kernel_rfl) (by simp) (AllReadyH.cons (o := ?oy208) ?hy208 (fun K hK => ?sy208) AllReadyH.nil)
        case hy208 => simp only [List.getElem?_toArray, List.getElem?_cons_zero, List.getElem?_cons_succ]; rfl
        refine stp_build1 Try.underlying36 zeroNd (Nd.st HND.out).size (by decide) (by decide) rfl (.tmp 39) rfl rfl ?_
        have hH2 : Ext w (w9.alloc (.cells (Nd.enc ⟨TL.key, TR.key, L1[k].1, L1[k].2⟩).toArray 31)) ∧ Blk (w9.alloc (.cells (Nd.enc ⟨TL.key, TR.key, L1[k].1, L1[k].2⟩).toArray 31)) w2.heap.size 27 (numsA .u8 TL.key) ∧ Blk (w9.alloc (.cells (Nd.enc ⟨TL.key, TR.key, L1[k].1, L1[k].2⟩).toArray 31)) w3.heap.size 27 (numsA .u8 TR.key) := ⟨hHeld.1.alloc _, hHeld.2.1.alloc _, hHeld.2.2.alloc _⟩
        refine hK.out _ _ hH2 (fun _ => ?_)
        clear hK K
        try simp only [Act.put, List.setIfInBounds_toArray, List.set_cons_zero, List.set_cons_succ]
        refine wpAnyH_ready (rs := [9]) (by kernel_rfl) (by simp) (AllReadyH.cons (o := ?oy219) ?hy219 (fun K hK => ?sy219) AllReadyH.nil)
        case hy219 => simp only [List.getElem?_toArray, List.getElem?_cons_zero, List.getElem?_cons_succ]; rfl
        refine stp_append rowNd rfl _ _ rfl (v := .slice C cn cc) rfl (HOd.out.alloc _) _ _ rfl (A := some ⟨w9.heap.size, 0, none⟩) (ys := [⟨TL.key, TR.key, L1[k].1, L1[k].2⟩]) rfl (rd_one (T := tNd) w9 ⟨TL.key, TR.key, L1[k].1, L1[k].2⟩ HND.out _) (by intro y hy; obtain rfl := List.mem_singleton.1 hy; exact HND.out) (by have := HAL.out; simp only [List.length_singleton]; omega) hH2.1.size ?_
        intro v10 w10 ho1 hg1 hat1
        have hfar : ∀ b, wr.heap.size ≤ b → some b ≠ (Value.slice C cn cc).ownBlock := fun b hb e => by have := (HO.out.base_le _ e.symm).2; omega
        have hs2 := HS2.out
        have hs3 := HS3.out
        have hH3 : Ext w w10 ∧ Blk w10 w2.heap.size 27 (numsA .u8 TL.key) ∧ Blk w10 w3.heap.size 27 (numsA .u8 TR.key) := ⟨(HOd.out.alloc _).ext_app hH2.1 hg1, hH2.2.1.grown hg1 (hfar _ hs2), hH2.2.2.grown hg1 (hfar _ hs3)⟩
        have HO10 := Lib.hid ho1
        have HX10 := Lib.hid hH3.1
        obtain ⟨D, dn, dc, rfl⟩ := ho1.shape3
        clear ho1 hg1 hat1 hfar
        refine hK.out _ _ hH3 (fun _ => ?_)
        clear hK K hH2 hH3 hHeld
        try simp only [Act.put, List.setIfInBounds_toArray, List.set_cons_zero, List.set_cons_succ]
        refine wpAnyH_take (i := 10) (oi := ?oiz22) (v := ?vz22) ?hiz22 (by kernel_rfl) (by kernel_rfl) (by kernel_rfl) ?hQz22 ?hyz22 (by assumption) ?restz22
        case hiz22 => simp only [List.getElem?_toArray, List.getElem?_cons_zero, List.getElem?_cons_succ]; rfl
        case hQz22 => exact fun _ _ _ h => h
        case hyz22 => exact Or.inl ⟨by rfl, by intro w hSw; (try dsimp only at hSw); go_simp; with_reducible rfl⟩
        try simp only [Act.put, List.setIfInBounds_toArray, List.set_cons_zero, List.set_cons_succ]
        refine wpAnyH_done (by kernel_rfl) ?_ _
        have d0 := HC.out w10 HX10.out 0 _ rfl
        have d1 : w10.cell? ⟨g, o + k * 2, none⟩ = some (.string L1[k].1) := d0
        have e2 := ltB_eq s L1[k].1
        clear d0 B6 B8
        have HRR := Lib.hid hR
        clear hR
        by_cases hname : L1[k].1 = s
        · have hn2 : (L1[k].1.toList == s.toList) = true := by rw [hname, beq_self_eq_true]
          have HQ := Lib.hid (show acc ++ [(⟨TL.key, TR.key, L1[k].1, L1[k].2⟩ : Nd)] = R by
            have := HRR.out
            simpa [hname, ltB_irrefl] using this)
          clear hname e2
          go_wp2
          go_ret
          exact ⟨_, rfl, by rw [← HQ.out]; exact HO10.out, HX10.out⟩
        · have hn2 : (L1[k].1.toList == s.toList) = false := by rw [beq_eq_false_iff_ne]; exact fun e => hname (toList_inj e)
          cases hl : ltB s L1[k].1 with
          | true =>
            have HQ := Lib.hid (show (acc ++ [(⟨TL.key, TR.key, L1[k].1, L1[k].2⟩ : Nd)]) ++ TL.sel (fun o => ltB s o) (fun o => ltB o s) = R by
              have := HRR.out
              simpa [hl, ltB_asymm hl] using this)
            rw [hl] at e2
            clear hname
            go_wp2
            go_roundw
            case rel => exact ⟨f, L1.take k, _, by rw [List.length_take]; omega, by rw [List.length_take]; omega, by rw [List.length_append, List.length_take]; have := HAL.out; simp only [List.length_singleton]; omega, HG.out.take k, RdL.headN H.out rfl (by omega), HO10.out, by rw [HTL.out]; exact HQ.out, HX10.out⟩
            case measure => simp [lenV]; omega
          | false =>
            have hl2 : ltB L1[k].1 s = true := by
              cases h : ltB L1[k].1 s with
              | true => rfl
              | false => exact absurd (ltB_total h hl) hname
            have HQ := Lib.hid (show (acc ++ [(⟨TL.key, TR.key, L1[k].1, L1[k].2⟩ : Nd)]) ++ TR.sel (fun o => ltB s o) (fun o => ltB o s) = R by
              have := HRR.out
              simpa [hl, hl2] using this)
            rw [hl] at e2
            have hcut := RdL.cutN (k := k + 1) H.out rfl (by omega)
            simp only [Option.map_some, Addr.add_lit, show tEnt.sz = 2 from rfl, if_neg hce] at hcut
            have HCUT := Lib.hid hcut
            clear hname hcut
            go_wp2
            go_roundw
            case rel => exact ⟨f, L1.drop (k + 1), _, by rw [List.length_drop]; omega, by rw [List.length_drop]; omega, by rw [List.length_append, List.length_drop]; have := HAL.out; simp only [List.length_singleton]; omega, HG.out.drop (k + 1), HCUT.out, HO10.out, by rw [HTR.out]; exact HQ.out, HX10.out⟩
            case measure => simp [lenV]; omega
end Go.Proofs.Ytmndkbheehcoaaa
/- The path to a name, as it is asked for. No condition. -/
namespace Go.Proofs.Ytmndkbheehcoaaa
open Go.RowKit
set_option linter.unusedVariables false
set_option linter.unusedSimpArgs false

/-- the path to a name, and the code -/
def provR (L : List En) (s : ByteArray) : List Nd × Int := if okE L && nameB s then ((trF L.length L).sel (fun o => ltB s o) (fun o => ltB o s), 0) else ([], 1)
theorem provR_len (L : List En) (s : ByteArray) : (provR L s).1.length ≤ 64 := by
  unfold provR
  split
  · rename_i h
    rw [Bool.and_eq_true] at h
    have h1 := (okE_incs' h.1).2
    exact Nat.le_trans (Tr.sel_le _ _ _) (Nat.le_trans (trF_len _ _) h1)
  · exact Nat.zero_le _
set_option maxHeartbeats 1000000 in
set_option maxRecDepth 100000 in
theorem specProveName_any (v : Value) (L : List En) (s : ByteArray) (hsz : s.size ≤ 140737488351232) (w : World) (S : Nat → Prop) (h : RdL tEnt w S v L) :
    Calls Try.prog 50 #[v, .string s] w fun e w' => ∃ v', e = .returned (.tuple #[v', .int .i64 (provR L s).2]) ∧ Own tNd 31 w' w.heap.size v' (provR L s).1 ∧ Ext w w' := by
  have H := Lib.hid h
  have hokL := h.choose_spec.choose_spec.2.2.2.2
  have hc := l04Ok_any v L w S h
  have hn := l04Name_any s hsz
  have hp := fun (hb : okE L = true) W hW => l04Path_any v L s (okE_incs' hb).2 (good_of hb hokL) W S hW
  obtain ⟨A, cap, rfl, hcap, hlen, _⟩ := h
  cases hb : okE L with
  | false =>
    simp only [provR, hb, Bool.false_and, Bool.false_eq_true, if_false]
    simp only [hb] at hc
    clear hb hp
    go_enter Try.func50, Try.ntmps50
    go_wp2_with fail
    refine hc.mono ?_
    rintro e w1 ⟨rfl, hx⟩
    have HX := Lib.hid hx
    clear hx
    go_wp2
    go_ret2
    exact ⟨_, rfl, Own.empty tNd _ 31 _ HX.out.size, HX.out.alloc _⟩
  | true =>
    simp only [hb] at hc
    replace hp := hp hb
    cases hb2 : nameB s with
    | false =>
      simp only [provR, hb, hb2, Bool.and_false, Bool.false_eq_true, if_false]
      simp only [hb2] at hn
      clear hb hb2 hp
      go_enter Try.func50, Try.ntmps50
      go_wp2_with fail
      refine hc.mono ?_
      rintro e w1 ⟨rfl, hx⟩
      have HX := Lib.hid hx
      clear hx
      go_wp2_with fail
      refine (hn _).mono ?_
      rintro e w' ⟨rfl, rfl⟩
      go_wp2
      go_ret2
      exact ⟨_, rfl, Own.empty tNd _ 31 _ HX.out.size, HX.out.alloc _⟩
    | true =>
      simp only [provR, hb, hb2, Bool.and_true, if_true]
      simp only [hb2] at hn
      clear hb hb2
      go_enter Try.func50, Try.ntmps50
      go_wp2_with fail
      refine hc.mono ?_
      rintro e w1 ⟨rfl, hx⟩
      have HX := Lib.hid hx
      clear hx
      go_wp2_with fail
      refine (hn _).mono ?_
      rintro e w' ⟨rfl, rfl⟩
      go_wp2_with fail
      refine (hp _ (H.out.ext (by decide) HX.out)).mono ?_
      rintro e w2 ⟨v2, rfl, ho, hx⟩
      have HO := Lib.hid (ho.le (base' := w.heap.size) HX.out.size)
      have HX2 := Lib.hid (HX.out.trans hx)
      obtain ⟨A2, n2, c2, rfl⟩ := ho.shape3
      clear ho hx
      go_wp2
      go_ret2
      exact ⟨_, rfl, HO.out, HX2.out⟩
set_option maxHeartbeats 1000000 in
set_option maxRecDepth 100000 in
theorem implProveName_any (v : Value) (L : List En) (s : ByteArray) (hsz : s.size ≤ 140737488351232) (w : World) (S : Nat → Prop) (h : RdL tEnt w S v L) :
    Calls Try.prog 49 #[v, .string s] w fun e w' => ∃ v', e = .returned (.tuple #[v', .int .i64 (provR L s).2]) ∧ Own tNd 31 w' w.heap.size v' (provR L s).1 ∧ Ext w w' := by
  have H := Lib.hid h
  have hokL := h.choose_spec.choose_spec.2.2.2.2
  have hc := validEntries_any v L w S h
  have hn := isName_any s hsz
  have hp := fun (hb : okE L = true) W hW => path_any v L s (okE_incs' hb).2 (good_of hb hokL) W S hW
  obtain ⟨A, cap, rfl, hcap, hlen, _⟩ := h
  cases hb : okE L with
  | false =>
    simp only [provR, hb, Bool.false_and, Bool.false_eq_true, if_false]
    simp only [hb] at hc
    clear hb hp
    go_enter Try.func49, Try.ntmps49
    go_wp2_with fail
    refine hc.mono ?_
    rintro e w1 ⟨rfl, hx⟩
    have HX := Lib.hid hx
    clear hx
    go_wp2
    go_ret2
    exact ⟨_, rfl, Own.nil _ _ _ _, HX.out⟩
  | true =>
    simp only [hb] at hc
    replace hp := hp hb
    cases hb2 : nameB s with
    | false =>
      simp only [provR, hb, hb2, Bool.and_false, Bool.false_eq_true, if_false]
      simp only [hb2] at hn
      clear hb hb2 hp
      go_enter Try.func49, Try.ntmps49
      go_wp2_with fail
      refine hc.mono ?_
      rintro e w1 ⟨rfl, hx⟩
      have HX := Lib.hid hx
      clear hx
      go_wp2_with fail
      refine (hn _).mono ?_
      rintro e w' ⟨rfl, rfl⟩
      go_wp2
      go_ret2
      exact ⟨_, rfl, Own.nil _ _ _ _, HX.out⟩
    | true =>
      simp only [provR, hb, hb2, Bool.and_true, if_true]
      simp only [hb2] at hn
      clear hb hb2
      go_enter Try.func49, Try.ntmps49
      go_wp2_with fail
      refine hc.mono ?_
      rintro e w1 ⟨rfl, hx⟩
      have HX := Lib.hid hx
      clear hx
      go_wp2_with fail
      refine (hn _).mono ?_
      rintro e w' ⟨rfl, rfl⟩
      go_wp2_with fail
      refine (hp _ (H.out.ext (by decide) HX.out)).mono ?_
      rintro e w2 ⟨v2, rfl, ho, hx⟩
      have HO := Lib.hid (ho.le (base' := w.heap.size) HX.out.size)
      have HX2 := Lib.hid (HX.out.trans hx)
      obtain ⟨A2, n2, c2, rfl⟩ := ho.shape3
      clear ho hx
      go_wp2
      go_ret2
      exact ⟨_, rfl, HO.out, HX2.out⟩
end Go.Proofs.Ytmndkbheehcoaaa
/- A map's own path, checked; where two paths part: plainly. No condition. -/
namespace Go.Proofs.Ytmndkbheehcoaaa
open Go.RowKit
set_option linter.unusedVariables false
set_option linter.unusedSimpArgs false

/-- the path to a name in a tree -/
def Tr.way (s : ByteArray) (T : Tr) : List Nd := T.sel (fun o => ltB s o) (fun o => ltB o s)
theorem Tr.way_node (s : ByteArray) (x : Nd) (l r : Tr) : (Tr.node x l r).way s = x :: ((if ltB s x.n then l.way s else []) ++ (if ltB x.n s then r.way s else [])) := by rw [way, Tr.sel]; rfl
theorem way_ck (s : ByteArray) (f : Nat) : ∀ (L : List En), L.length ≤ f → L.Pairwise ltE → (∀ e ∈ L, e.1 = s → ckF s (trF f L).key ((trF f L).way s) = (true, e.2, true)) ∧ ((∀ e ∈ L, e.1 ≠ s) → ckF s (trF f L).key ((trF f L).way s) = (false, ⟨#[]⟩, true)) := by
  have nil : ckF s Tr.leaf.key (Tr.leaf.way s) = (false, ⟨#[]⟩, true) := by
    show ckF s emptyL [] = _
    rw [ckF_nil]; simp
  induction f with
  | zero =>
    intro L hf hp
    obtain rfl : L = [] := List.eq_nil_of_length_eq_zero (by omega)
    rw [trF_zero]
    exact ⟨(fun e he => by cases he), fun _ => nil⟩
  | succ f ih =>
    intro L hf hp
    by_cases h0 : L.length = 0
    · obtain rfl : L = [] := List.eq_nil_of_length_eq_zero h0
      rw [trF_nil _ _ h0]
      exact ⟨(fun e he => by cases he), fun _ => nil⟩
    · have hlt := topE_lt (L := L) (by omega)
      rw [trF_cons _ _ h0]
      obtain ⟨k, hk⟩ : ∃ k, topE L = k := ⟨_, rfl⟩
      rw [hk] at hlt ⊢
      rw [gE_lt hlt]
      have hpw := List.pairwise_iff_getElem.1 hp
      have hl := ih (L.take k) (by rw [List.length_take]; omega) (hp.sublist (List.take_sublist _ _))
      have hr := ih (L.drop (k + 1)) (by rw [List.length_drop]; omega) (hp.sublist (List.drop_sublist _ _))
      generalize trF f (L.take k) = TL at hl ⊢
      generalize trF f (L.drop (k + 1)) = TR at hr ⊢
      rw [Tr.way_node]
      show (∀ e ∈ L, e.1 = s → ckF s (hashL 5 (nodeL ⟨TL.key, TR.key, L[k].1, L[k].2⟩)) _ = _) ∧ (_ → ckF s (hashL 5 (nodeL ⟨TL.key, TR.key, L[k].1, L[k].2⟩)) _ = _)
      rw [ckF_cons]
      by_cases hq : L[k].1 = s
      · rw [ckS_hit _ _ rfl hq]
        have e1 : ltB s L[k].1 = false := by rw [hq]; exact ltB_irrefl s
        have e2 : ltB L[k].1 s = false := by rw [hq]; exact ltB_irrefl s
        simp only [e1, e2, Bool.false_eq_true, if_false, List.append_nil, List.isEmpty_nil]
        refine ⟨fun e he hes => ?_, fun h => absurd hq (h _ (List.getElem_mem hlt))⟩
        obtain ⟨i, hi, rfl⟩ := List.getElem_of_mem he
        obtain rfl : i = k := by
          rcases Nat.lt_trichotomy i k with h | h | h
          · exact absurd (hes.trans hq.symm) (ltB_ne (hpw i k hi hlt h))
          · exact h
          · exact absurd (hq.trans hes.symm) (ltB_ne (hpw k i hlt hi h))
        rfl
      · rw [ckS_on _ _ rfl hq]
        cases h1 : ltB s L[k].1 with
        | true =>
          have e2 := ltB_asymm h1
          simp only [e2, Bool.false_eq_true, if_false, if_true, List.append_nil]
          refine ⟨fun e he hes => hl.1 e ?_ hes, fun h => hl.2 fun e he => h e (List.mem_of_mem_take he)⟩
          obtain ⟨i, hi, rfl⟩ := List.getElem_of_mem he
          have hik : i < k := by
            rcases Nat.lt_trichotomy i k with h | h | h
            · exact h
            · subst h; exact absurd hes hq
            · have h2 := hpw k i hlt hi h
              rw [ltE, hes, e2] at h2
              cases h2
          rw [List.mem_take_iff_getElem]
          exact ⟨i, by omega, rfl⟩
        | false =>
          have e2 : ltB L[k].1 s = true := by
            cases h2 : ltB L[k].1 s with
            | true => rfl
            | false => exact absurd (ltB_total h2 h1) hq
          simp only [e2, Bool.false_eq_true, if_false, if_true, List.nil_append]
          refine ⟨fun e he hes => hr.1 e ?_ hes, fun h => hr.2 fun e he => h e (List.mem_of_mem_drop he)⟩
          obtain ⟨i, hi, rfl⟩ := List.getElem_of_mem he
          have hik : k < i := by
            rcases Nat.lt_trichotomy i k with h | h | h
            · have h2 := hpw i k hi hlt h
              rw [ltE, hes, h1] at h2
              cases h2
            · subst h; exact absurd hes hq
            · exact h
          rw [List.mem_drop_iff_getElem]
          exact ⟨i - (k + 1), by omega, by congr 1; omega⟩
/-- what a map has of a name -/
def valE (L : List En) (s : ByteArray) : ByteArray := if hasE L s then (gE L (posE L s)).2 else ⟨#[]⟩
theorem own_ck {L : List En} (h : okE L = true) (s : ByteArray) : ckF s (trF L.length L).key ((trF L.length L).way s) = (hasE L s, valE L s, true) := by
  have hi := (okE_incs h).1
  have hw := way_ck s L.length L (Nat.le_refl _) (incs_pair.1 hi).2
  cases hh : hasE L s with
  | true =>
    have h2 := hh
    rw [hasE_eq, decide_eq_true_eq] at h2
    rw [valE, hh, if_pos rfl, gE_lt h2.1]
    refine hw.1 _ (List.getElem_mem h2.1) ?_
    rw [← gE_lt h2.1]; exact h2.2
  | false =>
    rw [valE, hh]
    refine hw.2 fun e he hes => ?_
    obtain ⟨i, hl, rfl⟩ := List.getElem_of_mem he
    have hp := posE_hit (s := s) hi i hl (by rw [gE_lt hl]; exact hes)
    rw [hasE_eq, decide_eq_false_iff_not] at hh
    exact hh (by rw [hp]; exact ⟨hl, by rw [gE_lt hl]; exact hes⟩)
/-- the node of zeros -/
def zeroN : Nd := ⟨List.replicate 32 0, List.replicate 32 0, ⟨#[]⟩, ⟨#[]⟩⟩
theorem zK : K32 (List.replicate 32 0) := ⟨rfl, by intro x hx; obtain ⟨_, rfl⟩ := List.mem_replicate.1 hx; omega⟩
theorem zeroN_ok : zeroN.ok := ⟨zK, zK, by decide, by decide⟩
deriving instance DecidableEq for Nd
/-- how far two paths are alike -/
def partN : List Nd → List Nd → Nat
  | x :: xs, y :: ys => if x = y then partN xs ys + 1 else 0
  | _, _ => 0
theorem partN_eq (A : List Nd) : ∀ (B : List Nd) (d : Nat), d ≤ A.length → d ≤ B.length → (∀ p, p < d → A.getD p zeroN = B.getD p zeroN) → (d = A.length ∨ d = B.length ∨ A.getD d zeroN ≠ B.getD d zeroN) → partN A B = d := by
  induction A with
  | nil => intro B d h1 _ _ _; simp at h1; subst h1; simp [partN]
  | cons x xs ih =>
    intro B d h1 h2 h3 h4
    match B, d with
    | [], d => simp at h2; subst h2; simp [partN]
    | y :: ys, 0 =>
      rw [partN, if_neg]
      rcases h4 with h | h | h
      · simp at h
      · simp at h
      · simpa using h
    | y :: ys, d + 1 =>
      have e0 := h3 0 (by omega)
      simp only [List.getD_cons_zero] at e0
      rw [partN, if_pos e0, ih ys d (by simpa using h1) (by simpa using h2) (fun p hp => by simpa using h3 (p + 1) (by omega)) (by simpa using h4)]
theorem alike {A B : List Nd} (hl : A.length = B.length) (h : ∀ p, p < A.length → A.getD p zeroN = B.getD p zeroN) : A = B := by
  refine List.ext_getElem hl fun i h1 h2 => ?_
  have := h i h1
  rw [List.getD_eq_getElem?_getD, List.getD_eq_getElem?_getD, List.getElem?_eq_getElem h1, List.getElem?_eq_getElem h2] at this
  exact this
/-- valid nodes are not the node of zeros -/
def full (A : List Nd) : Prop := ∀ i, i < A.length → A.getD i zeroN ≠ zeroN
theorem full_of {A : List Nd} (h : ∀ x ∈ A, entB x.n x.v = true) : full A := by
  intro i hi e
  rw [List.getD_eq_getElem?_getD, List.getElem?_eq_getElem hi] at e
  have h2 := entB_le (h _ (List.getElem_mem hi))
  rw [show A[i] = zeroN from e] at h2
  exact absurd h2.1 (by decide)
theorem both {A B : List Nd} (fa : full A) (fb : full B) (ne : A ≠ B) (i : Nat) (ha : i ≤ A.length) (hb : i ≤ B.length) (h : ∀ p, p < i → A.getD p zeroN = B.getD p zeroN) (e : A.getD i zeroN = B.getD i zeroN) : i < A.length ∧ i < B.length := by
  by_cases h1 : i < A.length
  · refine ⟨h1, ?_⟩
    by_cases h2 : i < B.length
    · exact h2
    · refine absurd ?_ (fa i h1)
      rw [e, List.getD_eq_getElem?_getD, List.getElem?_eq_none (by omega)]; rfl
  · by_cases h2 : i < B.length
    · refine absurd ?_ (fb i h2)
      rw [← e, List.getD_eq_getElem?_getD, List.getElem?_eq_none (by omega)]; rfl
    · exact absurd (alike (by omega) (fun p hp => h p (by omega))) ne
/-- what is answered: the two nodes and the code -/
def clR (L : List En) (s : ByteArray) (P : List Nd) : Nd × Nd × Int :=
  if okE L && nameB s && okNs P then
    (if (chkR (trF L.length L).key s P).2.2 = 0 then
      (if (chkR (trF L.length L).key s P).1 = hasE L s ∧ (chkR (trF L.length L).key s P).2.1 = valE L s then (zeroN, zeroN, 6)
       else (((trF L.length L).way s).getD (partN ((trF L.length L).way s) P) zeroN, P.getD (partN ((trF L.length L).way s) P) zeroN, 0))
     else (zeroN, zeroN, 4))
  else (zeroN, zeroN, 1)
theorem own_ne {L : List En} (h : okE L = true) (s : ByteArray) {P : List Nd} {c1 : Bool} {c2 : ByteArray} {c3 : Bool} (hc : ckF s (trF L.length L).key P = (c1, c2, c3)) (hn : ¬ (c1 = hasE L s ∧ c2 = valE L s)) : (trF L.length L).way s ≠ P := by
  intro e
  rw [← e, own_ck h s] at hc
  injection hc with e1 e2
  injection e2 with e2 e3
  exact hn ⟨e1.symm, e2.symm⟩
theorem Tr.sel_sub (p q : ByteArray → Bool) (T : Tr) : ∀ x ∈ T.sel p q, x ∈ T.all := by
  induction T with
  | leaf => intro x hx; simp [Tr.sel] at hx
  | node y l r il ir =>
    intro x hx
    simp only [Tr.sel, Tr.all, List.mem_cons, List.mem_append] at hx ⊢
    rcases hx with rfl | hx | hx
    · exact .inl rfl
    · split at hx
      · exact .inr (.inl (il x hx))
      · simp at hx
    · split at hx
      · exact .inr (.inr (ir x hx))
      · simp at hx
theorem way_full {L : List En} (hg : good L) (s : ByteArray) : full ((trF L.length L).way s) := full_of fun x hx => ((trF L.length L).all_ok (trF_ok _ _ hg) x (Tr.sel_sub _ _ _ x hx)).2
theorem okNs_full {P : List Nd} (h : okNs P = true) : full P := full_of fun x hx => by obtain ⟨i, hi, rfl⟩ := List.getElem_of_mem hx; exact okNs_at h hi
end Go.Proofs.Ytmndkbheehcoaaa
/- Nodes held against each other by == and !=. No condition. -/
namespace Go.Proofs.Ytmndkbheehcoaaa
open Go.RowKit
set_option linter.unusedVariables false
set_option linter.unusedSimpArgs false

theorem part_sub (t n : Nat) (cs : Array Value) (off : Nat) (W : World) (h1 : (isAgg t).run Try.prog W = .ok true W) (h2 : (sizeOf t).run Try.prog W = .ok n W) : (part t cs off).run Try.prog W = .ok (.agg (cs.extract off (off + n))) W := by
  unfold part
  simp only [Sem.run_bind, h1, Result.andThen_ok, if_true, h2, Sem.run_pure]
theorem part_one (t : Nat) (cs : Array Value) (off : Nat) (v : Value) (W : World) (h1 : (isAgg t).run Try.prog W = .ok false W) (h2 : cs[off]? = some v) : (part t cs off).run Try.prog W = .ok v W := by
  unfold part
  simp only [Sem.run_bind, h1, Result.andThen_ok, Bool.false_eq_true, if_false, h2, Sem.run_pure]
theorem enc_ex0 {x : Nd} (h : x.ok) : x.enc.toArray.extract 0 (0 + 32) = numsA .u8 x.l := by
  apply Array.toList_inj.1
  have hl := nums_length .u8 x.l
  rw [h.1.1] at hl
  simp only [List.extract_toArray, List.extract_eq_take_drop, Nd.enc, numsA, List.drop_zero, Nat.add_sub_cancel_left, List.append_assoc]
  rw [List.take_left' hl]
theorem enc_ex1 {x : Nd} (h : x.ok) : x.enc.toArray.extract 32 (32 + 32) = numsA .u8 x.r := by
  apply Array.toList_inj.1
  have hl := nums_length .u8 x.l
  have hr := nums_length .u8 x.r
  rw [h.1.1] at hl
  rw [h.2.1.1] at hr
  simp only [List.extract_toArray, List.extract_eq_take_drop, Nd.enc, numsA, Nat.add_sub_cancel_left, List.append_assoc]
  rw [List.drop_left' hl, List.take_left' hr]
theorem enc_ex2 {x : Nd} (h : x.ok) : x.enc.toArray.extract 64 (64 + 2) = #[.string x.n, .string x.v] := by
  apply Array.toList_inj.1
  have hl : (nums .u8 x.l ++ nums .u8 x.r).length = 64 := by rw [List.length_append, nums_length, nums_length, h.1.1, h.2.1.1]
  simp only [List.extract_toArray, List.extract_eq_take_drop, Nd.enc, Nat.add_sub_cancel_left]
  rw [List.drop_left' hl]
  rfl
section
variable {P : Program} (w : World)
theorem eqF_cons {d : Nat} {xs ys : Array Value} {f : Field} {fs : List Field} {a b : Value} {r : Bool} (hn : f.name ≠ "_") (ha : (part f.type xs f.offset).run P w = .ok a w) (hb : (part f.type ys f.offset).run P w = .ok b w) (hr : (Op.equalIn d f.type a b).run P w = .ok r w) :
    (Op.eqFields d xs ys (f :: fs)).run P w = if r then (Op.eqFields d xs ys fs).run P w else .ok false w := by
  rw [Op.eqFields, if_pos hn]
  simp only [Sem.run_bind, ha, hb, hr, Result.andThen_ok, Sem.run_ite, Sem.run_pure]
  cases r <;> simp
theorem eqF_nil {d : Nat} {xs ys : Array Value} : (Op.eqFields d xs ys []).run P w = .ok true w := by simp [Op.eqFields]
end
theorem fieldsNd : ∃ f0 f1 f2 : Field, (Try.prog.fieldsOf 31).toList = [f0, f1, f2] ∧ (f0.name ≠ "_" ∧ f0.type = 27 ∧ f0.offset = 0) ∧ (f1.name ≠ "_" ∧ f1.type = 27 ∧ f1.offset = 32) ∧ (f2.name ≠ "_" ∧ f2.type = 29 ∧ f2.offset = 64) := by
  simp only [Program.fieldsOf, Try.underlying31]
  exact ⟨_, _, _, rfl, ⟨by decide, rfl, rfl⟩, ⟨by decide, rfl, rfl⟩, by decide, rfl, rfl⟩
theorem fieldsEn : ∃ f0 f1 : Field, (Try.prog.fieldsOf 29).toList = [f0, f1] ∧ (f0.name ≠ "_" ∧ f0.type = 9 ∧ f0.offset = 0) ∧ (f1.name ≠ "_" ∧ f1.type = 9 ∧ f1.offset = 1) := by
  simp only [Program.fieldsOf, Try.underlying29]
  exact ⟨_, _, rfl, ⟨by decide, rfl, rfl⟩, by decide, rfl, rfl⟩
theorem run_equalEn (d : Nat) (a b : En) (W : World) : (Op.equalIn (d + 1 + 1) 29 (.agg #[.string a.1, .string a.2]) (.agg #[.string b.1, .string b.2])).run Try.prog W = .ok (decide (a = b)) W := by
  rw [run_equalIn_agg (P := Try.prog) W (d + 1) 29 _ _ (by kernel_rfl) (by kernel_rfl)]
  obtain ⟨f0, f1, e, ⟨n0, t0, o0⟩, n1, t1, o1⟩ := fieldsEn
  have s0 := part_one 9 #[.string a.1, .string a.2] 0 (.string a.1) W (by kernel_rfl) rfl
  have s1 := part_one 9 #[.string b.1, .string b.2] 0 (.string b.1) W (by kernel_rfl) rfl
  have s2 := part_one 9 #[.string a.1, .string a.2] 1 (.string a.2) W (by kernel_rfl) rfl
  have s3 := part_one 9 #[.string b.1, .string b.2] 1 (.string b.2) W (by kernel_rfl) rfl
  have q0 := run_equalIn_string (P := Try.prog) W d 9 a.1 b.1 (by kernel_rfl)
  have q1 := run_equalIn_string (P := Try.prog) W d 9 a.2 b.2 (by kernel_rfl)
  rw [← t0] at s0 s1 q0
  rw [← t1] at s2 s3 q1
  rw [← o0] at s0 s1
  rw [← o1] at s2 s3
  rw [e, eqF_cons W n0 s0 s1 q0, eqF_cons W n1 s2 s3 q1, eqF_nil]
  obtain ⟨a1, a2⟩ := a
  obtain ⟨b1, b2⟩ := b
  by_cases h1 : a1 = b1
  · subst h1
    by_cases h2 : a2 = b2
    · subst h2; simp
    · have h3 : (a2.toList == b2.toList) = false := by rw [beq_eq_false_iff_ne]; exact fun e => h2 (toList_inj e)
      simp [h2, h3]
  · have h3 : (a1.toList == b1.toList) = false := by rw [beq_eq_false_iff_ne]; exact fun e => h1 (toList_inj e)
    simp [h1, h3]
theorem run_equalKy (d : Nat) (a b : List Int) (ha : K32 a) (hb : K32 b) (W : World) : (Op.equalIn (d + 1 + 1) 27 (.agg (numsA .u8 a)) (.agg (numsA .u8 b))).run Try.prog W = .ok (decide (a = b)) W := by
  rw [run_equalIn_array (P := Try.prog) W (d + 1) 27 5 32 1 _ _ (by kernel_rfl) (fun w => by kernel_rfl), run_eqArr (P := Try.prog) W d 5 .u8 (by kernel_rfl) .u8 a b (by rw [ha.1, hb.1]) 32 0 (by rw [ha.1])]
  simp only [List.drop_zero]
theorem run_equalNd (d : Nat) (x y : Nd) (hx : x.ok) (hy : y.ok) (W : World) : (Op.equalIn (d + 1 + 1 + 1) 31 (.agg x.enc.toArray) (.agg y.enc.toArray)).run Try.prog W = .ok (decide (x = y)) W := by
  have q0 := run_equalKy d x.l y.l hx.1 hy.1 W
  have q1 := run_equalKy d x.r y.r hx.2.1 hy.2.1 W
  have q2 := run_equalEn d (x.n, x.v) (y.n, y.v) W
  have a0 := part_sub 27 32 x.enc.toArray 0 W (by kernel_rfl) (by kernel_rfl)
  have b0 := part_sub 27 32 y.enc.toArray 0 W (by kernel_rfl) (by kernel_rfl)
  have a1 := part_sub 27 32 x.enc.toArray 32 W (by kernel_rfl) (by kernel_rfl)
  have b1 := part_sub 27 32 y.enc.toArray 32 W (by kernel_rfl) (by kernel_rfl)
  have a2 := part_sub 29 2 x.enc.toArray 64 W (by kernel_rfl) (by kernel_rfl)
  have b2 := part_sub 29 2 y.enc.toArray 64 W (by kernel_rfl) (by kernel_rfl)
  rw [enc_ex0 hx] at a0
  rw [enc_ex0 hy] at b0
  rw [enc_ex1 hx] at a1
  rw [enc_ex1 hy] at b1
  rw [enc_ex2 hx] at a2
  rw [enc_ex2 hy] at b2
  rw [run_equalIn_agg (P := Try.prog) W (d + 1 + 1) 31 _ _ (by kernel_rfl) (by kernel_rfl)]
  obtain ⟨f0, f1, f2, e, ⟨n0, t0, o0⟩, ⟨n1, t1, o1⟩, n2, t2, o2⟩ := fieldsNd
  rw [← t0] at a0 b0 q0
  rw [← t1] at a1 b1 q1
  rw [← t2] at a2 b2 q2
  rw [← o0] at a0 b0
  rw [← o1] at a1 b1
  rw [← o2] at a2 b2
  rw [e, eqF_cons W n0 a0 b0 q0, eqF_cons W n1 a1 b1 q1, eqF_cons W n2 a2 b2 q2, eqF_nil]
  clear q0 q1 q2 a0 b0 a1 b1 a2 b2 e
  obtain ⟨xl, xr, xn, xv⟩ := x
  obtain ⟨yl, yr, yn, yv⟩ := y
  simp only [Nd.mk.injEq, Prod.mk.injEq]
  by_cases h1 : xl = yl <;> by_cases h2 : xr = yr <;> by_cases h3 : xn = yn <;> by_cases h4 : xv = yv <;> simp [h1, h2, h3, h4]
theorem run_eqNd (x y : Nd) (hx : x.ok) (hy : y.ok) (W : World) : (binOp .eql 31 (.agg x.enc.toArray) (.agg y.enc.toArray)).run Try.prog W = .ok (.bool (decide (x = y))) W := by
  rw [run_eql_struct, show (10000 : Nat) = 9997 + 1 + 1 + 1 from rfl, run_equalNd 9997 x y hx hy W]; rfl
theorem run_neqNd (x y : Nd) (hx : x.ok) (hy : y.ok) (W : World) : (binOp .neq 31 (.agg x.enc.toArray) (.agg y.enc.toArray)).run Try.prog W = .ok (.bool (!decide (x = y))) W := by
  rw [run_neq_struct, show (10000 : Nat) = 9997 + 1 + 1 + 1 from rfl, run_equalNd 9997 x y hx hy W]; rfl
end Go.Proofs.Ytmndkbheehcoaaa
/- Two nodes in variables and a code are the results; the node at a place of a path. No condition. -/
namespace Go.Proofs.Ytmndkbheehcoaaa
open Go.RowKit
set_option linter.unusedVariables false
set_option linter.unusedSimpArgs false

theorem results_b1 {P : Program} {w : World} {fn : Func} {c : Tmp} {t g e n : Nat} {cs : Array Value} (hr : fn.results = #[.cell c t]) (tmps : Array Value) (hp : tmps.getD c undef = .pointer (some ⟨g, 0, none⟩)) (ht : Agg P t n) (hn : cs.size = n) (hb : Blk w g e cs) :
    (results fn tmps).run P w = .ok (.agg cs) w := by
  have hl := run_loadB (P := P) hb ht hn
  have hp' : tmps[c]?.getD undef = .pointer (some ⟨g, 0, none⟩) := by simpa using hp
  simp [results, hr, hp', asAddr, hl]
theorem results_bbt {P : Program} {w : World} {fn : Func} {c1 c2 d : Tmp} {t g1 g2 e1 e2 n : Nat} {cs1 cs2 : Array Value} (hr : fn.results = #[.cell c1 t, .cell c2 t, .tmp d]) (tmps : Array Value) (hp1 : tmps.getD c1 undef = .pointer (some ⟨g1, 0, none⟩)) (hp2 : tmps.getD c2 undef = .pointer (some ⟨g2, 0, none⟩)) (ht : Agg P t n) (hn1 : cs1.size = n) (hn2 : cs2.size = n) (hb1 : Blk w g1 e1 cs1) (hb2 : Blk w g2 e2 cs2) {v : Value} (hv : tmps.getD d undef = v) :
    (results fn tmps).run P w = .ok (.tuple #[.agg cs1, .agg cs2, v]) w := by
  have hl1 := run_loadB (P := P) hb1 ht hn1
  have hl2 := run_loadB (P := P) hb2 ht hn2
  have hp1' : tmps[c1]?.getD undef = .pointer (some ⟨g1, 0, none⟩) := by simpa using hp1
  have hp2' : tmps[c2]?.getD undef = .pointer (some ⟨g2, 0, none⟩) := by simpa using hp2
  have hv' : tmps[d]?.getD undef = v := by simpa using hv
  simp [results, hr, hp1', hp2', hv', asAddr, hl1, hl2]
theorem built_zero : Try.prog.built 31 [] = some zeroN.enc.toArray := by kernel_rfl
theorem getD_lt {P : List Nd} {k : Nat} (h : k < P.length) : P.getD k zeroN = P[k] := by rw [List.getD_eq_getElem?_getD, List.getElem?_eq_getElem h]; rfl
theorem getD_ge {P : List Nd} {k : Nat} (h : ¬ k < P.length) : P.getD k zeroN = zeroN := by rw [List.getD_eq_getElem?_getD, List.getElem?_eq_none (by omega)]; rfl
theorem getD_ok {P : List Nd} (h : ∀ x ∈ P, tNd.ok x) (k : Nat) : (P.getD k zeroN).ok := by
  by_cases hk : k < P.length
  · rw [getD_lt hk]; exact h _ (List.getElem_mem hk)
  · rw [getD_ge hk]; exact zeroN_ok
set_option maxHeartbeats 1000000 in
set_option maxRecDepth 100000 in
theorem clashAt_any (v : Value) (P : List Nd) (k : Nat) (w : World) (S : Nat → Prop) (h : RdL tNd w S v P) :
    Calls Try.prog 89 #[v, .int .i64 k] w fun e w' => e = .returned (.agg (P.getD k zeroN).enc.toArray) ∧ Ext w w' := by
  obtain ⟨A, cap, rfl, hcap, hlen, hrd, hok⟩ := h
  have hx := getD_ok hok k
  by_cases hlt : k < P.length
  · obtain ⟨g, o, rfl, hs0, hc⟩ := hrd.elem hok k hlt
    rw [getD_lt hlt] at hx ⊢
    have hn : ∀ j u, P[k].enc[j]? = some u → w.cell? ⟨g, o + k * 66 + j, none⟩ = some u := fun j u hu => hc j u hu
    generalize P[k] = x at hx hn hc
    have hi : (0 : Int) ≤ (k : Int) := by omega
    have hi2 : (k : Int) < (P.length : Int) := by omega
    have HST := Lib.hid (Nd.st hx)
    have HXO := Lib.hid hx
    have HN := Lib.hid hn
    clear hc hx hn hrd hok
    go_enter Try.func89, Try.ntmps89
    go_wp2_with (first
      | (refine wpl_load ⟨g, o + k * 66, none⟩ x.enc (by rw [Nd.enc_length HXO.out]; exact aggNodeI) rfl _ rfl rfl (fun j u hu => by rw [Addr.add_lit]; exact (ext_alloc w _).cell (HN.out j u hu)) ?_)
      | (refine wpl_storeNewB aggNodeI HST.out rfl rfl _ _ rfl rfl rfl rfl ?_))
    refine bodyPost_ret (results_b1 rfl _ rfl aggNodeI HST.out.size (Blk.new w 31 _)) rfl ?_
    exact ⟨rfl, ext_alloc _ _⟩
  · rw [getD_ge hlt]
    have hi2 : ¬ (k : Int) < (P.length : Int) := by omega
    have HST := Lib.hid (Nd.st zeroN_ok)
    clear hx hrd hok
    go_enter Try.func89, Try.ntmps89
    go_wp2_with (first
      | (refine wpl_buildN rfl rfl built_zero ?_)
      | (refine wpl_storeNewB aggNodeI HST.out rfl rfl _ _ rfl rfl rfl rfl ?_))
    refine bodyPost_ret (results_b1 rfl _ rfl aggNodeI HST.out.size (Blk.new w 31 _)) rfl ?_
    exact ⟨rfl, ext_alloc _ _⟩
end Go.Proofs.Ytmndkbheehcoaaa
/- Two maps held against each other. No condition. -/
namespace Go.Proofs.Ytmndkbheehcoaaa
open Go.RowKit
set_option linter.unusedVariables false
set_option linter.unusedSimpArgs false

theorem run_neqEn (x y : En) (hx : tEnt.ok x) (hy : tEnt.ok y) (W : World) : (binOp .neq 29 (.agg (tEnt.enc x).toArray) (.agg (tEnt.enc y).toArray)).run Try.prog W = .ok (.bool (!decide (x = y))) W := by
  show (binOp .neq 29 (.agg #[.string x.1, .string x.2]) (.agg #[.string y.1, .string y.2])).run Try.prog W = _
  rw [run_neq_struct, show (10000 : Nat) = 9998 + 1 + 1 from rfl, run_equalEn 9998 x y W]; rfl
set_option maxHeartbeats 1000000 in
set_option maxRecDepth 100000 in
theorem l04Same_any (v u : Value) (xs ys : List En) (w : World) (S S' : Nat → Prop) (h : RdL tEnt w S v xs) (h' : RdL tEnt w S' u ys) :
    Calls Try.prog 122 #[v, u] w fun e w' => e = .returned (.bool (decide (xs = ys))) ∧ Ext w w' := by
  obtain ⟨A, cap, rfl, hcap, hlen, hrd, hok⟩ := h
  obtain ⟨A', cap', rfl, hcap', hlen', hrd', hok'⟩ := h'
  have Hrd := Lib.hid hrd
  have Hrd' := Lib.hid hrd'
  have Hok := Lib.hid hok
  have Hok' := Lib.hid hok'
  obtain ⟨R, hR⟩ : ∃ R, decide (xs = ys) = R := ⟨_, rfl⟩
  rw [hR]
  have HR := Lib.hid hR
  clear hrd hok hrd' hok' hR
  by_cases hl : xs.length = ys.length
  · have hl1 : ((xs.length : Int) != (ys.length : Int)) = false := by simp [hl]
    have HL := Lib.hid hl
    go_enter Try.func122, Try.ntmps122
    go_wp2
    go_loopw [5] (fun i wr => ∃ k : Nat, k ≤ xs.length ∧ i = .int .i64 k ∧ xs.take k = ys.take k ∧ Ext w wr) (fun i _ => xs.length - (intOf i).toNat)
    case atStart => exact ⟨0, by omega, rfl, by simp, Ext.refl _⟩
    case round =>
      obtain ⟨k, hk, rfl, ht, hx⟩ := hrel
      have HX := Lib.hid hx
      have HT := Lib.hid ht
      clear hx hl1 ht
      by_cases hlt : k < xs.length
      · have hlt' : k < ys.length := by have := HL.out; omega
        obtain ⟨g, o, rfl, hs, hc⟩ := Hrd.out.elem Hok.out k hlt
        obtain ⟨g2, o2, rfl, hs2, hc2⟩ := Hrd'.out.elem Hok'.out k hlt'
        have ht1 := List.take_succ_eq_append_getElem hlt
        have ht2 := List.take_succ_eq_append_getElem hlt'
        have hx0 : (tEnt).ok xs[k] := Hok.out _ (List.getElem_mem hlt)
        have hy0 : (tEnt).ok ys[k] := Hok'.out _ (List.getElem_mem hlt')
        have hD : ∀ W, Ext wr W → ∀ j u, ((tEnt).enc xs[k])[j]? = some u → W.cell? ⟨g, o + k * 2 + j, none⟩ = some u := fun W hW j u hu => hW.cell (HX.out.cell (hc j u hu))
        have hD2 : ∀ W, Ext wr W → ∀ j u, ((tEnt).enc ys[k])[j]? = some u → W.cell? ⟨g2, o2 + k * 2 + j, none⟩ = some u := fun W hW j u hu => hW.cell (HX.out.cell (hc2 j u hu))
        have hNE : xs[k] ≠ ys[k] → xs ≠ ys := fun hne e => hne (by have := congrArg (fun (l : List En) => l[k]?) e; simp only [List.getElem?_eq_getElem hlt, List.getElem?_eq_getElem hlt'] at this; exact Option.some.inj this)
        clear hc hc2
        generalize xs[k] = x at ht1 hx0 hD hNE
        generalize ys[k] = y at ht2 hy0 hD2 hNE
        have HD := Lib.hid hD
        have HD2 := Lib.hid hD2
        have HX0 := Lib.hid hx0
        have HY0 := Lib.hid hy0
        have HT1 := Lib.hid ht1
        have HT2 := Lib.hid ht2
        have hi : (0 : Int) ≤ (k : Int) := by omega
        have hi2 : (k : Int) < (xs.length : Int) := by omega
        have hi3 : (k : Int) < (ys.length : Int) := by omega
        have hq := run_neqEn x y HX0.out HY0.out
        clear hD hD2 hx0 hy0 ht1 ht2
        by_cases hxy : x = y
        · rw [decide_eq_true hxy] at hq
          have HXY := Lib.hid hxy
          clear hxy hNE
          go_wp2_with fail
          refine wp_region_held_drew (S := fun W => Ext wr W) (by kernel_rfl) (Ext.refl _).drew (fun hHeld => ?_)
          refine wpAnyH_take (i := 0) (oi := ?oiz1) (v := ?vz1) ?hiz1 (by kernel_rfl) (by kernel_rfl) (by kernel_rfl) ?hQz1 ?hyz1 (by assumption) ?restz1
          case hiz1 => simp only [List.getElem?_toArray, List.getElem?_cons_zero, List.getElem?_cons_succ]; rfl
          case hQz1 => exact fun _ _ _ h => h
          case hyz1 => exact Or.inl ⟨by rfl, by intro w hSw; (try dsimp only at hSw); go_simp; with_reducible rfl⟩
          try simp only [Act.put, List.setIfInBounds_toArray, List.set_cons_zero, List.set_cons_succ]
          refine wpAnyH_take (i := 1) (oi := ?oiz2) (v := ?vz2) ?hiz2 (by kernel_rfl) (by kernel_rfl) (by kernel_rfl) ?hQz2 ?hyz2 (by assumption) ?restz2
          case hiz2 => simp only [List.getElem?_toArray, List.getElem?_cons_zero, List.getElem?_cons_succ]; rfl
          case hQz2 => exact fun _ _ _ h => h
          case hyz2 => exact Or.inl ⟨by rfl, by intro w hSw; (try dsimp only at hSw); go_simp; with_reducible rfl⟩
          try simp only [Act.put, List.setIfInBounds_toArray, List.set_cons_zero, List.set_cons_succ]
          refine wpAnyH_take (i := 2) (oi := ?oiz3) (v := ?vz3) ?hiz3 (by kernel_rfl) (by kernel_rfl) (by kernel_rfl) ?hQz3 ?hyz3 (by assumption) ?restz3
          case hiz3 => simp only [List.getElem?_toArray, List.getElem?_cons_zero, List.getElem?_cons_succ]; rfl
          case hQz3 => exact fun _ _ _ h => h
          case hyz3 => exact Or.inl ⟨by rfl, by intro w hSw; (try dsimp only at hSw); go_simp; with_reducible rfl⟩
          try simp only [Act.put, List.setIfInBounds_toArray, List.set_cons_zero, List.set_cons_succ]
          refine wpAnyH_take (i := 3) (oi := ?oiz4) (v := (.agg ((tEnt).enc x).toArray)) ?hiz4 (by kernel_rfl) (by kernel_rfl) (by kernel_rfl) ?hQz4 ?hyz4 (by assumption) ?restz4
          case hiz4 => simp only [List.getElem?_toArray, List.getElem?_cons_zero, List.getElem?_cons_succ]; rfl
          case hQz4 => exact fun _ _ _ h => h
          case hyz4 => refine yields_loadS g (o + k * 2) ((tEnt).enc x) (by rw [(tEnt).len _ HX0.out]; exact aggEntryI) (fun W hW => HD.out W hW) ?_ _ rfl rfl; rfl
          try simp only [Act.put, List.setIfInBounds_toArray, List.set_cons_zero, List.set_cons_succ]
          refine wpAnyH_take (i := 4) (oi := ?oiz5) (v := ?vz5) ?hiz5 (by kernel_rfl) (by kernel_rfl) (by kernel_rfl) ?hQz5 ?hyz5 (by assumption) ?restz5
          case hiz5 => simp only [List.getElem?_toArray, List.getElem?_cons_zero, List.getElem?_cons_succ]; rfl
          case hQz5 => exact fun _ _ _ h => h
          case hyz5 => exact Or.inl ⟨by rfl, by intro w hSw; (try dsimp only at hSw); go_simp; with_reducible rfl⟩
          try simp only [Act.put, List.setIfInBounds_toArray, List.set_cons_zero, List.set_cons_succ]
          refine wpAnyH_take (i := 5) (oi := ?oiz6) (v := ?vz6) ?hiz6 (by kernel_rfl) (by kernel_rfl) (by kernel_rfl) ?hQz6 ?hyz6 (by assumption) ?restz6
          case hiz6 => simp only [List.getElem?_toArray, List.getElem?_cons_zero, List.getElem?_cons_succ]; rfl
          case hQz6 => exact fun _ _ _ h => h
          case hyz6 => exact Or.inl ⟨by rfl, by intro w hSw; (try dsimp only at hSw); go_simp; with_reducible rfl⟩
          try simp only [Act.put, List.setIfInBounds_toArray, List.set_cons_zero, List.set_cons_succ]
          refine wpAnyH_take (i := 6) (oi := ?oiz7) (v := ?vz7) ?hiz7 (by kernel_rfl) (by kernel_rfl) (by kernel_rfl) ?hQz7 ?hyz7 (by assumption) ?restz7
          case hiz7 => simp only [List.getElem?_toArray, List.getElem?_cons_zero, List.getElem?_cons_succ]; rfl
          case hQz7 => exact fun _ _ _ h => h
          case hyz7 => exact Or.inl ⟨by rfl, by intro w hSw; (try dsimp only at hSw); go_simp; with_reducible rfl⟩
          try simp only [Act.put, List.setIfInBounds_toArray, List.set_cons_zero, List.set_cons_succ]
          refine wpAnyH_take (i := 7) (oi := ?oiz8) (v := (.agg ((tEnt).enc y).toArray)) ?hiz8 (by kernel_rfl) (by kernel_rfl) (by kernel_rfl) ?hQz8 ?hyz8 (by assumption) ?restz8
          case hiz8 => simp only [List.getElem?_toArray, List.getElem?_cons_zero, List.getElem?_cons_succ]; rfl
          case hQz8 => exact fun _ _ _ h => h
          case hyz8 => refine yields_loadS g2 (o2 + k * 2) ((tEnt).enc y) (by rw [(tEnt).len _ HY0.out]; exact aggEntryI) (fun W hW => HD2.out W hW) ?_ _ rfl rfl; rfl
          try simp only [Act.put, List.setIfInBounds_toArray, List.set_cons_zero, List.set_cons_succ]
          refine wpAnyH_take (i := 8) (oi := ?oiz9) (v := ?vz9) ?hiz9 (by kernel_rfl) (by kernel_rfl) (by kernel_rfl) ?hQz9 ?hyz9 (by assumption) ?restz9
          case hiz9 => simp only [List.getElem?_toArray, List.getElem?_cons_zero, List.getElem?_cons_succ]; rfl
          case hQz9 => exact fun _ _ _ h => h
          case hyz9 => exact Or.inl ⟨by rfl, by intro w hSw; (try dsimp only at hSw); go_simp; with_reducible rfl⟩
          try simp only [Act.put, List.setIfInBounds_toArray, List.set_cons_zero, List.set_cons_succ]
          refine wpAnyH_done (by kernel_rfl) ?_ _
          have HX1 := Lib.hid (HX.out.trans hHeld)
          clear hHeld
          go_wp2
          go_roundw
          case rel => exact ⟨k + 1, by omega, by go_num, by rw [HT1.out, HT2.out, HT.out, HXY.out], HX1.out⟩
          case measure => simp [intOf]; omega
        · rw [decide_eq_false hxy] at hq
          have HNE := Lib.hid (hNE hxy)
          clear hxy hNE
          go_wp2_with fail
          refine wp_region_held_drew (S := fun W => Ext wr W) (by kernel_rfl) (Ext.refl _).drew (fun hHeld => ?_)
          refine wpAnyH_take (i := 0) (oi := ?oiz10) (v := ?vz10) ?hiz10 (by kernel_rfl) (by kernel_rfl) (by kernel_rfl) ?hQz10 ?hyz10 (by assumption) ?restz10
          case hiz10 => simp only [List.getElem?_toArray, List.getElem?_cons_zero, List.getElem?_cons_succ]; rfl
          case hQz10 => exact fun _ _ _ h => h
          case hyz10 => exact Or.inl ⟨by rfl, by intro w hSw; (try dsimp only at hSw); go_simp; with_reducible rfl⟩
          try simp only [Act.put, List.setIfInBounds_toArray, List.set_cons_zero, List.set_cons_succ]
          refine wpAnyH_take (i := 1) (oi := ?oiz11) (v := ?vz11) ?hiz11 (by kernel_rfl) (by kernel_rfl) (by kernel_rfl) ?hQz11 ?hyz11 (by assumption) ?restz11
          case hiz11 => simp only [List.getElem?_toArray, List.getElem?_cons_zero, List.getElem?_cons_succ]; rfl
          case hQz11 => exact fun _ _ _ h => h
          case hyz11 => exact Or.inl ⟨by rfl, by intro w hSw; (try dsimp only at hSw); go_simp; with_reducible rfl⟩
          try simp only [Act.put, List.setIfInBounds_toArray, List.set_cons_zero, List.set_cons_succ]
          refine wpAnyH_take (i := 2) (oi := ?oiz12) (v := ?vz12) ?hiz12 (by kernel_rfl) (by kernel_rfl) (by kernel_rfl) ?hQz12 ?hyz12 (by assumption) ?restz12
          case hiz12 => simp only [List.getElem?_toArray, List.getElem?_cons_zero, List.getElem?_cons_succ]; rfl
          case hQz12 => exact fun _ _ _ h => h
          case hyz12 => exact Or.inl ⟨by rfl, by intro w hSw; (try dsimp only at hSw); go_simp; with_reducible rfl⟩
          try simp only [Act.put, List.setIfInBounds_toArray, List.set_cons_zero, List.set_cons_succ]
          refine wpAnyH_take (i := 3) (oi := ?oiz13) (v := (.agg ((tEnt).enc x).toArray)) ?hiz13 (by kernel_rfl) (by kernel_rfl) (by kernel_rfl) ?hQz13 ?hyz13 (by assumption) ?restz13
          case hiz13 => simp only [List.getElem?_toArray, List.getElem?_cons_zero, List.getElem?_cons_succ]; rfl
          case hQz13 => exact fun _ _ _ h => h
          case hyz13 => refine yields_loadS g (o + k * 2) ((tEnt).enc x) (by rw [(tEnt).len _ HX0.out]; exact aggEntryI) (fun W hW => HD.out W hW) ?_ _ rfl rfl; rfl
          try simp only [Act.put, List.setIfInBounds_toArray, List.set_cons_zero, List.set_cons_succ]
          refine wpAnyH_take (i := 4) (oi := ?oiz14) (v := ?vz14) ?hiz14 (by kernel_rfl) (by kernel_rfl) (by kernel_rfl) ?hQz14 ?hyz14 (by assumption) ?restz14
          case hiz14 => simp only [List.getElem?_toArray, List.getElem?_cons_zero, List.getElem?_cons_succ]; rfl
          case hQz14 => exact fun _ _ _ h => h
          case hyz14 => exact Or.inl ⟨by rfl, by intro w hSw; (try dsimp only at hSw); go_simp; with_reducible rfl⟩
          try simp only [Act.put, List.setIfInBounds_toArray, List.set_cons_zero, List.set_cons_succ]
          refine wpAnyH_take (i := 5) (oi := ?oiz15) (v := ?vz15) ?hiz15 (by kernel_rfl) (by kernel_rfl) (by kernel_rfl) ?hQz15 ?hyz15 (by assumption) ?restz15
          case hiz15 => simp only [List.getElem?_toArray, List.getElem?_cons_zero, List.getElem?_cons_succ]; rfl
          case hQz15 => exact fun _ _ _ h => h
          case hyz15 => exact Or.inl ⟨by rfl, by intro w hSw; (try dsimp only at hSw); go_simp; with_reducible rfl⟩
          try simp only [Act.put, List.setIfInBounds_toArray, List.set_cons_zero, List.set_cons_succ]
          refine wpAnyH_take (i := 6) (oi := ?oiz16) (v := ?vz16) ?hiz16 (by kernel_rfl) (by kernel_rfl) (by kernel_rfl) ?hQz16 ?hyz16 (by assumption) ?restz16
          case hiz16 => simp only [List.getElem?_toArray, List.getElem?_cons_zero, List.getElem?_cons_succ]; rfl
          case hQz16 => exact fun _ _ _ h => h
          case hyz16 => exact Or.inl ⟨by rfl, by intro w hSw; (try dsimp only at hSw); go_simp; with_reducible rfl⟩
          try simp only [Act.put, List.setIfInBounds_toArray, List.set_cons_zero, List.set_cons_succ]
          refine wpAnyH_take (i := 7) (oi := ?oiz17) (v := (.agg ((tEnt).enc y).toArray)) ?hiz17 (by kernel_rfl) (by kernel_rfl) (by kernel_rfl) ?hQz17 ?hyz17 (by assumption) ?restz17
          case hiz17 => simp only [List.getElem?_toArray, List.getElem?_cons_zero, List.getElem?_cons_succ]; rfl
          case hQz17 => exact fun _ _ _ h => h
          case hyz17 => refine yields_loadS g2 (o2 + k * 2) ((tEnt).enc y) (by rw [(tEnt).len _ HY0.out]; exact aggEntryI) (fun W hW => HD2.out W hW) ?_ _ rfl rfl; rfl
          try simp only [Act.put, List.setIfInBounds_toArray, List.set_cons_zero, List.set_cons_succ]
          refine wpAnyH_take (i := 8) (oi := ?oiz18) (v := ?vz18) ?hiz18 (by kernel_rfl) (by kernel_rfl) (by kernel_rfl) ?hQz18 ?hyz18 (by assumption) ?restz18
          case hiz18 => simp only [List.getElem?_toArray, List.getElem?_cons_zero, List.getElem?_cons_succ]; rfl
          case hQz18 => exact fun _ _ _ h => h
          case hyz18 => exact Or.inl ⟨by rfl, by intro w hSw; (try dsimp only at hSw); go_simp; with_reducible rfl⟩
          try simp only [Act.put, List.setIfInBounds_toArray, List.set_cons_zero, List.set_cons_succ]
          refine wpAnyH_done (by kernel_rfl) ?_ _
          have HX1 := Lib.hid (HX.out.trans hHeld)
          clear hHeld
          go_wp2
          go_ret
          exact ⟨by rw [← HR.out, decide_eq_false HNE.out]; rfl, HX1.out⟩
      · obtain rfl : k = xs.length := by omega
        have he := HT.out
        rw [List.take_length, HL.out, List.take_length] at he
        have HE := Lib.hid he
        clear he
        go_wp2
        go_ret
        exact ⟨by rw [← HR.out, decide_eq_true HE.out]; rfl, HX.out⟩
  · have hl1 : ((xs.length : Int) != (ys.length : Int)) = true := by rw [bne_iff_ne]; omega
    go_enter Try.func122, Try.ntmps122
    go_wp2
    go_ret
    exact ⟨by rw [← HR.out, decide_eq_false (fun e => hl (by rw [e]))]; rfl, Ext.refl _⟩
set_option maxHeartbeats 1000000 in
set_option maxRecDepth 100000 in
theorem specSameEntries_any (v u : Value) (xs ys : List En) (w : World) (S S' : Nat → Prop) (h : RdL tEnt w S v xs) (h' : RdL tEnt w S' u ys) :
    Calls Try.prog 60 #[v, u] w fun e w' => e = .returned (.bool (decide (xs = ys))) ∧ Ext w w' := by
  have hc := l04Same_any v u xs ys w S S' h h'
  obtain ⟨A, cap, rfl, _⟩ := h
  obtain ⟨A', cap', rfl, _⟩ := h'
  go_enter Try.func60, Try.ntmps60
  go_wp2_with fail
  refine hc.mono ?_
  rintro e w1 ⟨rfl, hx⟩
  have HX := Lib.hid hx
  clear hx hc
  go_wp2
  go_ret
  exact ⟨rfl, HX.out⟩
end Go.Proofs.Ytmndkbheehcoaaa
/- Whether a byte string is too long for a law. No condition. -/
namespace Go.Proofs.Ytmndkbheehcoaaa
open Go.RowKit
set_option linter.unusedVariables false
set_option linter.unusedSimpArgs false
set_option maxHeartbeats 1000000 in
set_option maxRecDepth 100000 in
theorem f6big_no (A : Option Addr) (n c : Nat) (w : World) (h : ¬ 4096 < n) : Calls Try.prog 34 #[.slice A n c] w fun e w' => e = .returned (.bool false) ∧ w = w' := by
  have h := f6big_any A n c w
  rwa [decide_eq_false (by omega)] at h
set_option maxHeartbeats 1000000 in
set_option maxRecDepth 100000 in
theorem f6big_yes (A : Option Addr) (n c : Nat) (w : World) (h : 4096 < n) : Calls Try.prog 34 #[.slice A n c] w fun e w' => e = .returned (.bool true) ∧ w = w' := by
  have h := f6big_any A n c w
  rwa [decide_eq_true (by omega)] at h
end Go.Proofs.Ytmndkbheehcoaaa
/- Two variables of a struct's type, made and filled at once. No condition. -/
namespace Go.Proofs.Ytmndkbheehcoaaa
open Go.RowKit Go.BigFrame
set_option linter.unusedVariables false
set_option linter.unusedSimpArgs false

theorem setRow_alloc2 (w : World) (cs cs' : Array Value) (t : TypeId) (o : Obj) : ((w.alloc (.cells cs t)).alloc o).setRow w.heap.size cs' = (w.alloc (.cells cs' t)).alloc o := by
  unfold World.setRow World.alloc
  congr 1
  apply Array.ext
  · simp
  · intro i h1 h2
    simp only [Array.getElem_modify, Array.getElem_push, Array.size_push]
    by_cases h : i < w.heap.size
    · have hne : w.heap.size ≠ i := by omega
      simp [h, hne, Nat.lt_succ_of_lt h]
    · by_cases h3 : w.heap.size = i
      · subst h3
        simp
      · simp [h3, h]
        split
        · omega
        · rfl
theorem wpl_two {P : Program} {ops : Array Oper} {rest : List Oper} {o1 o2 o3 o4 : Oper} {a : Act} {w : World} {Q : Exit → Act → World → Prop} {t n : Nat} {Z cs1 cs2 : Array Value} (ht : Agg P t n) (hs1 : St n cs1) (hs2 : St n cs2) (hz : (P.info? t).map (·.zero) = some (some (.agg Z))) (hZ : Z.size = n)
    (g1 : o1.guard = none) (p1 : o1.op = .alloc t) (g2 : o2.guard = none) (p2 : o2.op = .alloc t) (g3 : o3.guard = none) (x3 y3 : Operand) (p3 : o3.op = .store t x3 y3) (d3 : o3.dst = none) (g4 : o4.guard = none) (x4 y4 : Operand) (p4 : o4.op = .store t x4 y4) (d4 : o4.dst = none)
    (e3 : ((a.put o1.dst (.pointer (some ⟨w.heap.size, 0, none⟩))).put o2.dst (.pointer (some ⟨w.heap.size + 1, 0, none⟩))).eval x3 = .pointer (some ⟨w.heap.size, 0, none⟩))
    (f3 : ((a.put o1.dst (.pointer (some ⟨w.heap.size, 0, none⟩))).put o2.dst (.pointer (some ⟨w.heap.size + 1, 0, none⟩))).eval y3 = .agg cs1)
    (e4 : ((a.put o1.dst (.pointer (some ⟨w.heap.size, 0, none⟩))).put o2.dst (.pointer (some ⟨w.heap.size + 1, 0, none⟩))).eval x4 = .pointer (some ⟨w.heap.size + 1, 0, none⟩))
    (f4 : ((a.put o1.dst (.pointer (some ⟨w.heap.size, 0, none⟩))).put o2.dst (.pointer (some ⟨w.heap.size + 1, 0, none⟩))).eval y4 = .agg cs2)
    (h : wpList P ops Q rest ((a.put o1.dst (.pointer (some ⟨w.heap.size, 0, none⟩))).put o2.dst (.pointer (some ⟨w.heap.size + 1, 0, none⟩))) ((w.alloc (.cells cs1 t)).alloc (.cells cs2 t))) :
    wpList P ops Q (o1 :: o2 :: o3 :: o4 :: rest) a w := by
  have hsz : (w.alloc (.cells Z t)).heap.size = w.heap.size + 1 := by simp
  have hsz1 : (w.alloc (.cells cs1 t)).heap.size = w.heap.size + 1 := by simp
  refine wpl_alloc Z hz g1 p1 ?_
  refine wpl_alloc Z hz g2 p2 ?_
  rw [hsz]
  refine wpl_storeB ((Blk.new w t Z).alloc _) ht hs1 hZ g3 x3 y3 p3 e3 f3 d3 ?_
  rw [setRow_alloc2]
  refine wpl_storeB (g := w.heap.size + 1) (e := t) (cur := Z) (by have := Blk.new (w.alloc (.cells cs1 t)) t Z; rwa [hsz1] at this) ht hs2 hZ g4 x4 y4 p4 e4 f4 d4 ?_
  have := setRow_alloc (w.alloc (.cells cs1 t)) Z cs2 t
  rw [hsz1] at this
  rw [this]
  exact h
/-- the same load where a guard lets it by -/
theorem wpl_loadBW {P : Program} {ops : Array Oper} {rest : List Oper} {o : Oper} {a : Act} {w : World} {Q : Exit → Act → World → Prop} {t g e n : Nat} {cs : Array Value} (hb : Blk w g e cs) (ht : Agg P t n) (hn : cs.size = n) (hw : Region.wanted o (yielded ops a.tmps) = true) (x : Operand) (ho : o.op = .load t x) (hx : a.eval x = .pointer (some ⟨g, 0, none⟩))
    (h : wpList P ops Q rest (a.put o.dst (.agg cs)) w) : wpList P ops Q (o :: rest) a w := by
  refine wpList_want hw fun K hK => ?_
  unfold Oper.wp execOp
  simp only [ho, hx, Instr.loadAt, Instr.sureAddr, Sem.run_bind, Sem.run_pure, Result.andThen_ok, run_loadB hb ht hn]
  exact hK _ _ h
end Go.Proofs.Ytmndkbheehcoaaa
/- The walk of the law FnEntries. No condition. -/
namespace Go.Proofs.Ytmndkbheehcoaaa
open Go.RowKit
set_option linter.unusedVariables false
set_option linter.unusedSimpArgs false

set_option maxHeartbeats 4000000 in
set_option maxRecDepth 100000 in
theorem FnEntries_any (w : World) (v0 : Value) (x0 : List Int) (S0 : Nat → Prop) (h0 : RdL tByte w S0 v0 x0) (v1 : Value) (x1 : List Int) (S1 : Nat → Prop) (h1 : RdL tByte w S1 v1 x1) :
    Calls Try.prog 10 #[v0, v1] w fun e w' => e = .returned (.bool true) ∧ Ext w w' := by
  obtain ⟨A0, cap0, rfl, _⟩ := id h0
  obtain ⟨A1, cap1, rfl, _⟩ := id h1
  have H0 := Lib.hid h0
  have H1 := Lib.hid h1
  clear h0 h1
  by_cases hb0 : 4096 < x0.length
  · go_enter Try.func10, Try.ntmps10
    go_wp2_with fail
    refine (f6big_yes _ _ _ _ hb0).mono ?_
    rintro e w1 ⟨rfl, rfl⟩
    go_wp2
    go_ret
    exact ⟨rfl, Ext.refl _⟩
  by_cases hb1 : 4096 < x1.length
  · go_enter Try.func10, Try.ntmps10
    go_wp2_with fail
    refine (f6big_no _ _ _ _ hb0).mono ?_
    rintro e w1 ⟨rfl, rfl⟩
    go_wp2_with fail
    refine (f6big_yes _ _ _ _ hb1).mono ?_
    rintro e w1 ⟨rfl, rfl⟩
    go_wp2
    go_ret
    exact ⟨rfl, Ext.refl _⟩
  go_enter Try.func10, Try.ntmps10
  go_wp2_with fail
  refine (f6big_no _ _ _ _ hb0).mono ?_
  rintro e w1 ⟨rfl, rfl⟩
  go_wp2_with fail
  refine (f6big_no _ _ _ _ hb1).mono ?_
  rintro e w1 ⟨rfl, rfl⟩
  clear hb0 hb1
  go_wp2_with fail
  refine (p6Map_any _ x0 9 (by decide) _ _ (H0.out.ext (by decide) (Ext.refl _))).mono ?_
  rintro e w1 ⟨vA, A, rfl, ho, hAk, hAl, hx⟩
  skip
  have XW := Lib.hid hx
  obtain ⟨AA, cA, rfl⟩ := ho.shape
  have OA := Lib.hid ho.rd
  clear ho
  clear hx
  have HAk := Lib.hid hAk
  clear hAk
  go_wp2_with fail
  refine (p6Entry_any _ x1 _ _ (H1.out.ext (by decide) XW.out)).mono ?_
  rintro e w2 ⟨e, rfl, heo, hee, hx⟩
  skip
  replace OA := Lib.hid (OA.out.ext (by decide) hx)
  replace XW := Lib.hid (XW.out.trans hx)
  clear hx
  have HEo := Lib.hid heo
  have HSE := Lib.hid (show St 2 #[.string e.1, .string e.2] from ⟨rfl, fun u hu => by simp at hu; rcases hu with rfl | rfl <;> rfl⟩)
  have HF := Lib.hid (ent_all HAk.out (by omega) hee)
  have HNE := Lib.hid hee
  clear heo hee
  obtain ⟨M, N, hput, hMk, hMl, hget, hdel, hNk, hNl, hgone, hold⟩ := HF.out
  clear HF
  have HPUT := Lib.hid hput
  clear hput
  have HMK := Lib.hid hMk
  clear hMk
  have HGET := Lib.hid hget
  clear hget
  have HDEL := Lib.hid hdel
  clear hdel
  have HNK := Lib.hid hNk
  clear hNk
  have HGONE := Lib.hid hgone
  clear hgone
  have HMAP := Lib.hid (show mapKR A = ((trF A.length A).key, 0) by rw [mapKR, HAk.out]; rfl)
  have HKK := Lib.hid (Tr.key_ok (trF A.length A))
  have hkk := HKK.out.1
  generalize (trF A.length A).key = K at HMAP HKK hkk
  have heql : ∀ W, (binOp .eql 27 (.agg (numsA .u8 K)) (.agg (numsA .u8 K))).run Try.prog W = .ok (.bool true) W := fun W => by
    have := run_eqKey K K HKK.out HKK.out W
    rw [decide_eq_true rfl] at this
    exact this
  have hq : (e.2.toList != e.2.toList) = false := by simp
  rcases hold with ⟨y, hold, hyv, hback⟩ | ⟨hold, hNA⟩
  · have HOLD := Lib.hid hold
    have HBACK := Lib.hid hback
    have HYo := Lib.hid (show tEnt.ok (e.1, y) from ⟨HEo.out.1, Nat.le_trans (entB_le hyv).2.2 (by decide)⟩)
    have hq2 : (y.toList != y.toList) = false := by simp
    clear hold hback hyv
    go_wp2_with (first | (refine wpl_storeNewB aggEntryI HSE.out rfl rfl _ _ rfl rfl rfl rfl ?_) | (refine wpl_loadB (Blk.new w2 29 #[.string e.1, .string e.2]) aggEntryI rfl rfl _ rfl rfl ?_))
    refine (implGetEntry_any _ A e.1 HEo.out.1 _ _ (OA.out.ext (by decide) (ext_alloc _ _))).mono ?_
    rintro e w3 ⟨he, hx⟩
    skip
    rw [HOLD.out] at he
    subst he
    have hE := (ext_alloc w2 (.cells #[.string e.1, .string e.2] 29)).trans hx
    replace OA := Lib.hid (OA.out.ext (by decide) hE)
    replace XW := Lib.hid (XW.out.trans hE)
    clear hE
    have BE := Lib.hid ((Blk.new w2 29 #[.string e.1, .string e.2]).ext hx)
    clear hx
    have cE0 := BE.out.at_ 0 rfl
    have cE1 := BE.out.at_ 1 rfl
    go_wp2_with (first | (refine wpl_loadB BE.out aggEntryI rfl rfl _ rfl rfl ?_))
    refine (specGetEntry_any _ A e.1 HEo.out.1 _ _ OA.out).mono ?_
    rintro e w4 ⟨he, hx⟩
    skip
    rw [HOLD.out] at he
    subst he
    clear cE0 cE1
    replace OA := Lib.hid (OA.out.ext (by decide) hx)
    replace BE := Lib.hid (BE.out.ext hx)
    replace XW := Lib.hid (XW.out.trans hx)
    clear hx
    have cE0 := BE.out.at_ 0 rfl
    have cE1 := BE.out.at_ 1 rfl
    go_wp2_with (first | (refine wpl_loadB BE.out aggEntryI rfl rfl _ rfl rfl ?_))
    refine (implPutEntry_any _ A e HEo.out _ _ OA.out).mono ?_
    rintro e w5 ⟨vB, he, ho, hx⟩
    skip
    rw [HPUT.out] at he ho
    subst he
    dsimp only at ho
    clear cE0 cE1
    replace OA := Lib.hid (OA.out.ext (by decide) hx)
    replace BE := Lib.hid (BE.out.ext hx)
    replace XW := Lib.hid (XW.out.trans hx)
    obtain ⟨AB, cB, rfl⟩ := ho.shape
    have OB := Lib.hid ho.rd
    clear ho
    clear hx
    have cE0 := BE.out.at_ 0 rfl
    have cE1 := BE.out.at_ 1 rfl
    go_wp2_with (first | (refine wpl_loadB BE.out aggEntryI rfl rfl _ rfl rfl ?_))
    refine (specPutEntry_any _ A e HEo.out _ _ OA.out).mono ?_
    rintro e w6 ⟨vM, he, ho, hx⟩
    skip
    rw [HPUT.out] at he ho
    subst he
    dsimp only at ho
    clear cE0 cE1
    replace OA := Lib.hid (OA.out.ext (by decide) hx)
    replace OB := Lib.hid (OB.out.ext (by decide) hx)
    replace BE := Lib.hid (BE.out.ext hx)
    replace XW := Lib.hid (XW.out.trans hx)
    obtain ⟨AM, cM, rfl⟩ := ho.shape
    have OM := Lib.hid ho.rd
    clear ho
    clear hx
    have cE0 := BE.out.at_ 0 rfl
    have cE1 := BE.out.at_ 1 rfl
    go_wp2_with (first | (refine wpl_loadB BE.out aggEntryI rfl rfl _ rfl rfl ?_))
    refine (implGetEntry_any _ M e.1 HEo.out.1 _ _ OM.out).mono ?_
    rintro e w7 ⟨he, hx⟩
    skip
    rw [HGET.out] at he
    subst he
    clear cE0 cE1
    replace OA := Lib.hid (OA.out.ext (by decide) hx)
    replace OB := Lib.hid (OB.out.ext (by decide) hx)
    replace OM := Lib.hid (OM.out.ext (by decide) hx)
    replace BE := Lib.hid (BE.out.ext hx)
    replace XW := Lib.hid (XW.out.trans hx)
    clear hx
    have cE0 := BE.out.at_ 0 rfl
    have cE1 := BE.out.at_ 1 rfl
    go_wp2_with (first | (refine wpl_loadB BE.out aggEntryI rfl rfl _ rfl rfl ?_))
    refine (implDeleteEntry_any _ M e.1 HEo.out.1 _ _ OM.out).mono ?_
    rintro e w8 ⟨vC, he, ho, hx⟩
    skip
    rw [HDEL.out] at he ho
    subst he
    dsimp only at ho
    clear cE0 cE1
    replace OA := Lib.hid (OA.out.ext (by decide) hx)
    replace OB := Lib.hid (OB.out.ext (by decide) hx)
    replace OM := Lib.hid (OM.out.ext (by decide) hx)
    replace BE := Lib.hid (BE.out.ext hx)
    replace XW := Lib.hid (XW.out.trans hx)
    obtain ⟨AC, cC, rfl⟩ := ho.shape
    have OC := Lib.hid ho.rd
    clear ho
    clear hx
    have cE0 := BE.out.at_ 0 rfl
    have cE1 := BE.out.at_ 1 rfl
    go_wp2_with (first | (refine wpl_loadB BE.out aggEntryI rfl rfl _ rfl rfl ?_))
    refine (specDeleteEntry_any _ M e.1 HEo.out.1 _ _ OM.out).mono ?_
    rintro e w9 ⟨vN, he, ho, hx⟩
    skip
    rw [HDEL.out] at he ho
    subst he
    dsimp only at ho
    clear cE0 cE1
    replace OA := Lib.hid (OA.out.ext (by decide) hx)
    replace OB := Lib.hid (OB.out.ext (by decide) hx)
    replace OM := Lib.hid (OM.out.ext (by decide) hx)
    replace OC := Lib.hid (OC.out.ext (by decide) hx)
    replace BE := Lib.hid (BE.out.ext hx)
    replace XW := Lib.hid (XW.out.trans hx)
    obtain ⟨AN, cN, rfl⟩ := ho.shape
    have ON := Lib.hid ho.rd
    clear ho
    clear hx
    have cE0 := BE.out.at_ 0 rfl
    have cE1 := BE.out.at_ 1 rfl
    go_wp2_with (first | (refine wpl_loadB BE.out aggEntryI rfl rfl _ rfl rfl ?_) | (refine wpl_loadBW BE.out aggEntryI rfl rfl _ rfl rfl ?_))
    refine (specSameEntries_any _ _ M M _ _ _ OB.out OM.out).mono ?_
    rintro e w10 ⟨he, hx⟩
    skip
    rw [decide_eq_true rfl] at he
    subst he
    clear cE0 cE1
    replace OA := Lib.hid (OA.out.ext (by decide) hx)
    replace OB := Lib.hid (OB.out.ext (by decide) hx)
    replace OM := Lib.hid (OM.out.ext (by decide) hx)
    replace OC := Lib.hid (OC.out.ext (by decide) hx)
    replace ON := Lib.hid (ON.out.ext (by decide) hx)
    replace BE := Lib.hid (BE.out.ext hx)
    replace XW := Lib.hid (XW.out.trans hx)
    clear hx
    have cE0 := BE.out.at_ 0 rfl
    have cE1 := BE.out.at_ 1 rfl
    go_wp2_with (first | (refine wpl_loadB BE.out aggEntryI rfl rfl _ rfl rfl ?_) | (refine wpl_loadBW BE.out aggEntryI rfl rfl _ rfl rfl ?_))
    refine (specSameEntries_any _ _ N N _ _ _ OC.out ON.out).mono ?_
    rintro e w11 ⟨he, hx⟩
    skip
    rw [decide_eq_true rfl] at he
    subst he
    clear cE0 cE1
    replace OA := Lib.hid (OA.out.ext (by decide) hx)
    replace OB := Lib.hid (OB.out.ext (by decide) hx)
    replace OM := Lib.hid (OM.out.ext (by decide) hx)
    replace OC := Lib.hid (OC.out.ext (by decide) hx)
    replace ON := Lib.hid (ON.out.ext (by decide) hx)
    replace BE := Lib.hid (BE.out.ext hx)
    replace XW := Lib.hid (XW.out.trans hx)
    clear hx
    have cE0 := BE.out.at_ 0 rfl
    have cE1 := BE.out.at_ 1 rfl
    go_wp2_with (first | (refine wpl_loadB BE.out aggEntryI rfl rfl _ rfl rfl ?_) | (refine wpl_loadBW BE.out aggEntryI rfl rfl _ rfl rfl ?_))
    refine (validEntries_any _ M _ _ OM.out).mono ?_
    rintro e w12 ⟨he, hx⟩
    skip
    rw [HMK.out] at he
    subst he
    clear cE0 cE1
    replace OA := Lib.hid (OA.out.ext (by decide) hx)
    replace OB := Lib.hid (OB.out.ext (by decide) hx)
    replace OM := Lib.hid (OM.out.ext (by decide) hx)
    replace OC := Lib.hid (OC.out.ext (by decide) hx)
    replace ON := Lib.hid (ON.out.ext (by decide) hx)
    replace BE := Lib.hid (BE.out.ext hx)
    replace XW := Lib.hid (XW.out.trans hx)
    clear hx
    have cE0 := BE.out.at_ 0 rfl
    have cE1 := BE.out.at_ 1 rfl
    go_wp2_with (first | (refine wpl_loadB BE.out aggEntryI rfl rfl _ rfl rfl ?_) | (refine wpl_loadBW BE.out aggEntryI rfl rfl _ rfl rfl ?_))
    refine (validEntry_any e.1 e.2 HEo.out.1 HEo.out.2 _).mono ?_
    rintro e w13 ⟨he, hx⟩
    skip
    rw [HNE.out] at he
    subst he
    clear cE0 cE1
    replace OA := Lib.hid (OA.out.ext (by decide) hx)
    replace OB := Lib.hid (OB.out.ext (by decide) hx)
    replace OM := Lib.hid (OM.out.ext (by decide) hx)
    replace OC := Lib.hid (OC.out.ext (by decide) hx)
    replace ON := Lib.hid (ON.out.ext (by decide) hx)
    replace BE := Lib.hid (BE.out.ext hx)
    replace XW := Lib.hid (XW.out.trans hx)
    clear hx
    have cE0 := BE.out.at_ 0 rfl
    have cE1 := BE.out.at_ 1 rfl
    go_wp2_with (first | (refine wpl_loadB BE.out aggEntryI rfl rfl _ rfl rfl ?_))
    refine (specPutEntry_any _ N (e.1, y) HYo.out _ _ ON.out).mono ?_
    rintro e w14 ⟨vK, he, ho, hx⟩
    skip
    rw [HBACK.out] at he ho
    subst he
    dsimp only at ho
    clear cE0 cE1
    replace OA := Lib.hid (OA.out.ext (by decide) hx)
    replace OB := Lib.hid (OB.out.ext (by decide) hx)
    replace OM := Lib.hid (OM.out.ext (by decide) hx)
    replace OC := Lib.hid (OC.out.ext (by decide) hx)
    replace ON := Lib.hid (ON.out.ext (by decide) hx)
    replace BE := Lib.hid (BE.out.ext hx)
    replace XW := Lib.hid (XW.out.trans hx)
    obtain ⟨AK, cK, rfl⟩ := ho.shape
    have OK := Lib.hid ho.rd
    clear ho
    clear hx
    have cE0 := BE.out.at_ 0 rfl
    have cE1 := BE.out.at_ 1 rfl
    go_wp2_with (first | (refine wpl_loadB BE.out aggEntryI rfl rfl _ rfl rfl ?_))
    refine (implMapKey_any _ A _ _ OA.out).mono ?_
    rintro e w15 ⟨he, hx⟩
    skip
    rw [HMAP.out] at he
    subst he
    clear cE0 cE1
    replace OA := Lib.hid (OA.out.ext (by decide) hx)
    replace OB := Lib.hid (OB.out.ext (by decide) hx)
    replace OM := Lib.hid (OM.out.ext (by decide) hx)
    replace OC := Lib.hid (OC.out.ext (by decide) hx)
    replace ON := Lib.hid (ON.out.ext (by decide) hx)
    replace OK := Lib.hid (OK.out.ext (by decide) hx)
    replace BE := Lib.hid (BE.out.ext hx)
    replace XW := Lib.hid (XW.out.trans hx)
    clear hx
    have cE0 := BE.out.at_ 0 rfl
    have cE0p := (BE.out.alloc (.cells (numsA .u8 K) 27)).at_ 0 rfl
    have cE1 := BE.out.at_ 1 rfl
    have cE1p := (BE.out.alloc (.cells (numsA .u8 K) 27)).at_ 1 rfl
    go_wp2_with (first | (refine wpl_storeNew aggKey hkk rfl rfl _ _ rfl rfl rfl rfl ?_) | (refine wpl_loadB (Blk.new w15 27 (numsA .u8 K)) aggKey (sizeN hkk) rfl _ rfl rfl ?_) | (refine wpl_loadB BE.out aggEntryI rfl rfl _ rfl rfl ?_) | (refine wpl_loadB (BE.out.alloc _) aggEntryI rfl rfl _ rfl rfl ?_))
    refine (implMapKey_any _ A _ _ (OK.out.ext (by decide) (ext_alloc _ _))).mono ?_
    rintro e w16 ⟨he, hx⟩
    skip
    rw [HMAP.out] at he
    subst he
    clear cE0 cE1 cE0p cE1p
    have hE := (ext_alloc w15 (.cells (numsA .u8 K) 27)).trans hx
    replace OA := Lib.hid (OA.out.ext (by decide) hE)
    replace OB := Lib.hid (OB.out.ext (by decide) hE)
    replace OM := Lib.hid (OM.out.ext (by decide) hE)
    replace OC := Lib.hid (OC.out.ext (by decide) hE)
    replace ON := Lib.hid (ON.out.ext (by decide) hE)
    replace OK := Lib.hid (OK.out.ext (by decide) hE)
    replace BE := Lib.hid (BE.out.ext hE)
    replace XW := Lib.hid (XW.out.trans hE)
    clear hE
    have BJ := Lib.hid ((Blk.new w15 27 (numsA .u8 K)).ext hx)
    clear hx
    have cE0 := BE.out.at_ 0 rfl
    have cE0p := (BE.out.alloc (.cells (numsA .u8 K) 27)).at_ 0 rfl
    have cE1 := BE.out.at_ 1 rfl
    have cE1p := (BE.out.alloc (.cells (numsA .u8 K) 27)).at_ 1 rfl
    go_wp2_with (first | (refine wpl_storeNew aggKey hkk rfl rfl _ _ rfl rfl rfl rfl ?_) | (refine wpl_loadB (Blk.new w16 27 (numsA .u8 K)) aggKey (sizeN hkk) rfl _ rfl rfl ?_) | (refine wpl_loadB BE.out aggEntryI rfl rfl _ rfl rfl ?_) | (refine wpl_loadB (BE.out.alloc _) aggEntryI rfl rfl _ rfl rfl ?_) | (refine wpl_loadB BJ.out aggKey (sizeN hkk) rfl _ rfl rfl ?_) | (refine wpl_loadB (BJ.out.alloc _) aggKey (sizeN hkk) rfl _ rfl rfl ?_))
    refine (specMapKey_any _ A _ _ (OA.out.ext (by decide) (ext_alloc _ _))).mono ?_
    rintro e w17 ⟨he, hx⟩
    skip
    rw [HMAP.out] at he
    subst he
    clear cE0 cE1 cE0p cE1p
    have hE := (ext_alloc w16 (.cells (numsA .u8 K) 27)).trans hx
    replace OA := Lib.hid (OA.out.ext (by decide) hE)
    replace OB := Lib.hid (OB.out.ext (by decide) hE)
    replace OM := Lib.hid (OM.out.ext (by decide) hE)
    replace OC := Lib.hid (OC.out.ext (by decide) hE)
    replace ON := Lib.hid (ON.out.ext (by decide) hE)
    replace OK := Lib.hid (OK.out.ext (by decide) hE)
    replace BE := Lib.hid (BE.out.ext hE)
    replace BJ := Lib.hid (BJ.out.ext hE)
    replace XW := Lib.hid (XW.out.trans hE)
    clear hE
    have BK := Lib.hid ((Blk.new w16 27 (numsA .u8 K)).ext hx)
    clear hx
    have cE0 := BE.out.at_ 0 rfl
    have cE0p := (BE.out.alloc (.cells (numsA .u8 K) 27)).at_ 0 rfl
    have cE1 := BE.out.at_ 1 rfl
    have cE1p := (BE.out.alloc (.cells (numsA .u8 K) 27)).at_ 1 rfl
    go_wp2_with (first | (refine wpl_storeNew aggKey hkk rfl rfl _ _ rfl rfl rfl rfl ?_) | (refine wpl_loadB (Blk.new w17 27 (numsA .u8 K)) aggKey (sizeN hkk) rfl _ rfl rfl ?_) | (refine wpl_loadB BE.out aggEntryI rfl rfl _ rfl rfl ?_) | (refine wpl_loadB (BE.out.alloc _) aggEntryI rfl rfl _ rfl rfl ?_) | (refine wpl_loadB BJ.out aggKey (sizeN hkk) rfl _ rfl rfl ?_) | (refine wpl_loadB (BJ.out.alloc _) aggKey (sizeN hkk) rfl _ rfl rfl ?_) | (refine wpl_loadB BK.out aggKey (sizeN hkk) rfl _ rfl rfl ?_) | (refine wpl_loadB (BK.out.alloc _) aggKey (sizeN hkk) rfl _ rfl rfl ?_))
    refine (implGetEntry_any _ N e.1 HEo.out.1 _ _ (ON.out.ext (by decide) (ext_alloc _ _))).mono ?_
    rintro e w18 ⟨he, hx⟩
    skip
    rw [HGONE.out] at he
    subst he
    clear cE0 cE1 cE0p cE1p
    have hE := (ext_alloc w17 (.cells (numsA .u8 K) 27)).trans hx
    replace OA := Lib.hid (OA.out.ext (by decide) hE)
    replace OB := Lib.hid (OB.out.ext (by decide) hE)
    replace OM := Lib.hid (OM.out.ext (by decide) hE)
    replace OC := Lib.hid (OC.out.ext (by decide) hE)
    replace ON := Lib.hid (ON.out.ext (by decide) hE)
    replace OK := Lib.hid (OK.out.ext (by decide) hE)
    replace BE := Lib.hid (BE.out.ext hE)
    replace BJ := Lib.hid (BJ.out.ext hE)
    replace BK := Lib.hid (BK.out.ext hE)
    replace XW := Lib.hid (XW.out.trans hE)
    clear hE
    have BL := Lib.hid ((Blk.new w17 27 (numsA .u8 K)).ext hx)
    clear hx
    have cE0 := BE.out.at_ 0 rfl
    have cE1 := BE.out.at_ 1 rfl
    go_wp2_with (first | (refine wpl_loadB BE.out aggEntryI rfl rfl _ rfl rfl ?_) | (refine wpl_loadB BJ.out aggKey (sizeN hkk) rfl _ rfl rfl ?_) | (refine wpl_loadB BK.out aggKey (sizeN hkk) rfl _ rfl rfl ?_) | (refine wpl_loadB BL.out aggKey (sizeN hkk) rfl _ rfl rfl ?_) | (refine wpl_loadBW BE.out aggEntryI rfl rfl _ rfl rfl ?_) | (refine wpl_loadBW BJ.out aggKey (sizeN hkk) rfl _ rfl rfl ?_) | (refine wpl_loadBW BK.out aggKey (sizeN hkk) rfl _ rfl rfl ?_) | (refine wpl_loadBW BL.out aggKey (sizeN hkk) rfl _ rfl rfl ?_))
    refine (specSameEntries_any _ _ A A _ _ _ OK.out OA.out).mono ?_
    rintro e w19 ⟨he, hx⟩
    skip
    rw [decide_eq_true rfl] at he
    subst he
    clear cE0 cE1
    replace OA := Lib.hid (OA.out.ext (by decide) hx)
    replace OB := Lib.hid (OB.out.ext (by decide) hx)
    replace OM := Lib.hid (OM.out.ext (by decide) hx)
    replace OC := Lib.hid (OC.out.ext (by decide) hx)
    replace ON := Lib.hid (ON.out.ext (by decide) hx)
    replace OK := Lib.hid (OK.out.ext (by decide) hx)
    replace BE := Lib.hid (BE.out.ext hx)
    replace BJ := Lib.hid (BJ.out.ext hx)
    replace BK := Lib.hid (BK.out.ext hx)
    replace BL := Lib.hid (BL.out.ext hx)
    replace XW := Lib.hid (XW.out.trans hx)
    clear hx
    have cE0 := BE.out.at_ 0 rfl
    have cE1 := BE.out.at_ 1 rfl
    go_wp2_with (first | (refine wpl_loadB BE.out aggEntryI rfl rfl _ rfl rfl ?_) | (refine wpl_loadB BJ.out aggKey (sizeN hkk) rfl _ rfl rfl ?_) | (refine wpl_loadB BK.out aggKey (sizeN hkk) rfl _ rfl rfl ?_) | (refine wpl_loadB BL.out aggKey (sizeN hkk) rfl _ rfl rfl ?_) | (refine wpl_loadBW BE.out aggEntryI rfl rfl _ rfl rfl ?_) | (refine wpl_loadBW BJ.out aggKey (sizeN hkk) rfl _ rfl rfl ?_) | (refine wpl_loadBW BK.out aggKey (sizeN hkk) rfl _ rfl rfl ?_) | (refine wpl_loadBW BL.out aggKey (sizeN hkk) rfl _ rfl rfl ?_))
    go_ret
    exact ⟨rfl, XW.out⟩
  · have hNA2 := hNA.symm
    subst hNA2
    have HOLD := Lib.hid hold
    clear hold
    go_wp2_with (first | (refine wpl_storeNewB aggEntryI HSE.out rfl rfl _ _ rfl rfl rfl rfl ?_) | (refine wpl_loadB (Blk.new w2 29 #[.string e.1, .string e.2]) aggEntryI rfl rfl _ rfl rfl ?_))
    refine (implGetEntry_any _ A e.1 HEo.out.1 _ _ (OA.out.ext (by decide) (ext_alloc _ _))).mono ?_
    rintro e w3 ⟨he, hx⟩
    skip
    rw [HOLD.out] at he
    subst he
    have hE := (ext_alloc w2 (.cells #[.string e.1, .string e.2] 29)).trans hx
    replace OA := Lib.hid (OA.out.ext (by decide) hE)
    replace XW := Lib.hid (XW.out.trans hE)
    clear hE
    have BE := Lib.hid ((Blk.new w2 29 #[.string e.1, .string e.2]).ext hx)
    clear hx
    have cE0 := BE.out.at_ 0 rfl
    have cE1 := BE.out.at_ 1 rfl
    go_wp2_with (first | (refine wpl_loadB BE.out aggEntryI rfl rfl _ rfl rfl ?_))
    refine (specGetEntry_any _ A e.1 HEo.out.1 _ _ OA.out).mono ?_
    rintro e w4 ⟨he, hx⟩
    skip
    rw [HOLD.out] at he
    subst he
    clear cE0 cE1
    replace OA := Lib.hid (OA.out.ext (by decide) hx)
    replace BE := Lib.hid (BE.out.ext hx)
    replace XW := Lib.hid (XW.out.trans hx)
    clear hx
    have cE0 := BE.out.at_ 0 rfl
    have cE1 := BE.out.at_ 1 rfl
    go_wp2_with (first | (refine wpl_loadB BE.out aggEntryI rfl rfl _ rfl rfl ?_))
    refine (implPutEntry_any _ A e HEo.out _ _ OA.out).mono ?_
    rintro e w5 ⟨vB, he, ho, hx⟩
    skip
    rw [HPUT.out] at he ho
    subst he
    dsimp only at ho
    clear cE0 cE1
    replace OA := Lib.hid (OA.out.ext (by decide) hx)
    replace BE := Lib.hid (BE.out.ext hx)
    replace XW := Lib.hid (XW.out.trans hx)
    obtain ⟨AB, cB, rfl⟩ := ho.shape
    have OB := Lib.hid ho.rd
    clear ho
    clear hx
    have cE0 := BE.out.at_ 0 rfl
    have cE1 := BE.out.at_ 1 rfl
    go_wp2_with (first | (refine wpl_loadB BE.out aggEntryI rfl rfl _ rfl rfl ?_))
    refine (specPutEntry_any _ A e HEo.out _ _ OA.out).mono ?_
    rintro e w6 ⟨vM, he, ho, hx⟩
    skip
    rw [HPUT.out] at he ho
    subst he
    dsimp only at ho
    clear cE0 cE1
    replace OA := Lib.hid (OA.out.ext (by decide) hx)
    replace OB := Lib.hid (OB.out.ext (by decide) hx)
    replace BE := Lib.hid (BE.out.ext hx)
    replace XW := Lib.hid (XW.out.trans hx)
    obtain ⟨AM, cM, rfl⟩ := ho.shape
    have OM := Lib.hid ho.rd
    clear ho
    clear hx
    have cE0 := BE.out.at_ 0 rfl
    have cE1 := BE.out.at_ 1 rfl
    go_wp2_with (first | (refine wpl_loadB BE.out aggEntryI rfl rfl _ rfl rfl ?_))
    refine (implGetEntry_any _ M e.1 HEo.out.1 _ _ OM.out).mono ?_
    rintro e w7 ⟨he, hx⟩
    skip
    rw [HGET.out] at he
    subst he
    clear cE0 cE1
    replace OA := Lib.hid (OA.out.ext (by decide) hx)
    replace OB := Lib.hid (OB.out.ext (by decide) hx)
    replace OM := Lib.hid (OM.out.ext (by decide) hx)
    replace BE := Lib.hid (BE.out.ext hx)
    replace XW := Lib.hid (XW.out.trans hx)
    clear hx
    have cE0 := BE.out.at_ 0 rfl
    have cE1 := BE.out.at_ 1 rfl
    go_wp2_with (first | (refine wpl_loadB BE.out aggEntryI rfl rfl _ rfl rfl ?_))
    refine (implDeleteEntry_any _ M e.1 HEo.out.1 _ _ OM.out).mono ?_
    rintro e w8 ⟨vC, he, ho, hx⟩
    skip
    rw [HDEL.out] at he ho
    subst he
    dsimp only at ho
    clear cE0 cE1
    replace OA := Lib.hid (OA.out.ext (by decide) hx)
    replace OB := Lib.hid (OB.out.ext (by decide) hx)
    replace OM := Lib.hid (OM.out.ext (by decide) hx)
    replace BE := Lib.hid (BE.out.ext hx)
    replace XW := Lib.hid (XW.out.trans hx)
    obtain ⟨AC, cC, rfl⟩ := ho.shape
    have OC := Lib.hid ho.rd
    clear ho
    clear hx
    have cE0 := BE.out.at_ 0 rfl
    have cE1 := BE.out.at_ 1 rfl
    go_wp2_with (first | (refine wpl_loadB BE.out aggEntryI rfl rfl _ rfl rfl ?_))
    refine (specDeleteEntry_any _ M e.1 HEo.out.1 _ _ OM.out).mono ?_
    rintro e w9 ⟨vN, he, ho, hx⟩
    skip
    rw [HDEL.out] at he ho
    subst he
    dsimp only at ho
    clear cE0 cE1
    replace OA := Lib.hid (OA.out.ext (by decide) hx)
    replace OB := Lib.hid (OB.out.ext (by decide) hx)
    replace OM := Lib.hid (OM.out.ext (by decide) hx)
    replace OC := Lib.hid (OC.out.ext (by decide) hx)
    replace BE := Lib.hid (BE.out.ext hx)
    replace XW := Lib.hid (XW.out.trans hx)
    obtain ⟨AN, cN, rfl⟩ := ho.shape
    have ON := Lib.hid ho.rd
    clear ho
    clear hx
    have cE0 := BE.out.at_ 0 rfl
    have cE1 := BE.out.at_ 1 rfl
    go_wp2_with (first | (refine wpl_loadB BE.out aggEntryI rfl rfl _ rfl rfl ?_) | (refine wpl_loadBW BE.out aggEntryI rfl rfl _ rfl rfl ?_))
    refine (specSameEntries_any _ _ M M _ _ _ OB.out OM.out).mono ?_
    rintro e w10 ⟨he, hx⟩
    skip
    rw [decide_eq_true rfl] at he
    subst he
    clear cE0 cE1
    replace OA := Lib.hid (OA.out.ext (by decide) hx)
    replace OB := Lib.hid (OB.out.ext (by decide) hx)
    replace OM := Lib.hid (OM.out.ext (by decide) hx)
    replace OC := Lib.hid (OC.out.ext (by decide) hx)
    replace ON := Lib.hid (ON.out.ext (by decide) hx)
    replace BE := Lib.hid (BE.out.ext hx)
    replace XW := Lib.hid (XW.out.trans hx)
    clear hx
    have cE0 := BE.out.at_ 0 rfl
    have cE1 := BE.out.at_ 1 rfl
    go_wp2_with (first | (refine wpl_loadB BE.out aggEntryI rfl rfl _ rfl rfl ?_) | (refine wpl_loadBW BE.out aggEntryI rfl rfl _ rfl rfl ?_))
    refine (specSameEntries_any _ _ A A _ _ _ OC.out ON.out).mono ?_
    rintro e w11 ⟨he, hx⟩
    skip
    rw [decide_eq_true rfl] at he
    subst he
    clear cE0 cE1
    replace OA := Lib.hid (OA.out.ext (by decide) hx)
    replace OB := Lib.hid (OB.out.ext (by decide) hx)
    replace OM := Lib.hid (OM.out.ext (by decide) hx)
    replace OC := Lib.hid (OC.out.ext (by decide) hx)
    replace ON := Lib.hid (ON.out.ext (by decide) hx)
    replace BE := Lib.hid (BE.out.ext hx)
    replace XW := Lib.hid (XW.out.trans hx)
    clear hx
    have cE0 := BE.out.at_ 0 rfl
    have cE1 := BE.out.at_ 1 rfl
    go_wp2_with (first | (refine wpl_loadB BE.out aggEntryI rfl rfl _ rfl rfl ?_) | (refine wpl_loadBW BE.out aggEntryI rfl rfl _ rfl rfl ?_))
    refine (validEntries_any _ M _ _ OM.out).mono ?_
    rintro e w12 ⟨he, hx⟩
    skip
    rw [HMK.out] at he
    subst he
    clear cE0 cE1
    replace OA := Lib.hid (OA.out.ext (by decide) hx)
    replace OB := Lib.hid (OB.out.ext (by decide) hx)
    replace OM := Lib.hid (OM.out.ext (by decide) hx)
    replace OC := Lib.hid (OC.out.ext (by decide) hx)
    replace ON := Lib.hid (ON.out.ext (by decide) hx)
    replace BE := Lib.hid (BE.out.ext hx)
    replace XW := Lib.hid (XW.out.trans hx)
    clear hx
    have cE0 := BE.out.at_ 0 rfl
    have cE1 := BE.out.at_ 1 rfl
    go_wp2_with (first | (refine wpl_loadB BE.out aggEntryI rfl rfl _ rfl rfl ?_) | (refine wpl_loadBW BE.out aggEntryI rfl rfl _ rfl rfl ?_))
    refine (validEntry_any e.1 e.2 HEo.out.1 HEo.out.2 _).mono ?_
    rintro e w13 ⟨he, hx⟩
    skip
    rw [HNE.out] at he
    subst he
    clear cE0 cE1
    replace OA := Lib.hid (OA.out.ext (by decide) hx)
    replace OB := Lib.hid (OB.out.ext (by decide) hx)
    replace OM := Lib.hid (OM.out.ext (by decide) hx)
    replace OC := Lib.hid (OC.out.ext (by decide) hx)
    replace ON := Lib.hid (ON.out.ext (by decide) hx)
    replace BE := Lib.hid (BE.out.ext hx)
    replace XW := Lib.hid (XW.out.trans hx)
    clear hx
    have cE0 := BE.out.at_ 0 rfl
    have cE1 := BE.out.at_ 1 rfl
    go_wp2_with (first | (refine wpl_loadB BE.out aggEntryI rfl rfl _ rfl rfl ?_))
    refine (implMapKey_any _ A _ _ OA.out).mono ?_
    rintro e w14 ⟨he, hx⟩
    skip
    rw [HMAP.out] at he
    subst he
    clear cE0 cE1
    replace OA := Lib.hid (OA.out.ext (by decide) hx)
    replace OB := Lib.hid (OB.out.ext (by decide) hx)
    replace OM := Lib.hid (OM.out.ext (by decide) hx)
    replace OC := Lib.hid (OC.out.ext (by decide) hx)
    replace ON := Lib.hid (ON.out.ext (by decide) hx)
    replace BE := Lib.hid (BE.out.ext hx)
    replace XW := Lib.hid (XW.out.trans hx)
    clear hx
    have cE0 := BE.out.at_ 0 rfl
    have cE0p := (BE.out.alloc (.cells (numsA .u8 K) 27)).at_ 0 rfl
    have cE1 := BE.out.at_ 1 rfl
    have cE1p := (BE.out.alloc (.cells (numsA .u8 K) 27)).at_ 1 rfl
    go_wp2_with (first | (refine wpl_storeNew aggKey hkk rfl rfl _ _ rfl rfl rfl rfl ?_) | (refine wpl_loadB (Blk.new w14 27 (numsA .u8 K)) aggKey (sizeN hkk) rfl _ rfl rfl ?_) | (refine wpl_loadB BE.out aggEntryI rfl rfl _ rfl rfl ?_) | (refine wpl_loadB (BE.out.alloc _) aggEntryI rfl rfl _ rfl rfl ?_))
    refine (implMapKey_any _ A _ _ (ON.out.ext (by decide) (ext_alloc _ _))).mono ?_
    rintro e w15 ⟨he, hx⟩
    skip
    rw [HMAP.out] at he
    subst he
    clear cE0 cE1 cE0p cE1p
    have hE := (ext_alloc w14 (.cells (numsA .u8 K) 27)).trans hx
    replace OA := Lib.hid (OA.out.ext (by decide) hE)
    replace OB := Lib.hid (OB.out.ext (by decide) hE)
    replace OM := Lib.hid (OM.out.ext (by decide) hE)
    replace OC := Lib.hid (OC.out.ext (by decide) hE)
    replace ON := Lib.hid (ON.out.ext (by decide) hE)
    replace BE := Lib.hid (BE.out.ext hE)
    replace XW := Lib.hid (XW.out.trans hE)
    clear hE
    have BJ := Lib.hid ((Blk.new w14 27 (numsA .u8 K)).ext hx)
    clear hx
    have cE0 := BE.out.at_ 0 rfl
    have cE0p := (BE.out.alloc (.cells (numsA .u8 K) 27)).at_ 0 rfl
    have cE1 := BE.out.at_ 1 rfl
    have cE1p := (BE.out.alloc (.cells (numsA .u8 K) 27)).at_ 1 rfl
    go_wp2_with (first | (refine wpl_storeNew aggKey hkk rfl rfl _ _ rfl rfl rfl rfl ?_) | (refine wpl_loadB (Blk.new w15 27 (numsA .u8 K)) aggKey (sizeN hkk) rfl _ rfl rfl ?_) | (refine wpl_loadB BE.out aggEntryI rfl rfl _ rfl rfl ?_) | (refine wpl_loadB (BE.out.alloc _) aggEntryI rfl rfl _ rfl rfl ?_) | (refine wpl_loadB BJ.out aggKey (sizeN hkk) rfl _ rfl rfl ?_) | (refine wpl_loadB (BJ.out.alloc _) aggKey (sizeN hkk) rfl _ rfl rfl ?_))
    refine (specMapKey_any _ A _ _ (OA.out.ext (by decide) (ext_alloc _ _))).mono ?_
    rintro e w16 ⟨he, hx⟩
    skip
    rw [HMAP.out] at he
    subst he
    clear cE0 cE1 cE0p cE1p
    have hE := (ext_alloc w15 (.cells (numsA .u8 K) 27)).trans hx
    replace OA := Lib.hid (OA.out.ext (by decide) hE)
    replace OB := Lib.hid (OB.out.ext (by decide) hE)
    replace OM := Lib.hid (OM.out.ext (by decide) hE)
    replace OC := Lib.hid (OC.out.ext (by decide) hE)
    replace ON := Lib.hid (ON.out.ext (by decide) hE)
    replace BE := Lib.hid (BE.out.ext hE)
    replace BJ := Lib.hid (BJ.out.ext hE)
    replace XW := Lib.hid (XW.out.trans hE)
    clear hE
    have BK := Lib.hid ((Blk.new w15 27 (numsA .u8 K)).ext hx)
    clear hx
    have cE0 := BE.out.at_ 0 rfl
    have cE0p := (BE.out.alloc (.cells (numsA .u8 K) 27)).at_ 0 rfl
    have cE1 := BE.out.at_ 1 rfl
    have cE1p := (BE.out.alloc (.cells (numsA .u8 K) 27)).at_ 1 rfl
    go_wp2_with (first | (refine wpl_storeNew aggKey hkk rfl rfl _ _ rfl rfl rfl rfl ?_) | (refine wpl_loadB (Blk.new w16 27 (numsA .u8 K)) aggKey (sizeN hkk) rfl _ rfl rfl ?_) | (refine wpl_loadB BE.out aggEntryI rfl rfl _ rfl rfl ?_) | (refine wpl_loadB (BE.out.alloc _) aggEntryI rfl rfl _ rfl rfl ?_) | (refine wpl_loadB BJ.out aggKey (sizeN hkk) rfl _ rfl rfl ?_) | (refine wpl_loadB (BJ.out.alloc _) aggKey (sizeN hkk) rfl _ rfl rfl ?_) | (refine wpl_loadB BK.out aggKey (sizeN hkk) rfl _ rfl rfl ?_) | (refine wpl_loadB (BK.out.alloc _) aggKey (sizeN hkk) rfl _ rfl rfl ?_))
    refine (implGetEntry_any _ A e.1 HEo.out.1 _ _ (ON.out.ext (by decide) (ext_alloc _ _))).mono ?_
    rintro e w17 ⟨he, hx⟩
    skip
    rw [HGONE.out] at he
    subst he
    clear cE0 cE1 cE0p cE1p
    have hE := (ext_alloc w16 (.cells (numsA .u8 K) 27)).trans hx
    replace OA := Lib.hid (OA.out.ext (by decide) hE)
    replace OB := Lib.hid (OB.out.ext (by decide) hE)
    replace OM := Lib.hid (OM.out.ext (by decide) hE)
    replace OC := Lib.hid (OC.out.ext (by decide) hE)
    replace ON := Lib.hid (ON.out.ext (by decide) hE)
    replace BE := Lib.hid (BE.out.ext hE)
    replace BJ := Lib.hid (BJ.out.ext hE)
    replace BK := Lib.hid (BK.out.ext hE)
    replace XW := Lib.hid (XW.out.trans hE)
    clear hE
    have BL := Lib.hid ((Blk.new w16 27 (numsA .u8 K)).ext hx)
    clear hx
    have cE0 := BE.out.at_ 0 rfl
    have cE1 := BE.out.at_ 1 rfl
    go_wp2_with (first | (refine wpl_loadB BE.out aggEntryI rfl rfl _ rfl rfl ?_) | (refine wpl_loadB BJ.out aggKey (sizeN hkk) rfl _ rfl rfl ?_) | (refine wpl_loadB BK.out aggKey (sizeN hkk) rfl _ rfl rfl ?_) | (refine wpl_loadB BL.out aggKey (sizeN hkk) rfl _ rfl rfl ?_) | (refine wpl_loadBW BE.out aggEntryI rfl rfl _ rfl rfl ?_) | (refine wpl_loadBW BJ.out aggKey (sizeN hkk) rfl _ rfl rfl ?_) | (refine wpl_loadBW BK.out aggKey (sizeN hkk) rfl _ rfl rfl ?_) | (refine wpl_loadBW BL.out aggKey (sizeN hkk) rfl _ rfl rfl ?_))
    refine (specSameEntries_any _ _ A A _ _ _ ON.out OA.out).mono ?_
    rintro e w18 ⟨he, hx⟩
    skip
    rw [decide_eq_true rfl] at he
    subst he
    clear cE0 cE1
    replace OA := Lib.hid (OA.out.ext (by decide) hx)
    replace OB := Lib.hid (OB.out.ext (by decide) hx)
    replace OM := Lib.hid (OM.out.ext (by decide) hx)
    replace OC := Lib.hid (OC.out.ext (by decide) hx)
    replace ON := Lib.hid (ON.out.ext (by decide) hx)
    replace BE := Lib.hid (BE.out.ext hx)
    replace BJ := Lib.hid (BJ.out.ext hx)
    replace BK := Lib.hid (BK.out.ext hx)
    replace BL := Lib.hid (BL.out.ext hx)
    replace XW := Lib.hid (XW.out.trans hx)
    clear hx
    have cE0 := BE.out.at_ 0 rfl
    have cE1 := BE.out.at_ 1 rfl
    go_wp2_with (first | (refine wpl_loadB BE.out aggEntryI rfl rfl _ rfl rfl ?_) | (refine wpl_loadB BJ.out aggKey (sizeN hkk) rfl _ rfl rfl ?_) | (refine wpl_loadB BK.out aggKey (sizeN hkk) rfl _ rfl rfl ?_) | (refine wpl_loadB BL.out aggKey (sizeN hkk) rfl _ rfl rfl ?_) | (refine wpl_loadBW BE.out aggEntryI rfl rfl _ rfl rfl ?_) | (refine wpl_loadBW BJ.out aggKey (sizeN hkk) rfl _ rfl rfl ?_) | (refine wpl_loadBW BK.out aggKey (sizeN hkk) rfl _ rfl rfl ?_) | (refine wpl_loadBW BL.out aggKey (sizeN hkk) rfl _ rfl rfl ?_))
    go_ret
    exact ⟨rfl, XW.out⟩
end Go.Proofs.Ytmndkbheehcoaaa
