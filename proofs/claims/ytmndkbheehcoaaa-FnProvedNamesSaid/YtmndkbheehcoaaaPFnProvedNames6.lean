/- What the walk of the law FnProvedNames needs, part 6 of 9. No condition. -/
import Derived.OwnWalk
import Derived.Test.YtmndkbheehcoaaaPFnProvedNames5
/- The path to a name: the reference. No condition. -/
namespace Go.Proofs.Ytmndkbheehcoaaa
open Go.RowKit
set_option linter.unusedVariables false
set_option linter.unusedSimpArgs false

set_option maxHeartbeats 2000000 in
set_option maxRecDepth 100000 in
theorem l04Path_any (v : Value) (L : List En) (s : ByteArray) (h64 : L.length ≤ 64) (hg : good L) (w : World) (S : Nat → Prop) (h : RdL tEnt w S v L) :
    Calls Try.prog 82 #[v, .string s] w fun e w' => ∃ v', e = .returned v' ∧ Own tNd 31 w' w.heap.size v' ((trF L.length L).sel (fun o => ltB s o) (fun o => ltB o s)) ∧ Ext w w' := by
  obtain ⟨R, hR0⟩ : ∃ R, (trF L.length L).sel (fun o => ltB s o) (fun o => ltB o s) = R := ⟨_, rfl⟩
  rw [hR0]
  have HR0 := Lib.hid hR0
  have HG0 := Lib.hid hg
  have H0 := Lib.hid h
  obtain ⟨A, cap, rfl, _⟩ := h
  clear hR0 hg
  go_enter Try.func82, Try.ntmps82
  go_wp2_with fail
  go_loopw [0, 5] (fun l u wr => ∃ (f : Nat) (L1 : List En) (acc : List Nd), L1.length ≤ f ∧ L1.length ≤ 64 ∧ acc.length + L1.length ≤ 64 ∧ good L1 ∧ RdL tEnt w S l L1 ∧ Own tNd 31 wr w.heap.size u acc ∧ acc ++ (trF f L1).sel (fun o => ltB s o) (fun o => ltB o s) = R ∧ Ext w wr) (fun l _ _ => lenV l)
  case atStart => exact ⟨L.length, L, [], Nat.le_refl _, h64, by simpa using h64, HG0.out, H0.out, Own.empty tNd w 31 w.heap.size (Nat.le_refl _), by simpa using HR0.out, ext_alloc _ _⟩
  case round =>
    clear H0 HR0 HG0 h64
    obtain ⟨f, L1, acc, hf, h64, hal, hg1, hr, ho, hR, hx⟩ := hrel
    have HX := Lib.hid hx
    have HO := Lib.hid ho
    have HAL := Lib.hid hal
    obtain ⟨C, cn, cc, rfl⟩ := ho.shape3
    obtain ⟨A, cap, rfl, hcap, hlen, hrd, hok⟩ := id hr
    clear hx ho hal
    by_cases h0 : L1.length = 0
    · rw [trF_nil _ _ h0] at hR
      have HQ := Lib.hid (show acc = R by simpa [Tr.sel] using hR)
      have hz : ¬ (0 : Int) < (L1.length : Int) := by omega
      clear hR
      go_wp2
      go_ret
      exact ⟨_, rfl, by rw [← HQ.out]; exact HO.out, HX.out⟩
    · obtain ⟨f, rfl⟩ : ∃ f', f = f' + 1 := ⟨f - 1, by omega⟩
      have hlt := topE_lt (L := L1) (by omega)
      have hND := trF_ok (f + 1) L1 hg1
      rw [trF_cons _ _ h0] at hR hND
      obtain ⟨k, hk⟩ : ∃ k, topE L1 = k := ⟨_, rfl⟩
      simp only [hk] at hlt hND hR
      rw [gE_lt hlt] at hND hR
      obtain ⟨g, o, rfl, hs0, hc⟩ := hrd.elem hok k hlt
      obtain ⟨TL, hTL⟩ : ∃ T, trF f (L1.take k) = T := ⟨_, rfl⟩
      obtain ⟨TR, hTR⟩ : ∃ T, trF f (L1.drop (k + 1)) = T := ⟨_, rfl⟩
      rw [hTL, hTR] at hR hND
      simp only [Tr.sel] at hR
      have HND := Lib.hid hND.1
      have KL := Lib.hid TL.key_ok.1
      have KR := Lib.hid TR.key_ok.1
      have HC := Lib.hid (show ∀ W, Ext w W → ∀ j u, ([Value.string L1[k].1, .string L1[k].2] : List Value)[j]? = some u → W.cell? ⟨g, o + k * 2 + j, none⟩ = some u from fun W hW j u hu => hW.cell (hc j u hu))
      clear hc hrd hok hND hs0
      by_cases hce : cap = k + 1
      · subst hce
        have H := Lib.hid (show RdL tEnt w S (.slice (some ⟨g, o, none⟩) L1.length (k + 1)) L1 from hr)
        have ihl := fun W (hW : RdL tEnt W S (.slice (some ⟨g, o, none⟩) L1.length (k + 1)) L1) => l04Nodes_any f _ (L1.take k) (by rw [List.length_take]; omega) (by rw [List.length_take]; omega) (hg1.take k) W S (RdL.headN (k := k) hW rfl (by omega))
        have ihr := fun W (hW : RdL tEnt W S (.slice (some ⟨g, o, none⟩) L1.length (k + 1)) L1) => l04Nodes_any f _ (L1.drop (k + 1)) (by rw [List.length_drop]; omega) (by rw [List.length_drop]; omega) (hg1.drop (k + 1)) W S (RdL.cutN (k := k + 1) hW rfl (by omega))
        have htop := fun W (hW : RdL tEnt W S (.slice (some ⟨g, o, none⟩) L1.length (k + 1)) L1) => l04Top_any _ L1 (by omega) hg1 W S hW
        simp only [Option.map_some, Addr.add_lit, show tEnt.sz = 2 from rfl, eq_self, if_true, Nat.sub_self] at ihr
        rw [hk] at htop
        simp only [hTL] at ihl
        simp only [hTR] at ihr
        have HTL := Lib.hid hTL
        have HTR := Lib.hid hTR
        have HG := Lib.hid hg1
        have hi : (0 : Int) ≤ (k : Int) := by omega
        have hi2 : (k : Int) ≤ (L1.length : Int) := by omega
        have hi3 : (k : Int) < (L1.length : Int) := by omega
        have hi4 : (k : Int) + 1 ≤ (L1.length : Int) := by omega
        have hi5 : (0 : Int) ≤ (k : Int) + 1 := by omega
        have hi6 : (k : Int) ≤ ((k + 1 : Nat) : Int) := by omega
        have hi8 : (L1.length : Int) ≤ ((k + 1 : Nat) : Int) := by omega
        have hi9 : (k : Int) + 1 ≤ ((k + 1 : Nat) : Int) := by omega
        have hi0 : (0 : Int) < (L1.length : Int) := by omega
        have HQC := Lib.hid hcap
        clear hTL hTR hg1 hr hk hcap
        go_wp2_with fail
        refine (htop _ (H.out.ext (by decide) HX.out)).mono ?_
        rintro e w1 ⟨rfl, hx⟩
        have XW := Lib.hid (HX.out.trans hx)
        have HO1 := Lib.hid (HO.out.ext hx)
        have HS1 := Lib.hid hx.size
        clear hx htop
        go_wp2_with fail
        refine (ihl _ (H.out.ext (by decide) XW.out)).mono ?_
        rintro e w2 ⟨vl, rfl, ho, hx⟩
        replace XW := Lib.hid (XW.out.trans hx)
        have HO2 := Lib.hid (HO1.out.ext hx)
        have HS2 := Lib.hid (Nat.le_trans HS1.out hx.size)
        obtain ⟨AL, nl, cl, rfl⟩ := ho.shape3
        clear ho hx ihl HO1
        go_wp2_with (refine wpl_storeNew aggKey KL.out rfl rfl _ _ rfl rfl rfl rfl ?_)
        refine (ihr _ (H.out.ext (by decide) (XW.out.alloc _))).mono ?_
        rintro e w3 ⟨vr, rfl, ho, hx⟩
        replace XW := Lib.hid ((XW.out.alloc _).trans hx)
        have HO3 := Lib.hid (((HO2.out.alloc _).ext hx).alloc (.cells (numsA .u8 TR.key) 27))
        have HS3 := Lib.hid (show wr.heap.size ≤ w3.heap.size by have := hx.size; have := HS2.out; simp only [size_alloc] at *; omega)
        have B6 := Lib.hid (((Blk.new w2 27 (numsA .u8 TL.key)).ext hx).alloc (.cells (numsA .u8 TR.key) 27))
        have B8 := Lib.hid (Blk.new w3 27 (numsA .u8 TR.key))
        obtain ⟨AR, nr, cr, rfl⟩ := ho.shape3
        clear ho hx ihr HO2
        go_wp2_with (refine wpl_storeNew aggKey KR.out rfl rfl _ _ rfl rfl rfl rfl ?_)
        refine wp_region_held_drew (S := fun W => Ext w W ∧ Blk W w2.heap.size 27 (numsA .u8 TL.key) ∧ Blk W w3.heap.size 27 (numsA .u8 TR.key)) (by kernel_rfl) ⟨(XW.out.alloc _).drew, B6.out.drewN 1, B8.out.drewN 1⟩ (fun hHeld => ?_)
        have hs9 : (w3.alloc (.cells (numsA .u8 TR.key) 27)).heap.size = (w3.alloc (.cells (numsA .u8 TR.key) 27)).drew.heap.size := rfl
        have HOd := Lib.hid (show Own tNd 31 (w3.alloc (.cells (numsA .u8 TR.key) 27)).drew w.heap.size (.slice C cn cc) acc from HO3.out)
        generalize hw9 : (w3.alloc (.cells (numsA .u8 TR.key) 27)).drew = w9 at hHeld HOd hs9 ⊢
        clear hw9
        refine wpAnyH_take (i := 0) (oi := ?oiz1) (v := ?vz1) ?hiz1 (by kernel_rfl) (by kernel_rfl) (by kernel_rfl) ?hQz1 ?hyz1 (by assumption) ?restz1
        case hiz1 => simp only [List.getElem?_toArray, List.getElem?_cons_zero, List.getElem?_cons_succ]; rfl
        case hQz1 => exact fun _ _ _ h => h
        case hyz1 => exact Or.inl ⟨by rfl, by intro w hSw; (try dsimp only at hSw); go_simp; with_reducible rfl⟩
        try simp only [Act.put, List.setIfInBounds_toArray, List.set_cons_zero, List.set_cons_succ]
        refine wpAnyH_take (i := 1) (oi := ?oiz2) (v := (.agg (numsA .u8 TL.key))) ?hiz2 (by kernel_rfl) (by kernel_rfl) (by kernel_rfl) ?hQz2 ?hyz2 (by assumption) ?restz2
        case hiz2 => simp only [List.getElem?_toArray, List.getElem?_cons_zero, List.getElem?_cons_succ]; rfl
        case hQz2 => exact fun _ _ _ h => h
        case hyz2 => refine yields_loadS w2.heap.size 0 (nums .u8 TL.key) (by rw [nums_length, KL.out]; exact aggKey) (fun W hW j u hu => by rw [Nat.zero_add]; exact hW.2.1.at_ j (by rw [numsA, List.getElem?_toArray]; exact hu)) ?_ _ rfl rfl; rfl
        try simp only [Act.put, List.setIfInBounds_toArray, List.set_cons_zero, List.set_cons_succ]
        refine wpAnyH_take (i := 2) (oi := ?oiz3) (v := (.agg (numsA .u8 TR.key))) ?hiz3 (by kernel_rfl) (by kernel_rfl) (by kernel_rfl) ?hQz3 ?hyz3 (by assumption) ?restz3
        case hiz3 => simp only [List.getElem?_toArray, List.getElem?_cons_zero, List.getElem?_cons_succ]; rfl
        case hQz3 => exact fun _ _ _ h => h
        case hyz3 => refine yields_loadS w3.heap.size 0 (nums .u8 TR.key) (by rw [nums_length, KR.out]; exact aggKey) (fun W hW j u hu => by rw [Nat.zero_add]; exact hW.2.2.at_ j (by rw [numsA, List.getElem?_toArray]; exact hu)) ?_ _ rfl rfl; rfl
        try simp only [Act.put, List.setIfInBounds_toArray, List.set_cons_zero, List.set_cons_succ]
        refine wpAnyH_take (i := 3) (oi := ?oiz4) (v := ?vz4) ?hiz4 (by kernel_rfl) (by kernel_rfl) (by kernel_rfl) ?hQz4 ?hyz4 (by assumption) ?restz4
        case hiz4 => simp only [List.getElem?_toArray, List.getElem?_cons_zero, List.getElem?_cons_succ]; rfl
        case hQz4 => exact fun _ _ _ h => h
        case hyz4 => exact Or.inl ⟨by rfl, by intro w hSw; (try dsimp only at hSw); go_simp; with_reducible rfl⟩
        try simp only [Act.put, List.setIfInBounds_toArray, List.set_cons_zero, List.set_cons_succ]
        refine wpAnyH_take (i := 4) (oi := ?oiz5) (v := ?vz5) ?hiz5 (by kernel_rfl) (by kernel_rfl) (by kernel_rfl) ?hQz5 ?hyz5 (by assumption) ?restz5
        case hiz5 => simp only [List.getElem?_toArray, List.getElem?_cons_zero, List.getElem?_cons_succ]; rfl
        case hQz5 => exact fun _ _ _ h => h
        case hyz5 => exact Or.inl ⟨by rfl, by intro w hSw; (try dsimp only at hSw); go_simp; with_reducible rfl⟩
        try simp only [Act.put, List.setIfInBounds_toArray, List.set_cons_zero, List.set_cons_succ]
        refine wpAnyH_take (i := 5) (oi := ?oiz6) (v := ?vz6) ?hiz6 (by kernel_rfl) (by kernel_rfl) (by kernel_rfl) ?hQz6 ?hyz6 (by assumption) ?restz6
        case hiz6 => simp only [List.getElem?_toArray, List.getElem?_cons_zero, List.getElem?_cons_succ]; rfl
        case hQz6 => exact fun _ _ _ h => h
        case hyz6 => exact Or.inl ⟨by rfl, by intro w hSw; (try dsimp only at hSw); go_simp; with_reducible rfl⟩
        try simp only [Act.put, List.setIfInBounds_toArray, List.set_cons_zero, List.set_cons_succ]
        refine wpAnyH_take (i := 6) (oi := ?oiz7) (v := (.agg #[.string L1[k].1, .string L1[k].2])) ?hiz7 (by kernel_rfl) (by kernel_rfl) (by kernel_rfl) ?hQz7 ?hyz7 (by assumption) ?restz7
        case hiz7 => simp only [List.getElem?_toArray, List.getElem?_cons_zero, List.getElem?_cons_succ]; rfl
        case hQz7 => exact fun _ _ _ h => h
        case hyz7 => refine yields_loadS g (o + k * 2) [.string L1[k].1, .string L1[k].2] aggEntryI (fun W hW => HC.out W hW.1) ?_ _ rfl rfl; rfl
        try simp only [Act.put, List.setIfInBounds_toArray, List.set_cons_zero, List.set_cons_succ]
        refine wpAnyH_take (i := 7) (oi := ?oiz8) (v := (.agg (Nd.enc ⟨TL.key, TR.key, L1[k].1, L1[k].2⟩).toArray)) ?hiz8 (by kernel_rfl) (by kernel_rfl) (by kernel_rfl) ?hQz8 ?hyz8 (by assumption) ?restz8
        case hiz8 => simp only [List.getElem?_toArray, List.getElem?_cons_zero, List.getElem?_cons_succ]; rfl
        case hQz8 => exact fun _ _ _ h => h
        case hyz8 => refine yields_build ?_ rfl (built_node ⟨TL.key, TR.key, L1[k].1, L1[k].2⟩ HND.out); rfl
        try simp only [Act.put, List.setIfInBounds_toArray, List.set_cons_zero, List.set_cons_succ]
        refine wpAnyH_ready (rs := [8]) (by kernel_rfl) (by simp) (AllReadyH.cons (o := ?oy98) ?hy98 (fun K hK => ?sy98) AllReadyH.nil)
        case hy98 => simp only [List.getElem?_toArray, List.getElem?_cons_zero, List.getElem?_cons_succ]; rfl
        refine stp_build1 Try.underlying36 zeroNd (Nd.st HND.out).size (by decide) (by decide) rfl (.tmp 39) rfl rfl ?_
        have hH2 : Ext w (w9.alloc (.cells (Nd.enc ⟨TL.key, TR.key, L1[k].1, L1[k].2⟩).toArray 31)) ∧ Blk (w9.alloc (.cells (Nd.enc ⟨TL.key, TR.key, L1[k].1, L1[k].2⟩).toArray 31)) w2.heap.size 27 (numsA .u8 TL.key) ∧ Blk (w9.alloc (.cells (Nd.enc ⟨TL.key, TR.key, L1[k].1, L1[k].2⟩).toArray 31)) w3.heap.size 27 (numsA .u8 TR.key) := ⟨hHeld.1.alloc _, hHeld.2.1.alloc _, hHeld.2.2.alloc _⟩
        refine hK.out _ _ hH2 (fun _ => ?_)
        clear hK K
        try simp only [Act.put, List.setIfInBounds_toArray, List.set_cons_zero, List.set_cons_succ]
        refine wpAnyH_ready (rs := [9]) (by kernel_rfl) (by simp) (AllReadyH.cons (o := ?oy109) ?hy109 (fun K hK => ?sy109) AllReadyH.nil)
        case hy109 => simp only [List.getElem?_toArray, List.getElem?_cons_zero, List.getElem?_cons_succ]; rfl
        refine stp_append rowNd rfl _ _ rfl (v := .slice C cn cc) rfl (HOd.out.alloc _) _ _ rfl (A := some ⟨w9.heap.size, 0, none⟩) (ys := [⟨TL.key, TR.key, L1[k].1, L1[k].2⟩]) rfl (rd_one (T := tNd) w9 ⟨TL.key, TR.key, L1[k].1, L1[k].2⟩ HND.out _) (by intro y hy; obtain rfl := List.mem_singleton.1 hy; exact HND.out) (by have := HAL.out; simp only [List.length_singleton]; omega) hH2.1.size ?_
        intro v10 w10 ho1 hg1 hat1
        have hfar : ∀ b, wr.heap.size ≤ b → some b ≠ (Value.slice C cn cc).ownBlock := fun b hb e => by have := (HO.out.base_le _ e.symm).2; omega
        have hs2 := HS2.out
        have hs3 := HS3.out
        have hH3 : Ext w w10 ∧ Blk w10 w2.heap.size 27 (numsA .u8 TL.key) ∧ Blk w10 w3.heap.size 27 (numsA .u8 TR.key) := ⟨(HOd.out.alloc _).ext_app hH2.1 hg1, hH2.2.1.grown hg1 (hfar _ hs2), hH2.2.2.grown hg1 (hfar _ hs3)⟩
        have HO10 := Lib.hid ho1
        have HX10 := Lib.hid hH3.1
        obtain ⟨D, dn, dc, rfl⟩ := ho1.shape3
        clear ho1 hg1 hat1 hfar
        refine hK.out _ _ hH3 (fun _ => ?_)
        clear hK K hH2 hH3 hHeld
        try simp only [Act.put, List.setIfInBounds_toArray, List.set_cons_zero, List.set_cons_succ]
        refine wpAnyH_take (i := 10) (oi := ?oiz11) (v := ?vz11) ?hiz11 (by kernel_rfl) (by kernel_rfl) (by kernel_rfl) ?hQz11 ?hyz11 (by assumption) ?restz11
        case hiz11 => simp only [List.getElem?_toArray, List.getElem?_cons_zero, List.getElem?_cons_succ]; rfl
        case hQz11 => exact fun _ _ _ h => h
        case hyz11 => exact Or.inl ⟨by rfl, by intro w hSw; (try dsimp only at hSw); go_simp; with_reducible rfl⟩
        try simp only [Act.put, List.setIfInBounds_toArray, List.set_cons_zero, List.set_cons_succ]
        refine wpAnyH_done (by kernel_rfl) ?_ _
        have d0 := HC.out w10 HX10.out 0 _ rfl
        have d1 : w10.cell? ⟨g, o + k * 2, none⟩ = some (.string L1[k].1) := d0
        have e2 := ltB_eq s L1[k].1
        clear d0 B6 B8
        have HRR := Lib.hid hR
        clear hR
        by_cases hname : L1[k].1 = s
        · have hn2 : (L1[k].1.toList == s.toList) = true := by rw [hname, beq_self_eq_true]
          have HQ := Lib.hid (show acc ++ [(⟨TL.key, TR.key, L1[k].1, L1[k].2⟩ : Nd)] = R by
            have := HRR.out
            simpa [hname, ltB_irrefl] using this)
          clear hname e2
          go_wp2
          go_ret
          exact ⟨_, rfl, by rw [← HQ.out]; exact HO10.out, HX10.out⟩
        · have hn2 : (L1[k].1.toList == s.toList) = false := by rw [beq_eq_false_iff_ne]; exact fun e => hname (toList_inj e)
          cases hl : ltB s L1[k].1 with
          | true =>
            have HQ := Lib.hid (show (acc ++ [(⟨TL.key, TR.key, L1[k].1, L1[k].2⟩ : Nd)]) ++ TL.sel (fun o => ltB s o) (fun o => ltB o s) = R by
              have := HRR.out
              simpa [hl, ltB_asymm hl] using this)
            rw [hl] at e2
            clear hname
            go_wp2
            go_roundw
            case rel => exact ⟨f, L1.take k, _, by rw [List.length_take]; omega, by rw [List.length_take]; omega, by rw [List.length_append, List.length_take]; have := HAL.out; simp only [List.length_singleton]; omega, HG.out.take k, RdL.headN H.out rfl (by omega), HO10.out, by rw [HTL.out]; exact HQ.out, HX10.out⟩
            case measure => simp [lenV]; omega
          | false =>
            have hl2 : ltB L1[k].1 s = true := by
              cases h : ltB L1[k].1 s with
              | true => rfl
              | false => exact absurd (ltB_total h hl) hname
            have HQ := Lib.hid (show (acc ++ [(⟨TL.key, TR.key, L1[k].1, L1[k].2⟩ : Nd)]) ++ TR.sel (fun o => ltB s o) (fun o => ltB o s) = R by
              have := HRR.out
              simpa [hl, hl2] using this)
            rw [hl] at e2
            have hcut := RdL.cutN (k := k + 1) H.out rfl (by omega)
            simp only [Option.map_some, Addr.add_lit, show tEnt.sz = 2 from rfl, eq_self, if_true, Nat.sub_self] at hcut
            have HCUT := Lib.hid hcut
            clear hname hcut
            go_wp2
            go_roundw
            case rel => exact ⟨f, L1.drop (k + 1), _, by rw [List.length_drop]; omega, by rw [List.length_drop]; omega, by rw [List.length_append, List.length_drop]; have := HAL.out; simp only [List.length_singleton]; omega, HG.out.drop (k + 1), HCUT.out, HO10.out, by rw [HTR.out]; exact HQ.out, HX10.out⟩
            case measure => simp [lenV]; omega
      · have H := Lib.hid (show RdL tEnt w S (.slice (some ⟨g, o, none⟩) L1.length cap) L1 from hr)
        have ihl := fun W (hW : RdL tEnt W S (.slice (some ⟨g, o, none⟩) L1.length cap) L1) => l04Nodes_any f _ (L1.take k) (by rw [List.length_take]; omega) (by rw [List.length_take]; omega) (hg1.take k) W S (RdL.headN (k := k) hW rfl (by omega))
        have ihr := fun W (hW : RdL tEnt W S (.slice (some ⟨g, o, none⟩) L1.length cap) L1) => l04Nodes_any f _ (L1.drop (k + 1)) (by rw [List.length_drop]; omega) (by rw [List.length_drop]; omega) (hg1.drop (k + 1)) W S (RdL.cutN (k := k + 1) hW rfl (by omega))
        have htop := fun W (hW : RdL tEnt W S (.slice (some ⟨g, o, none⟩) L1.length cap) L1) => l04Top_any _ L1 (by omega) hg1 W S hW
        simp only [Option.map_some, Addr.add_lit, show tEnt.sz = 2 from rfl, if_neg hce] at ihr
        rw [hk] at htop
        simp only [hTL] at ihl
        simp only [hTR] at ihr
        have HTL := Lib.hid hTL
        have HTR := Lib.hid hTR
        have HG := Lib.hid hg1
        have hi : (0 : Int) ≤ (k : Int) := by omega
        have hi2 : (k : Int) ≤ (L1.length : Int) := by omega
        have hi3 : (k : Int) < (L1.length : Int) := by omega
        have hi4 : (k : Int) + 1 ≤ (L1.length : Int) := by omega
        have hi5 : (0 : Int) ≤ (k : Int) + 1 := by omega
        have hi6 : (k : Int) ≤ (cap : Int) := by omega
        have hi8 : (L1.length : Int) ≤ (cap : Int) := by omega
        have hi9 : (k : Int) + 1 ≤ (cap : Int) := by omega
        have hi0 : (0 : Int) < (L1.length : Int) := by omega
        have HQC := Lib.hid hcap
        clear hTL hTR hg1 hr hk hcap
        go_wp2_with fail
        refine (htop _ (H.out.ext (by decide) HX.out)).mono ?_
        rintro e w1 ⟨rfl, hx⟩
        have XW := Lib.hid (HX.out.trans hx)
        have HO1 := Lib.hid (HO.out.ext hx)
        have HS1 := Lib.hid hx.size
        clear hx htop
        go_wp2_with fail
        refine (ihl _ (H.out.ext (by decide) XW.out)).mono ?_
        rintro e w2 ⟨vl, rfl, ho, hx⟩
        replace XW := Lib.hid (XW.out.trans hx)
        have HO2 := Lib.hid (HO1.out.ext hx)
        have HS2 := Lib.hid (Nat.le_trans HS1.out hx.size)
        obtain ⟨AL, nl, cl, rfl⟩ := ho.shape3
        clear ho hx ihl HO1
        go_wp2_with (refine wpl_storeNew aggKey KL.out rfl rfl _ _ rfl rfl rfl rfl ?_)
        refine (ihr _ (H.out.ext (by decide) (XW.out.alloc _))).mono ?_
        rintro e w3 ⟨vr, rfl, ho, hx⟩
        replace XW := Lib.hid ((XW.out.alloc _).trans hx)
        have HO3 := Lib.hid (((HO2.out.alloc _).ext hx).alloc (.cells (numsA .u8 TR.key) 27))
        have HS3 := Lib.hid (show wr.heap.size ≤ w3.heap.size by have := hx.size; have := HS2.out; simp only [size_alloc] at *; omega)
        have B6 := Lib.hid (((Blk.new w2 27 (numsA .u8 TL.key)).ext hx).alloc (.cells (numsA .u8 TR.key) 27))
        have B8 := Lib.hid (Blk.new w3 27 (numsA .u8 TR.key))
        obtain ⟨AR, nr, cr, rfl⟩ := ho.shape3
        clear ho hx ihr HO2
        go_wp2_with (refine wpl_storeNew aggKey KR.out rfl rfl _ _ rfl rfl rfl rfl ?_)
        refine wp_region_held_drew (S := fun W => Ext w W ∧ Blk W w2.heap.size 27 (numsA .u8 TL.key) ∧ Blk W w3.heap.size 27 (numsA .u8 TR.key)) (by kernel_rfl) ⟨(XW.out.alloc _).drew, B6.out.drewN 1, B8.out.drewN 1⟩ (fun hHeld => ?_)
        have hs9 : (w3.alloc (.cells (numsA .u8 TR.key) 27)).heap.size = (w3.alloc (.cells (numsA .u8 TR.key) 27)).drew.heap.size := rfl
        have HOd := Lib.hid (show Own tNd 31 (w3.alloc (.cells (numsA .u8 TR.key) 27)).drew w.heap.size (.slice C cn cc) acc from HO3.out)
        generalize hw9 : (w3.alloc (.cells (numsA .u8 TR.key) 27)).drew = w9 at hHeld HOd hs9 ⊢
        clear hw9
        refine wpAnyH_take (i := 0) (oi := ?oiz12) (v := ?vz12) ?hiz12 (by kernel_rfl) (by kernel_rfl) (by kernel_rfl) ?hQz12 ?hyz12 (by assumption) ?restz12
        case hiz12 => simp only [List.getElem?_toArray, List.getElem?_cons_zero, List.getElem?_cons_succ]; rfl
        case hQz12 => exact fun _ _ _ h => h
        case hyz12 => exact Or.inl ⟨by rfl, by intro w hSw; (try dsimp only at hSw); go_simp; with_reducible rfl⟩
        try simp only [Act.put, List.setIfInBounds_toArray, List.set_cons_zero, List.set_cons_succ]
        refine wpAnyH_take (i := 1) (oi := ?oiz13) (v := (.agg (numsA .u8 TL.key))) ?hiz13 (by kernel_rfl) (by kernel_rfl) (by kernel_rfl) ?hQz13 ?hyz13 (by assumption) ?restz13
        case hiz13 => simp only [List.getElem?_toArray, List.getElem?_cons_zero, List.getElem?_cons_succ]; rfl
        case hQz13 => exact fun _ _ _ h => h
        case hyz13 => refine yields_loadS w2.heap.size 0 (nums .u8 TL.key) (by rw [nums_length, KL.out]; exact aggKey) (fun W hW j u hu => by rw [Nat.zero_add]; exact hW.2.1.at_ j (by rw [numsA, List.getElem?_toArray]; exact hu)) ?_ _ rfl rfl; rfl
        try simp only [Act.put, List.setIfInBounds_toArray, List.set_cons_zero, List.set_cons_succ]
        refine wpAnyH_take (i := 2) (oi := ?oiz14) (v := (.agg (numsA .u8 TR.key))) ?hiz14 (by kernel_rfl) (by kernel_rfl) (by kernel_rfl) ?hQz14 ?hyz14 (by assumption) ?restz14
        case hiz14 => simp only [List.getElem?_toArray, List.getElem?_cons_zero, List.getElem?_cons_succ]; rfl
        case hQz14 => exact fun _ _ _ h => h
        case hyz14 => refine yields_loadS w3.heap.size 0 (nums .u8 TR.key) (by rw [nums_length, KR.out]; exact aggKey) (fun W hW j u hu => by rw [Nat.zero_add]; exact hW.2.2.at_ j (by rw [numsA, List.getElem?_toArray]; exact hu)) ?_ _ rfl rfl; rfl
        try simp only [Act.put, List.setIfInBounds_toArray, List.set_cons_zero, List.set_cons_succ]
        refine wpAnyH_take (i := 3) (oi := ?oiz15) (v := ?vz15) ?hiz15 (by kernel_rfl) (by kernel_rfl) (by kernel_rfl) ?hQz15 ?hyz15 (by assumption) ?restz15
        case hiz15 => simp only [List.getElem?_toArray, List.getElem?_cons_zero, List.getElem?_cons_succ]; rfl
        case hQz15 => exact fun _ _ _ h => h
        case hyz15 => exact Or.inl ⟨by rfl, by intro w hSw; (try dsimp only at hSw); go_simp; with_reducible rfl⟩
        try simp only [Act.put, List.setIfInBounds_toArray, List.set_cons_zero, List.set_cons_succ]
        refine wpAnyH_take (i := 4) (oi := ?oiz16) (v := ?vz16) ?hiz16 (by kernel_rfl) (by kernel_rfl) (by kernel_rfl) ?hQz16 ?hyz16 (by assumption) ?restz16
        case hiz16 => simp only [List.getElem?_toArray, List.getElem?_cons_zero, List.getElem?_cons_succ]; rfl
        case hQz16 => exact fun _ _ _ h => h
        case hyz16 => exact Or.inl ⟨by rfl, by intro w hSw; (try dsimp only at hSw); go_simp; with_reducible rfl⟩
        try simp only [Act.put, List.setIfInBounds_toArray, List.set_cons_zero, List.set_cons_succ]
        refine wpAnyH_take (i := 5) (oi := ?oiz17) (v := ?vz17) ?hiz17 (by kernel_rfl) (by kernel_rfl) (by kernel_rfl) ?hQz17 ?hyz17 (by assumption) ?restz17
        case hiz17 => simp only [List.getElem?_toArray, List.getElem?_cons_zero, List.getElem?_cons_succ]; rfl
        case hQz17 => exact fun _ _ _ h => h
        case hyz17 => exact Or.inl ⟨by rfl, by intro w hSw; (try dsimp only at hSw); go_simp; with_reducible rfl⟩
        try simp only [Act.put, List.setIfInBounds_toArray, List.set_cons_zero, List.set_cons_succ]
        refine wpAnyH_take (i := 6) (oi := ?oiz18) (v := (.agg #[.string L1[k].1, .string L1[k].2])) ?hiz18 (by kernel_rfl) (by kernel_rfl) (by kernel_rfl) ?hQz18 ?hyz18 (by assumption) ?restz18
        case hiz18 => simp only [List.getElem?_toArray, List.getElem?_cons_zero, List.getElem?_cons_succ]; rfl
        case hQz18 => exact fun _ _ _ h => h
        case hyz18 => refine yields_loadS g (o + k * 2) [.string L1[k].1, .string L1[k].2] aggEntryI (fun W hW => HC.out W hW.1) ?_ _ rfl rfl; rfl
        try simp only [Act.put, List.setIfInBounds_toArray, List.set_cons_zero, List.set_cons_succ]
        refine wpAnyH_take (i := 7) (oi := ?oiz19) (v := (.agg (Nd.enc ⟨TL.key, TR.key, L1[k].1, L1[k].2⟩).toArray)) ?hiz19 (by kernel_rfl) (by kernel_rfl) (by kernel_rfl) ?hQz19 ?hyz19 (by assumption) ?restz19
        case hiz19 => simp only [List.getElem?_toArray, List.getElem?_cons_zero, List.getElem?_cons_succ]; rfl
        case hQz19 => exact fun _ _ _ h => h
        case hyz19 => refine yields_build ?_ rfl (built_node ⟨TL.key, TR.key, L1[k].1, L1[k].2⟩ HND.out); rfl
        try simp only [Act.put, List.setIfInBounds_toArray, List.set_cons_zero, List.set_cons_succ]
        refine wpAnyH_ready (rs := [8]) (by kernel_rfl) (by simp) (AllReadyH.cons (o := ?oy208) ?hy208 (fun K hK => ?sy208) AllReadyH.nil)
        case hy208 => simp only [List.getElem?_toArray, List.getElem?_cons_zero, List.getElem?_cons_succ]; rfl
        refine stp_build1 Try.underlying36 zeroNd (Nd.st HND.out).size (by decide) (by decide) rfl (.tmp 39) rfl rfl ?_
        have hH2 : Ext w (w9.alloc (.cells (Nd.enc ⟨TL.key, TR.key, L1[k].1, L1[k].2⟩).toArray 31)) ∧ Blk (w9.alloc (.cells (Nd.enc ⟨TL.key, TR.key, L1[k].1, L1[k].2⟩).toArray 31)) w2.heap.size 27 (numsA .u8 TL.key) ∧ Blk (w9.alloc (.cells (Nd.enc ⟨TL.key, TR.key, L1[k].1, L1[k].2⟩).toArray 31)) w3.heap.size 27 (numsA .u8 TR.key) := ⟨hHeld.1.alloc _, hHeld.2.1.alloc _, hHeld.2.2.alloc _⟩
        refine hK.out _ _ hH2 (fun _ => ?_)
        clear hK K
        try simp only [Act.put, List.setIfInBounds_toArray, List.set_cons_zero, List.set_cons_succ]
        refine wpAnyH_ready (rs := [9]) (by kernel_rfl) (by simp) (AllReadyH.cons (o := ?oy219) ?hy219 (fun K hK => ?sy219) AllReadyH.nil)
        case hy219 => simp only [List.getElem?_toArray, List.getElem?_cons_zero, List.getElem?_cons_succ]; rfl
        refine stp_append rowNd rfl _ _ rfl (v := .slice C cn cc) rfl (HOd.out.alloc _) _ _ rfl (A := some ⟨w9.heap.size, 0, none⟩) (ys := [⟨TL.key, TR.key, L1[k].1, L1[k].2⟩]) rfl (rd_one (T := tNd) w9 ⟨TL.key, TR.key, L1[k].1, L1[k].2⟩ HND.out _) (by intro y hy; obtain rfl := List.mem_singleton.1 hy; exact HND.out) (by have := HAL.out; simp only [List.length_singleton]; omega) hH2.1.size ?_
        intro v10 w10 ho1 hg1 hat1
        have hfar : ∀ b, wr.heap.size ≤ b → some b ≠ (Value.slice C cn cc).ownBlock := fun b hb e => by have := (HO.out.base_le _ e.symm).2; omega
        have hs2 := HS2.out
        have hs3 := HS3.out
        have hH3 : Ext w w10 ∧ Blk w10 w2.heap.size 27 (numsA .u8 TL.key) ∧ Blk w10 w3.heap.size 27 (numsA .u8 TR.key) := ⟨(HOd.out.alloc _).ext_app hH2.1 hg1, hH2.2.1.grown hg1 (hfar _ hs2), hH2.2.2.grown hg1 (hfar _ hs3)⟩
        have HO10 := Lib.hid ho1
        have HX10 := Lib.hid hH3.1
        obtain ⟨D, dn, dc, rfl⟩ := ho1.shape3
        clear ho1 hg1 hat1 hfar
        refine hK.out _ _ hH3 (fun _ => ?_)
        clear hK K hH2 hH3 hHeld
        try simp only [Act.put, List.setIfInBounds_toArray, List.set_cons_zero, List.set_cons_succ]
        refine wpAnyH_take (i := 10) (oi := ?oiz22) (v := ?vz22) ?hiz22 (by kernel_rfl) (by kernel_rfl) (by kernel_rfl) ?hQz22 ?hyz22 (by assumption) ?restz22
        case hiz22 => simp only [List.getElem?_toArray, List.getElem?_cons_zero, List.getElem?_cons_succ]; rfl
        case hQz22 => exact fun _ _ _ h => h
        case hyz22 => exact Or.inl ⟨by rfl, by intro w hSw; (try dsimp only at hSw); go_simp; with_reducible rfl⟩
        try simp only [Act.put, List.setIfInBounds_toArray, List.set_cons_zero, List.set_cons_succ]
        refine wpAnyH_done (by kernel_rfl) ?_ _
        have d0 := HC.out w10 HX10.out 0 _ rfl
        have d1 : w10.cell? ⟨g, o + k * 2, none⟩ = some (.string L1[k].1) := d0
        have e2 := ltB_eq s L1[k].1
        clear d0 B6 B8
        have HRR := Lib.hid hR
        clear hR
        by_cases hname : L1[k].1 = s
        · have hn2 : (L1[k].1.toList == s.toList) = true := by rw [hname, beq_self_eq_true]
          have HQ := Lib.hid (show acc ++ [(⟨TL.key, TR.key, L1[k].1, L1[k].2⟩ : Nd)] = R by
            have := HRR.out
            simpa [hname, ltB_irrefl] using this)
          clear hname e2
          go_wp2
          go_ret
          exact ⟨_, rfl, by rw [← HQ.out]; exact HO10.out, HX10.out⟩
        · have hn2 : (L1[k].1.toList == s.toList) = false := by rw [beq_eq_false_iff_ne]; exact fun e => hname (toList_inj e)
          cases hl : ltB s L1[k].1 with
          | true =>
            have HQ := Lib.hid (show (acc ++ [(⟨TL.key, TR.key, L1[k].1, L1[k].2⟩ : Nd)]) ++ TL.sel (fun o => ltB s o) (fun o => ltB o s) = R by
              have := HRR.out
              simpa [hl, ltB_asymm hl] using this)
            rw [hl] at e2
            clear hname
            go_wp2
            go_roundw
            case rel => exact ⟨f, L1.take k, _, by rw [List.length_take]; omega, by rw [List.length_take]; omega, by rw [List.length_append, List.length_take]; have := HAL.out; simp only [List.length_singleton]; omega, HG.out.take k, RdL.headN H.out rfl (by omega), HO10.out, by rw [HTL.out]; exact HQ.out, HX10.out⟩
            case measure => simp [lenV]; omega
          | false =>
            have hl2 : ltB L1[k].1 s = true := by
              cases h : ltB L1[k].1 s with
              | true => rfl
              | false => exact absurd (ltB_total h hl) hname
            have HQ := Lib.hid (show (acc ++ [(⟨TL.key, TR.key, L1[k].1, L1[k].2⟩ : Nd)]) ++ TR.sel (fun o => ltB s o) (fun o => ltB o s) = R by
              have := HRR.out
              simpa [hl, hl2] using this)
            rw [hl] at e2
            have hcut := RdL.cutN (k := k + 1) H.out rfl (by omega)
            simp only [Option.map_some, Addr.add_lit, show tEnt.sz = 2 from rfl, if_neg hce] at hcut
            have HCUT := Lib.hid hcut
            clear hname hcut
            go_wp2
            go_roundw
            case rel => exact ⟨f, L1.drop (k + 1), _, by rw [List.length_drop]; omega, by rw [List.length_drop]; omega, by rw [List.length_append, List.length_drop]; have := HAL.out; simp only [List.length_singleton]; omega, HG.out.drop (k + 1), HCUT.out, HO10.out, by rw [HTR.out]; exact HQ.out, HX10.out⟩
            case measure => simp [lenV]; omega
end Go.Proofs.Ytmndkbheehcoaaa
/- The path to a name, as it is asked for. No condition. -/
namespace Go.Proofs.Ytmndkbheehcoaaa
open Go.RowKit
set_option linter.unusedVariables false
set_option linter.unusedSimpArgs false

/-- the path to a name, and the code -/
def provR (L : List En) (s : ByteArray) : List Nd × Int := if okE L && nameB s then ((trF L.length L).sel (fun o => ltB s o) (fun o => ltB o s), 0) else ([], 1)
theorem provR_len (L : List En) (s : ByteArray) : (provR L s).1.length ≤ 64 := by
  unfold provR
  split
  · rename_i h
    rw [Bool.and_eq_true] at h
    have h1 := (okE_incs' h.1).2
    exact Nat.le_trans (Tr.sel_le _ _ _) (Nat.le_trans (trF_len _ _) h1)
  · exact Nat.zero_le _
set_option maxHeartbeats 1000000 in
set_option maxRecDepth 100000 in
theorem specProveName_any (v : Value) (L : List En) (s : ByteArray) (hsz : s.size ≤ 140737488351232) (w : World) (S : Nat → Prop) (h : RdL tEnt w S v L) :
    Calls Try.prog 50 #[v, .string s] w fun e w' => ∃ v', e = .returned (.tuple #[v', .int .i64 (provR L s).2]) ∧ Own tNd 31 w' w.heap.size v' (provR L s).1 ∧ Ext w w' := by
  have H := Lib.hid h
  have hokL := h.choose_spec.choose_spec.2.2.2.2
  have hc := l04Ok_any v L w S h
  have hn := l04Name_any s hsz
  have hp := fun (hb : okE L = true) W hW => l04Path_any v L s (okE_incs' hb).2 (good_of hb hokL) W S hW
  obtain ⟨A, cap, rfl, hcap, hlen, _⟩ := h
  cases hb : okE L with
  | false =>
    simp only [provR, hb, Bool.false_and, Bool.false_eq_true, if_false]
    simp only [hb] at hc
    clear hb hp
    go_enter Try.func50, Try.ntmps50
    go_wp2_with fail
    refine hc.mono ?_
    rintro e w1 ⟨rfl, hx⟩
    have HX := Lib.hid hx
    clear hx
    go_wp2
    go_ret2
    exact ⟨_, rfl, Own.empty tNd _ 31 _ HX.out.size, HX.out.alloc _⟩
  | true =>
    simp only [hb] at hc
    replace hp := hp hb
    cases hb2 : nameB s with
    | false =>
      simp only [provR, hb, hb2, Bool.and_false, Bool.false_eq_true, if_false]
      simp only [hb2] at hn
      clear hb hb2 hp
      go_enter Try.func50, Try.ntmps50
      go_wp2_with fail
      refine hc.mono ?_
      rintro e w1 ⟨rfl, hx⟩
      have HX := Lib.hid hx
      clear hx
      go_wp2_with fail
      refine (hn _).mono ?_
      rintro e w' ⟨rfl, rfl⟩
      go_wp2
      go_ret2
      exact ⟨_, rfl, Own.empty tNd _ 31 _ HX.out.size, HX.out.alloc _⟩
    | true =>
      simp only [provR, hb, hb2, Bool.and_true, if_true]
      simp only [hb2] at hn
      clear hb hb2
      go_enter Try.func50, Try.ntmps50
      go_wp2_with fail
      refine hc.mono ?_
      rintro e w1 ⟨rfl, hx⟩
      have HX := Lib.hid hx
      clear hx
      go_wp2_with fail
      refine (hn _).mono ?_
      rintro e w' ⟨rfl, rfl⟩
      go_wp2_with fail
      refine (hp _ (H.out.ext (by decide) HX.out)).mono ?_
      rintro e w2 ⟨v2, rfl, ho, hx⟩
      have HO := Lib.hid (ho.le (base' := w.heap.size) HX.out.size)
      have HX2 := Lib.hid (HX.out.trans hx)
      obtain ⟨A2, n2, c2, rfl⟩ := ho.shape3
      clear ho hx
      go_wp2
      go_ret2
      exact ⟨_, rfl, HO.out, HX2.out⟩
set_option maxHeartbeats 1000000 in
set_option maxRecDepth 100000 in
theorem implProveName_any (v : Value) (L : List En) (s : ByteArray) (hsz : s.size ≤ 140737488351232) (w : World) (S : Nat → Prop) (h : RdL tEnt w S v L) :
    Calls Try.prog 49 #[v, .string s] w fun e w' => ∃ v', e = .returned (.tuple #[v', .int .i64 (provR L s).2]) ∧ Own tNd 31 w' w.heap.size v' (provR L s).1 ∧ Ext w w' := by
  have H := Lib.hid h
  have hokL := h.choose_spec.choose_spec.2.2.2.2
  have hc := validEntries_any v L w S h
  have hn := isName_any s hsz
  have hp := fun (hb : okE L = true) W hW => path_any v L s (okE_incs' hb).2 (good_of hb hokL) W S hW
  obtain ⟨A, cap, rfl, hcap, hlen, _⟩ := h
  cases hb : okE L with
  | false =>
    simp only [provR, hb, Bool.false_and, Bool.false_eq_true, if_false]
    simp only [hb] at hc
    clear hb hp
    go_enter Try.func49, Try.ntmps49
    go_wp2_with fail
    refine hc.mono ?_
    rintro e w1 ⟨rfl, hx⟩
    have HX := Lib.hid hx
    clear hx
    go_wp2
    go_ret2
    exact ⟨_, rfl, Own.nil _ _ _ _, HX.out⟩
  | true =>
    simp only [hb] at hc
    replace hp := hp hb
    cases hb2 : nameB s with
    | false =>
      simp only [provR, hb, hb2, Bool.and_false, Bool.false_eq_true, if_false]
      simp only [hb2] at hn
      clear hb hb2 hp
      go_enter Try.func49, Try.ntmps49
      go_wp2_with fail
      refine hc.mono ?_
      rintro e w1 ⟨rfl, hx⟩
      have HX := Lib.hid hx
      clear hx
      go_wp2_with fail
      refine (hn _).mono ?_
      rintro e w' ⟨rfl, rfl⟩
      go_wp2
      go_ret2
      exact ⟨_, rfl, Own.nil _ _ _ _, HX.out⟩
    | true =>
      simp only [provR, hb, hb2, Bool.and_true, if_true]
      simp only [hb2] at hn
      clear hb hb2
      go_enter Try.func49, Try.ntmps49
      go_wp2_with fail
      refine hc.mono ?_
      rintro e w1 ⟨rfl, hx⟩
      have HX := Lib.hid hx
      clear hx
      go_wp2_with fail
      refine (hn _).mono ?_
      rintro e w' ⟨rfl, rfl⟩
      go_wp2_with fail
      refine (hp _ (H.out.ext (by decide) HX.out)).mono ?_
      rintro e w2 ⟨v2, rfl, ho, hx⟩
      have HO := Lib.hid (ho.le (base' := w.heap.size) HX.out.size)
      have HX2 := Lib.hid (HX.out.trans hx)
      obtain ⟨A2, n2, c2, rfl⟩ := ho.shape3
      clear ho hx
      go_wp2
      go_ret2
      exact ⟨_, rfl, HO.out, HX2.out⟩
end Go.Proofs.Ytmndkbheehcoaaa
/- A map's own path, checked; where two paths part: plainly. No condition. -/
namespace Go.Proofs.Ytmndkbheehcoaaa
open Go.RowKit
set_option linter.unusedVariables false
set_option linter.unusedSimpArgs false

/-- the path to a name in a tree -/
def Tr.way (s : ByteArray) (T : Tr) : List Nd := T.sel (fun o => ltB s o) (fun o => ltB o s)
theorem Tr.way_node (s : ByteArray) (x : Nd) (l r : Tr) : (Tr.node x l r).way s = x :: ((if ltB s x.n then l.way s else []) ++ (if ltB x.n s then r.way s else [])) := by rw [way, Tr.sel]; rfl
theorem way_ck (s : ByteArray) (f : Nat) : ∀ (L : List En), L.length ≤ f → L.Pairwise ltE → (∀ e ∈ L, e.1 = s → ckF s (trF f L).key ((trF f L).way s) = (true, e.2, true)) ∧ ((∀ e ∈ L, e.1 ≠ s) → ckF s (trF f L).key ((trF f L).way s) = (false, ⟨#[]⟩, true)) := by
  have nil : ckF s Tr.leaf.key (Tr.leaf.way s) = (false, ⟨#[]⟩, true) := by
    show ckF s emptyL [] = _
    rw [ckF_nil]; simp
  induction f with
  | zero =>
    intro L hf hp
    obtain rfl : L = [] := List.eq_nil_of_length_eq_zero (by omega)
    rw [trF_zero]
    exact ⟨(fun e he => by cases he), fun _ => nil⟩
  | succ f ih =>
    intro L hf hp
    by_cases h0 : L.length = 0
    · obtain rfl : L = [] := List.eq_nil_of_length_eq_zero h0
      rw [trF_nil _ _ h0]
      exact ⟨(fun e he => by cases he), fun _ => nil⟩
    · have hlt := topE_lt (L := L) (by omega)
      rw [trF_cons _ _ h0]
      obtain ⟨k, hk⟩ : ∃ k, topE L = k := ⟨_, rfl⟩
      rw [hk] at hlt ⊢
      rw [gE_lt hlt]
      have hpw := List.pairwise_iff_getElem.1 hp
      have hl := ih (L.take k) (by rw [List.length_take]; omega) (hp.sublist (List.take_sublist _ _))
      have hr := ih (L.drop (k + 1)) (by rw [List.length_drop]; omega) (hp.sublist (List.drop_sublist _ _))
      generalize trF f (L.take k) = TL at hl ⊢
      generalize trF f (L.drop (k + 1)) = TR at hr ⊢
      rw [Tr.way_node]
      show (∀ e ∈ L, e.1 = s → ckF s (hashL 5 (nodeL ⟨TL.key, TR.key, L[k].1, L[k].2⟩)) _ = _) ∧ (_ → ckF s (hashL 5 (nodeL ⟨TL.key, TR.key, L[k].1, L[k].2⟩)) _ = _)
      rw [ckF_cons]
      by_cases hq : L[k].1 = s
      · rw [ckS_hit _ _ rfl hq]
        have e1 : ltB s L[k].1 = false := by rw [hq]; exact ltB_irrefl s
        have e2 : ltB L[k].1 s = false := by rw [hq]; exact ltB_irrefl s
        simp only [e1, e2, Bool.false_eq_true, if_false, List.append_nil, List.isEmpty_nil]
        refine ⟨fun e he hes => ?_, fun h => absurd hq (h _ (List.getElem_mem hlt))⟩
        obtain ⟨i, hi, rfl⟩ := List.getElem_of_mem he
        obtain rfl : i = k := by
          rcases Nat.lt_trichotomy i k with h | h | h
          · exact absurd (hes.trans hq.symm) (ltB_ne (hpw i k hi hlt h))
          · exact h
          · exact absurd (hq.trans hes.symm) (ltB_ne (hpw k i hlt hi h))
        rfl
      · rw [ckS_on _ _ rfl hq]
        cases h1 : ltB s L[k].1 with
        | true =>
          have e2 := ltB_asymm h1
          simp only [e2, Bool.false_eq_true, if_false, if_true, List.append_nil]
          refine ⟨fun e he hes => hl.1 e ?_ hes, fun h => hl.2 fun e he => h e (List.mem_of_mem_take he)⟩
          obtain ⟨i, hi, rfl⟩ := List.getElem_of_mem he
          have hik : i < k := by
            rcases Nat.lt_trichotomy i k with h | h | h
            · exact h
            · subst h; exact absurd hes hq
            · have h2 := hpw k i hlt hi h
              rw [ltE, hes, e2] at h2
              cases h2
          rw [List.mem_take_iff_getElem]
          exact ⟨i, by omega, rfl⟩
        | false =>
          have e2 : ltB L[k].1 s = true := by
            cases h2 : ltB L[k].1 s with
            | true => rfl
            | false => exact absurd (ltB_total h2 h1) hq
          simp only [e2, Bool.false_eq_true, if_false, if_true, List.nil_append]
          refine ⟨fun e he hes => hr.1 e ?_ hes, fun h => hr.2 fun e he => h e (List.mem_of_mem_drop he)⟩
          obtain ⟨i, hi, rfl⟩ := List.getElem_of_mem he
          have hik : k < i := by
            rcases Nat.lt_trichotomy i k with h | h | h
            · have h2 := hpw i k hi hlt h
              rw [ltE, hes, h1] at h2
              cases h2
            · subst h; exact absurd hes hq
            · exact h
          rw [List.mem_drop_iff_getElem]
          exact ⟨i - (k + 1), by omega, by congr 1; omega⟩
/-- what a map has of a name -/
def valE (L : List En) (s : ByteArray) : ByteArray := if hasE L s then (gE L (posE L s)).2 else ⟨#[]⟩
theorem own_ck {L : List En} (h : okE L = true) (s : ByteArray) : ckF s (trF L.length L).key ((trF L.length L).way s) = (hasE L s, valE L s, true) := by
  have hi := (okE_incs h).1
  have hw := way_ck s L.length L (Nat.le_refl _) (incs_pair.1 hi).2
  cases hh : hasE L s with
  | true =>
    have h2 := hh
    rw [hasE_eq, decide_eq_true_eq] at h2
    rw [valE, hh, if_pos rfl, gE_lt h2.1]
    refine hw.1 _ (List.getElem_mem h2.1) ?_
    rw [← gE_lt h2.1]; exact h2.2
  | false =>
    rw [valE, hh]
    refine hw.2 fun e he hes => ?_
    obtain ⟨i, hl, rfl⟩ := List.getElem_of_mem he
    have hp := posE_hit (s := s) hi i hl (by rw [gE_lt hl]; exact hes)
    rw [hasE_eq, decide_eq_false_iff_not] at hh
    exact hh (by rw [hp]; exact ⟨hl, by rw [gE_lt hl]; exact hes⟩)
/-- the node of zeros -/
def zeroN : Nd := ⟨List.replicate 32 0, List.replicate 32 0, ⟨#[]⟩, ⟨#[]⟩⟩
theorem zK : K32 (List.replicate 32 0) := ⟨rfl, by intro x hx; obtain ⟨_, rfl⟩ := List.mem_replicate.1 hx; omega⟩
theorem zeroN_ok : zeroN.ok := ⟨zK, zK, by decide, by decide⟩
deriving instance DecidableEq for Nd
/-- how far two paths are alike -/
def partN : List Nd → List Nd → Nat
  | x :: xs, y :: ys => if x = y then partN xs ys + 1 else 0
  | _, _ => 0
theorem partN_eq (A : List Nd) : ∀ (B : List Nd) (d : Nat), d ≤ A.length → d ≤ B.length → (∀ p, p < d → A.getD p zeroN = B.getD p zeroN) → (d = A.length ∨ d = B.length ∨ A.getD d zeroN ≠ B.getD d zeroN) → partN A B = d := by
  induction A with
  | nil => intro B d h1 _ _ _; simp at h1; subst h1; simp [partN]
  | cons x xs ih =>
    intro B d h1 h2 h3 h4
    match B, d with
    | [], d => simp at h2; subst h2; simp [partN]
    | y :: ys, 0 =>
      rw [partN, if_neg]
      rcases h4 with h | h | h
      · simp at h
      · simp at h
      · simpa using h
    | y :: ys, d + 1 =>
      have e0 := h3 0 (by omega)
      simp only [List.getD_cons_zero] at e0
      rw [partN, if_pos e0, ih ys d (by simpa using h1) (by simpa using h2) (fun p hp => by simpa using h3 (p + 1) (by omega)) (by simpa using h4)]
theorem alike {A B : List Nd} (hl : A.length = B.length) (h : ∀ p, p < A.length → A.getD p zeroN = B.getD p zeroN) : A = B := by
  refine List.ext_getElem hl fun i h1 h2 => ?_
  have := h i h1
  rw [List.getD_eq_getElem?_getD, List.getD_eq_getElem?_getD, List.getElem?_eq_getElem h1, List.getElem?_eq_getElem h2] at this
  exact this
/-- valid nodes are not the node of zeros -/
def full (A : List Nd) : Prop := ∀ i, i < A.length → A.getD i zeroN ≠ zeroN
theorem full_of {A : List Nd} (h : ∀ x ∈ A, entB x.n x.v = true) : full A := by
  intro i hi e
  rw [List.getD_eq_getElem?_getD, List.getElem?_eq_getElem hi] at e
  have h2 := entB_le (h _ (List.getElem_mem hi))
  rw [show A[i] = zeroN from e] at h2
  exact absurd h2.1 (by decide)
theorem both {A B : List Nd} (fa : full A) (fb : full B) (ne : A ≠ B) (i : Nat) (ha : i ≤ A.length) (hb : i ≤ B.length) (h : ∀ p, p < i → A.getD p zeroN = B.getD p zeroN) (e : A.getD i zeroN = B.getD i zeroN) : i < A.length ∧ i < B.length := by
  by_cases h1 : i < A.length
  · refine ⟨h1, ?_⟩
    by_cases h2 : i < B.length
    · exact h2
    · refine absurd ?_ (fa i h1)
      rw [e, List.getD_eq_getElem?_getD, List.getElem?_eq_none (by omega)]; rfl
  · by_cases h2 : i < B.length
    · refine absurd ?_ (fb i h2)
      rw [← e, List.getD_eq_getElem?_getD, List.getElem?_eq_none (by omega)]; rfl
    · exact absurd (alike (by omega) (fun p hp => h p (by omega))) ne
/-- what is answered: the two nodes and the code -/
def clR (L : List En) (s : ByteArray) (P : List Nd) : Nd × Nd × Int :=
  if okE L && nameB s && okNs P then
    (if (chkR (trF L.length L).key s P).2.2 = 0 then
      (if (chkR (trF L.length L).key s P).1 = hasE L s ∧ (chkR (trF L.length L).key s P).2.1 = valE L s then (zeroN, zeroN, 6)
       else (((trF L.length L).way s).getD (partN ((trF L.length L).way s) P) zeroN, P.getD (partN ((trF L.length L).way s) P) zeroN, 0))
     else (zeroN, zeroN, 4))
  else (zeroN, zeroN, 1)
theorem own_ne {L : List En} (h : okE L = true) (s : ByteArray) {P : List Nd} {c1 : Bool} {c2 : ByteArray} {c3 : Bool} (hc : ckF s (trF L.length L).key P = (c1, c2, c3)) (hn : ¬ (c1 = hasE L s ∧ c2 = valE L s)) : (trF L.length L).way s ≠ P := by
  intro e
  rw [← e, own_ck h s] at hc
  injection hc with e1 e2
  injection e2 with e2 e3
  exact hn ⟨e1.symm, e2.symm⟩
theorem Tr.sel_sub (p q : ByteArray → Bool) (T : Tr) : ∀ x ∈ T.sel p q, x ∈ T.all := by
  induction T with
  | leaf => intro x hx; simp [Tr.sel] at hx
  | node y l r il ir =>
    intro x hx
    simp only [Tr.sel, Tr.all, List.mem_cons, List.mem_append] at hx ⊢
    rcases hx with rfl | hx | hx
    · exact .inl rfl
    · split at hx
      · exact .inr (.inl (il x hx))
      · simp at hx
    · split at hx
      · exact .inr (.inr (ir x hx))
      · simp at hx
theorem way_full {L : List En} (hg : good L) (s : ByteArray) : full ((trF L.length L).way s) := full_of fun x hx => ((trF L.length L).all_ok (trF_ok _ _ hg) x (Tr.sel_sub _ _ _ x hx)).2
theorem okNs_full {P : List Nd} (h : okNs P = true) : full P := full_of fun x hx => by obtain ⟨i, hi, rfl⟩ := List.getElem_of_mem hx; exact okNs_at h hi
end Go.Proofs.Ytmndkbheehcoaaa
/- Nodes that are changed a little: whatever comes out is a list of nodes. No condition. -/
namespace Go.Proofs.Ytmndkbheehcoaaa
open Go.RowKit
set_option linter.unusedVariables false
set_option linter.unusedSimpArgs false

theorem hin_set {cur : Array Value} {l : List Value} {b n q : Nat} {u : Value} (hl : l.length = n) (hc : b + n ≤ cur.size) (hat : ∀ j u, l[j]? = some u → cur[b + j]? = some u) (hq : q < n) :
    ∀ j, j < n → (cur.setIfInBounds (b + q) u)[b + j]? = (l.set q u)[j]? := by
  intro j hj
  by_cases e : j = q
  · subst e
    rw [Array.getElem?_setIfInBounds_self_of_lt (by omega), List.getElem?_set_self (by omega)]
  · rw [Array.getElem?_setIfInBounds_ne (by omega), List.getElem?_set_ne (fun h => e h.symm)]
    rw [List.getElem?_eq_getElem (by omega)]
    exact hat j _ (List.getElem?_eq_getElem (by omega))
theorem splice_get (cur : Array Value) (o : Nat) (vs : List Value) (h : o + vs.length ≤ cur.size) (p : Nat) : (splice cur o vs)[p]? = if o ≤ p ∧ p < o + vs.length then vs[p - o]? else cur[p]? := by
  have h1 : cur.toList.length = cur.size := by simp
  unfold splice
  rw [List.getElem?_toArray]
  have ht : (cur.toList.take o).length = o := by rw [List.length_take]; omega
  have e : cur[p]? = cur.toList[p]? := by simp
  by_cases h2 : p < o
  · rw [if_neg (by omega), List.append_assoc, List.getElem?_append_left (by omega), List.getElem?_take, if_pos h2, e]
  · by_cases h3 : p < o + vs.length
    · rw [if_pos ⟨by omega, h3⟩, List.append_assoc, List.getElem?_append_right (by omega), ht, List.getElem?_append_left (by omega)]
    · rw [if_neg (by omega), List.getElem?_append_right (by rw [List.length_append, ht]; omega), List.length_append, ht, List.getElem?_drop, e]
      congr 1
      omega
/-- a node of one's own row: one of its cells is written anew -/
theorem nd_set {w : World} {e base : Nat} {v : Value} {xs : List Nd} (h : Own tNd e w base v xs) (k : Nat) (hk : k < xs.length) :
    ∃ g cap, v = .slice (some ⟨g, 0, none⟩) xs.length cap ∧ base ≤ g ∧ g < w.heap.size ∧ (∀ W, w.heap[g]? = W.heap[g]? → (∀ j u, xs[k].enc[j]? = some u → W.cell? ⟨g, k * 66 + j, none⟩ = some u) ∧ (∀ j, W.frozen? ⟨g, j, none⟩ = false) ∧
      (∀ q u x', q < 66 → x'.ok → x'.enc = xs[k].enc.set q u → Own tNd e (W.setCell ⟨g, k * 66 + q, none⟩ u) base v (xs.set k x')) ∧
      (∃ cur, Blk W g e cur ∧ k * 66 + 66 ≤ cur.size ∧ ∀ (r : List Int), K32 r → Own tNd e (W.setRow g (splice cur (k * 66 + 32) (nums .u8 r))) base v (xs.set k { xs[k] with r := r }))) := by
  obtain ⟨g, cap, cur, rfl, hb, hB, hc, hs, hat, hnew⟩ := own_at h k hk
  have hxo : xs[k].ok := h.2.2 _ (List.getElem_mem hk)
  have hlen := Nd.enc_length hxo
  have hs' : cur.size = cap * 66 := hs
  have hat' : ∀ j u, xs[k].enc[j]? = some u → cur[k * 66 + j]? = some u := hat
  have hle : k * 66 + 66 ≤ cur.size := by rw [hs']; omega
  refine ⟨g, cap, rfl, hb, hB.lt, fun W hW => ?_⟩
  have HB : Blk W g e cur := by unfold Blk at hB ⊢; rw [← hW]; exact hB
  refine ⟨fun j u hu => HB.at_ _ (hat' j u hu), fun j => HB.free j, fun q u x' hq hok henc => ?_, cur, HB, hle, fun r hr => ?_⟩
  · refine hnew x' (cur.setIfInBounds (k * 66 + q) u) _ hok (by simp) ?_ (fun p hp => ?_) (HB.set _ u)
    · have h1 := hin_set (u := u) hlen hle hat' hq
      intro j hj
      have h2 := h1 j hj
      rw [← henc] at h2
      exact h2
    · have hp' : p < k * 66 ∨ k * 66 + 66 ≤ p := hp
      rw [Array.getElem?_setIfInBounds_ne (by omega)]
  · have hrl : (nums .u8 r).length = 32 := by rw [nums_length, hr.1]
    have hll : (nums .u8 xs[k].l).length = 32 := by rw [nums_length, hxo.1.1]
    have hrr : (nums .u8 xs[k].r).length = 32 := by rw [nums_length, hxo.2.1.1]
    have hx : (Nd.mk xs[k].l r xs[k].n xs[k].v).ok := ⟨hxo.1, hr, hxo.2.2⟩
    have hsp := splice_get cur (k * 66 + 32) (nums .u8 r) (by rw [hrl]; omega)
    refine hnew _ (splice cur (k * 66 + 32) (nums .u8 r)) _ hx ?_ ?_ (fun p hp => ?_) (HB.setRow _)
    · unfold splice
      simp only [List.size_toArray, List.length_append, List.length_take, List.length_drop, Array.length_toList, hrl]
      omega
    · intro j hj
      have hj' : j < 66 := hj
      show (splice cur (k * 66 + 32) (nums .u8 r))[k * 66 + j]? = (nums .u8 xs[k].l ++ nums .u8 r ++ [.string xs[k].n, .string xs[k].v])[j]?
      rw [hsp (k * 66 + j), hrl]
      by_cases h1 : j < 32
      · rw [if_neg (by omega), List.append_assoc, List.getElem?_append_left (by omega)]
        obtain ⟨u, hu⟩ : ∃ u, (nums .u8 xs[k].l)[j]? = some u := ⟨(nums .u8 xs[k].l)[j]'(by omega), List.getElem?_eq_getElem _⟩
        rw [hu]
        refine hat' j u ?_
        rw [Nd.enc, List.append_assoc, List.getElem?_append_left (by omega)]; exact hu
      · by_cases h2 : j < 64
        · rw [if_pos (by omega), List.append_assoc, List.getElem?_append_right (by omega), hll, List.getElem?_append_left (by omega)]
          congr 1
          omega
        · rw [if_neg (by omega), List.getElem?_append_right (by rw [List.length_append]; omega), List.length_append, hll, hrl]
          obtain ⟨u, hu⟩ : ∃ u, ([Value.string xs[k].n, .string xs[k].v] : List Value)[j - (32 + 32)]? = some u := ⟨([Value.string xs[k].n, .string xs[k].v] : List Value)[j - (32 + 32)]'(by show j - (32 + 32) < 2; omega), List.getElem?_eq_getElem _⟩
          rw [hu]
          refine hat' j u ?_
          rw [Nd.enc, List.getElem?_append_right (by rw [List.length_append]; omega), List.length_append, hll, hrr]; exact hu
    · have hp' : p < k * 66 ∨ k * 66 + 66 ≤ p := hp
      rw [hsp p, hrl, if_neg (by omega)]
theorem enc_v {x : Nd} (h : x.ok) (s : ByteArray) : (Nd.mk x.l x.r x.n s).enc = x.enc.set 65 (.string s) := by
  have hl : (nums .u8 x.l ++ nums .u8 x.r).length = 64 := by rw [List.length_append, nums_length, nums_length, h.1.1, h.2.1.1]
  unfold Nd.enc
  rw [List.set_append_right _ _ (by omega), hl]; rfl
theorem enc_n {x : Nd} (h : x.ok) (s : ByteArray) : (Nd.mk x.l x.r s x.v).enc = x.enc.set 64 (.string s) := by
  have hl : (nums .u8 x.l ++ nums .u8 x.r).length = 64 := by rw [List.length_append, nums_length, nums_length, h.1.1, h.2.1.1]
  unfold Nd.enc
  rw [List.set_append_right _ _ (by omega), hl]; rfl
theorem enc_l {x : Nd} (h : x.ok) (j : Nat) (hj : j < 32) (b : Int) : (Nd.mk (x.l.set j b) x.r x.n x.v).enc = x.enc.set j (.int .u8 b) := by
  have hl : (nums .u8 x.l).length = 32 := by rw [nums_length, h.1.1]
  unfold Nd.enc
  rw [List.append_assoc, List.append_assoc, List.set_append_left _ _ (by omega)]
  simp [nums, List.map_set]
theorem made_flat {α : Type} {T : Ty α} {x : α} (hx : T.ok x) {z : Array Value} (hz : z.toList = T.enc x) (n : Nat) : (List.replicate n x).flatMap T.enc = (madeCells z (n * T.sz)).toList := by
  have hok : ∀ y ∈ List.replicate n x, T.ok y := fun y hy => by rw [List.eq_of_mem_replicate hy]; exact hx
  have hzs : z.size = T.sz := by rw [← Array.length_toList, hz, T.len x hx]
  apply List.ext_getElem?
  intro p
  by_cases hp : p < n * T.sz
  · have hz0 : 0 < T.sz := by
      rcases Nat.eq_zero_or_pos T.sz with h0 | h0
      · rw [h0] at hp; omega
      · exact h0
    have hi : p / T.sz < n := (Nat.div_lt_iff_lt_mul hz0).2 hp
    have hd : p / T.sz * T.sz + p % T.sz = p := by rw [Nat.mul_comm]; exact Nat.div_add_mod p T.sz
    have hj := Nat.mod_lt p hz0
    have hf := flat_at T (List.replicate n x) hok (p / T.sz) (by rw [List.length_replicate]; exact hi) (p % T.sz) hj
    rw [hd, List.getElem_replicate] at hf
    rw [hf, ← hz]
    simp only [madeCells, hzs]
    have hjz : p % T.sz < z.size := by omega
    simp [hp, hjz]
  · rw [List.getElem?_eq_none (by rw [flat_length T _ hok, List.length_replicate]; omega), List.getElem?_eq_none (by simp [madeCells]; omega)]
theorem zeroN_ok2 : zeroN.ok := zeroN_ok
set_option maxHeartbeats 1000000 in
set_option maxRecDepth 100000 in
theorem l04DrawName_any (g : Nat) (b : Int) (hb : b ≤ 4611686018427387000) (w : World) (h : Src w g b) :
    Calls Try.prog 156 #[.pointer (some ⟨g, 0, none⟩)] w fun e w' => ∃ s : ByteArray, e = .returned (.string s) ∧ s.size ≤ 140737488351232 ∧ w.grownBy w' (some g) := by
  have hgl := h.lt
  go_enter Try.func156, Try.ntmps156
  go_wp2_with fail
  refine (srcOne_any g b (by omega) 20 (by decide) _ h).mono ?_
  rintro e w1 ⟨r, rfl, hs, hg⟩
  have HS := Lib.hid hs
  have HG := Lib.hid hg
  clear hs hg h
  cases r with
  | true =>
    go_wp2_with fail
    refine (srcText_any _ _ (by omega) _ [⟨#[]⟩, ⟨#[49, 50, 51, 52, 53, 54, 55, 56, 57, 48, 49, 50, 51, 52, 53, 54, 55, 56, 57, 48, 49, 50, 51, 52]⟩, ⟨#[49, 50, 51, 52, 53, 54, 55, 56, 57, 48, 49, 50, 51, 52, 53, 54, 55, 56, 57, 48, 49, 50, 51, 52, 53]⟩] (by decide) _ (HS.out.ext (ext_alloc _ _)) _ (Own.of_blk tStr (base := w1.heap.size) (Blk.new w1 _ _) (Nat.le_refl _) (by decide) (by simp only [List.forall_mem_cons]; simp [tStr]; decide)).rd (fun k hk e => by have := hk.1; have := HS.out.lt; omega)).mono ?_
    rintro e w3 ⟨s, hm, rfl, hz, _, hg⟩
    replace HG := Lib.hid (grown_trans HG.out (grown_trans (ext_grown (some g) (ext_alloc w1 _)) hg))
    clear hg hm
    go_wp2
    go_ret
    exact ⟨s, rfl, hz, HG.out⟩
  | false =>
    go_wp2_with fail
    refine (l04Names_any _).mono ?_
    rintro e w2 ⟨v2, rfl, ho, hx2⟩
    go_wp2_with fail
    refine (srcText_any _ _ (by omega) _ namesL (by decide) _ (HS.out.ext hx2) _ ho.rd (fun k hk e => by have := hk.1; have := HS.out.lt; omega)).mono ?_
    rintro e w3 ⟨s, hm, rfl, hz, _, hg⟩
    replace HG := Lib.hid (grown_trans HG.out (grown_trans (ext_grown (some g) hx2) hg))
    clear hg hm ho hx2
    go_wp2
    go_ret
    exact ⟨s, rfl, hz, HG.out⟩
theorem Own.after {α : Type} {T : Ty α} {e : TypeId} {w : World} {base : Nat} {v : Value} {xs : List α} (h : Own T e w base v xs) : RdL T w (fun k => base ≤ k) v xs := h.rd.mono fun k hk => hk.1
set_option maxHeartbeats 4000000 in
set_option maxRecDepth 100000 in
theorem l04Spoilt_any (g : Nat) (b : Int) (hb : b ≤ 4611686018427380000) (v : Value) (L : List Nd) (hvs : ∀ x ∈ L, x.v.size ≤ 1000) (h64 : L.length ≤ 100) (w : World) (h : Src w g b) (S : Nat → Prop) (hr : RdL tNd w S v L) :
    Calls Try.prog 114 #[.pointer (some ⟨g, 0, none⟩), v] w fun e w' => ∃ v' BL, e = .returned v' ∧ RdL tNd w' (fun k => w.heap.size ≤ k) v' BL ∧ w.grownBy w' (some g) := by
  have hgl := h.lt
  have HR := Lib.hid (hr.ext (by decide) (ext_alloc w (.cells #[] 31)))
  have HK := Lib.hid (ok_nd hr)
  have HV := Lib.hid hvs
  have HS := Lib.hid h
  obtain ⟨A, cap, rfl, hcap, hlen, _⟩ := hr
  clear h hvs
  by_cases h0 : L.length = 0
  · obtain rfl : L = [] := List.eq_nil_of_length_eq_zero h0
    go_enter Try.func114, Try.ntmps114
    go_wp2_with (at_builtin; refine wpl_append rowNd rfl _ _ rfl (v := .slice (some ⟨w.heap.size, 0, none⟩) 0 0) rfl (Own.empty tNd w 31 w.heap.size (Nat.le_refl _)) _ _ rfl (ys := ([] : List Nd)) rfl (rd_nd HR.out) HK.out (by simp only [List.length_nil]; omega) (by simp) ?_; intro v0 w0 ho1 hg1 hat1; rw [List.nil_append] at ho1; obtain ⟨C, q, rfl⟩ := ho1.shape; have HX0 := Lib.hid ((ext_alloc w _).grown hg1 (fun k hk => Nat.le_of_eq (Option.some.inj hk))); have HO := Lib.hid ho1; clear ho1 hg1 hat1)
    replace HS := Lib.hid (HS.out.ext HX0.out)
    have HG := Lib.hid (ext_grown (some g) HX0.out)
    have HE := Lib.hid (HO.out.after)
    go_ret
    exact ⟨_, [], rfl, HE.out, HG.out⟩
  have hz : ((L.length : Int) == 0) = false := by rw [beq_eq_false_iff_ne]; omega
  go_enter Try.func114, Try.ntmps114
  go_wp2_with (at_builtin; refine wpl_append rowNd rfl _ _ rfl (v := .slice (some ⟨w.heap.size, 0, none⟩) 0 0) rfl (Own.empty tNd w 31 w.heap.size (Nat.le_refl _)) _ _ rfl (ys := L) rfl (rd_nd HR.out) HK.out (by simp only [List.length_nil]; omega) (by simp) ?_; intro v0 w0 ho1 hg1 hat1; rw [List.nil_append] at ho1; obtain ⟨C, q, rfl⟩ := ho1.shape; have HX0 := Lib.hid ((ext_alloc w _).grown hg1 (fun k hk => Nat.le_of_eq (Option.some.inj hk))); have HO := Lib.hid ho1; clear ho1 hg1 hat1)
  replace HS := Lib.hid (HS.out.ext HX0.out)
  have HG := Lib.hid (ext_grown (some g) HX0.out)
  have HE := Lib.hid (HO.out.after)
  refine (srcOne_any g b (by omega) 2 (by decide) _ HS.out).mono ?_
  rintro e w1 ⟨r, rfl, hs, hg⟩
  replace HO := Lib.hid (HO.out.kept hg (HO.out.ne_src hgl))
  replace HS := Lib.hid hs
  replace HG := Lib.hid (grown_trans HG.out hg)
  replace HE := Lib.hid (HO.out.after)
  clear hs hg
  cases r with
  | true =>
    go_wp2
    go_ret
    exact ⟨_, L, rfl, HE.out, HG.out⟩
  | false =>
    have hL2 : (L.length : Int) ≤ 4611686018427387904 := by omega
    go_wp2_with fail
    refine (srcPick_any g _ (by omega) L.length hL2 _ HS.out).mono ?_
    rintro e w2 ⟨x, rfl, hx0, hx1, hs, hg⟩
    replace HO := Lib.hid (HO.out.kept hg (HO.out.ne_src hgl))
    replace HS := Lib.hid hs
    replace HG := Lib.hid (grown_trans HG.out hg)
    obtain ⟨k, rfl⟩ := Int.eq_ofNat_of_zero_le hx0
    have hk : k < L.length := by omega
    clear hs hg hx0 hx1 HE hz h0
    go_wp2_with fail
    refine (srcPick_any g _ (by omega) 7 (by decide) _ HS.out).mono ?_
    rintro e w3 ⟨y, rfl, hy0, hy1, hs, hg⟩
    replace HO := Lib.hid (HO.out.kept hg (HO.out.ne_src hgl))
    replace HS := Lib.hid hs
    replace HG := Lib.hid (grown_trans HG.out hg)
    replace HE := Lib.hid (HO.out.after)
    obtain ⟨g1, c1, es, hb1, hl1, hset⟩ := nd_set HO.out k hk
    injection es with es1 es2 es3
    subst es1 es3
    have HSET := Lib.hid hset
    have hb1' : w.heap.size ≤ g1 := hb1
    have hne : g1 ≠ g := by omega
    have hvk : L[k].v.size ≤ 1000 := HV.out _ (List.getElem_mem hk)
    have hok : L[k].ok := HK.out _ (List.getElem_mem hk)
    have hi : (0 : Int) ≤ (k : Int) := by omega
    have hi2 : (k : Int) < (L.length : Int) := by omega
    clear hs hg hset es2 hb1
    generalize hxk : L[k] = x at HSET hvk hok
    have HXO := Lib.hid hok
    have H3 := Lib.hid (HSET.out w3 rfl)
    have e7 : y = 0 ∨ y = 1 ∨ y = 2 ∨ y = 3 ∨ y = 4 ∨ y = 5 ∨ y = 6 := by omega
    clear hy0 hy1 hok
    rcases e7 with rfl | rfl | rfl | rfl | rfl | rfl | rfl
    · -- 0: the head
      have hkq : (k : Int) ≤ (q : Int) := by
        have := HO.out.rd.choose_spec.choose_spec
        have h2 := this.2.1
        obtain ⟨_, _, e3⟩ := Value.slice.inj this.1
        omega
      go_wp2
      go_ret
      exact ⟨_, L.take k, rfl, HE.out.head (Nat.le_of_lt hk), HG.out⟩
    · -- 1: a longer value
      have c65 : w3.cell? ⟨g1, k * 66 + 64 + 1, none⟩ = some (.string x.v) := H3.out.1 65 _ (by have := Nd.at65 HXO.out; rwa [List.getElem?_toArray] at this)
      have f65 := H3.out.2.1 (k * 66 + 64 + 1)
      go_wp2
      go_ret
      exact ⟨_, _, rfl, (H3.out.2.2.1 65 (.string (x.v ++ ⟨#[120]⟩)) ⟨x.l, x.r, x.n, x.v ++ ⟨#[120]⟩⟩ (by decide) ⟨HXO.out.1, HXO.out.2.1, HXO.out.2.2.1, by rw [ByteArray.size_append]; exact Nat.le_trans (Nat.add_le_add_right hvk 1) (by decide)⟩ (enc_v HXO.out _)).after, grownN HG.out (grown_set (grown_refl _ (some g1)) _) hb1'⟩
    · -- 2: another byte of the left key
      go_wp2_with fail
      have HLL := Lib.hid HXO.out.1
      have HSd := Lib.hid (show Src w3.drew g _ from HS.out.later (row := none) (grown_drewN (grown_refl w3 none) 1) (fun k e => by cases e))
      have HGd := Lib.hid (show w.grownBy w3.drew (some g) from grown_drewN HG.out 1)
      have HWd := Lib.hid (show w3.heap[g1]? = w3.drew.heap[g1]? from rfl)
      have hld : g1 < w3.drew.heap.size := hl1
      refine wp_region_held_drew (S := fun W => w.grownBy W (some g)) (by kernel_rfl) HGd.out (fun hHeld => ?_)
      generalize hwz : w3.drew = wz at hHeld HSd HWd hld ⊢
      refine wpAnyH_take (i := 0) (oi := ?oiz1) (v := ?vz1) ?hiz1 (by kernel_rfl) (by kernel_rfl) (by kernel_rfl) ?hQz1 ?hyz1 (by assumption) ?restz1
      case hiz1 => simp only [List.getElem?_toArray, List.getElem?_cons_zero, List.getElem?_cons_succ]; rfl
      case hQz1 => exact fun _ _ _ h => h
      case hyz1 => exact Or.inl ⟨by rfl, by intro w hSw; (try dsimp only at hSw); go_simp; with_reducible rfl⟩
      try simp only [Act.put, List.setIfInBounds_toArray, List.set_cons_zero, List.set_cons_succ]
      refine wpAnyH_take (i := 1) (oi := ?oiz2) (v := ?vz2) ?hiz2 (by kernel_rfl) (by kernel_rfl) (by kernel_rfl) ?hQz2 ?hyz2 (by assumption) ?restz2
      case hiz2 => simp only [List.getElem?_toArray, List.getElem?_cons_zero, List.getElem?_cons_succ]; rfl
      case hQz2 => exact fun _ _ _ h => h
      case hyz2 => exact Or.inl ⟨by rfl, by intro w hSw; (try dsimp only at hSw); go_simp; with_reducible rfl⟩
      try simp only [Act.put, List.setIfInBounds_toArray, List.set_cons_zero, List.set_cons_succ]
      refine wpAnyH_take (i := 2) (oi := ?oiz3) (v := ?vz3) ?hiz3 (by kernel_rfl) (by kernel_rfl) (by kernel_rfl) ?hQz3 ?hyz3 (by assumption) ?restz3
      case hiz3 => simp only [List.getElem?_toArray, List.getElem?_cons_zero, List.getElem?_cons_succ]; rfl
      case hQz3 => exact fun _ _ _ h => h
      case hyz3 => exact Or.inl ⟨by rfl, by intro w hSw; (try dsimp only at hSw); go_simp; with_reducible rfl⟩
      try simp only [Act.put, List.setIfInBounds_toArray, List.set_cons_zero, List.set_cons_succ]
      refine wpAnyH_take (i := 4) (oi := ?oiz4) (v := ?vz4) ?hiz4 (by kernel_rfl) (by kernel_rfl) (by kernel_rfl) ?hQz4 ?hyz4 (by assumption) ?restz4
      case hiz4 => simp only [List.getElem?_toArray, List.getElem?_cons_zero, List.getElem?_cons_succ]; rfl
      case hQz4 => exact fun _ _ _ h => h
      case hyz4 => exact Or.inl ⟨by rfl, by intro w hSw; (try dsimp only at hSw); go_simp; with_reducible rfl⟩
      try simp only [Act.put, List.setIfInBounds_toArray, List.set_cons_zero, List.set_cons_succ]
      refine wpAnyH_take (i := 5) (oi := ?oiz5) (v := ?vz5) ?hiz5 (by kernel_rfl) (by kernel_rfl) (by kernel_rfl) ?hQz5 ?hyz5 (by assumption) ?restz5
      case hiz5 => simp only [List.getElem?_toArray, List.getElem?_cons_zero, List.getElem?_cons_succ]; rfl
      case hQz5 => exact fun _ _ _ h => h
      case hyz5 => exact Or.inl ⟨by rfl, by intro w hSw; (try dsimp only at hSw); go_simp; with_reducible rfl⟩
      try simp only [Act.put, List.setIfInBounds_toArray, List.set_cons_zero, List.set_cons_succ]
      refine wpAnyH_take (i := 9) (oi := ?oiz6) (v := ?vz6) ?hiz6 (by kernel_rfl) (by kernel_rfl) (by kernel_rfl) ?hQz6 ?hyz6 (by assumption) ?restz6
      case hiz6 => simp only [List.getElem?_toArray, List.getElem?_cons_zero, List.getElem?_cons_succ]; rfl
      case hQz6 => exact fun _ _ _ h => h
      case hyz6 => exact Or.inl ⟨by rfl, by intro w hSw; (try dsimp only at hSw); go_simp; with_reducible rfl⟩
      try simp only [Act.put, List.setIfInBounds_toArray, List.set_cons_zero, List.set_cons_succ]
      refine wpAnyH_take (i := 10) (oi := ?oiz7) (v := ?vz7) ?hiz7 (by kernel_rfl) (by kernel_rfl) (by kernel_rfl) ?hQz7 ?hyz7 (by assumption) ?restz7
      case hiz7 => simp only [List.getElem?_toArray, List.getElem?_cons_zero, List.getElem?_cons_succ]; rfl
      case hQz7 => exact fun _ _ _ h => h
      case hyz7 => exact Or.inl ⟨by rfl, by intro w hSw; (try dsimp only at hSw); go_simp; with_reducible rfl⟩
      try simp only [Act.put, List.setIfInBounds_toArray, List.set_cons_zero, List.set_cons_succ]
      refine wpAnyH_ready (rs := [3]) (by kernel_rfl) (by simp) (AllReadyH.cons (o := ?oy83) ?hy83 (fun K hK => ?sy83) AllReadyH.nil)
      case hy83 => simp only [List.getElem?_toArray, List.getElem?_cons_zero, List.getElem?_cons_succ]; rfl
      go_simp
      refine (srcPick_any g _ (by omega) 32 (by decide) _ HSd.out).mono ?_
      rintro e w4 ⟨j, rfl, hj0, hj1, hs, hg⟩
      obtain ⟨j, rfl⟩ := Int.eq_ofNat_of_zero_le hj0
      have hj : j < 32 := by omega
      have hji : (j : Int) < 32 := by omega
      have hW4 : w3.heap[g1]? = w4.heap[g1]? := HWd.out.trans (hg.block g1 hld (fun e => hne (Option.some.inj e))).symm
      have hH2 := grown_trans hHeld hg
      refine hK.out _ _ hH2 (fun _ => ?_)
      clear hHeld hK K hs hg hj1 hwz HWd HGd HSd
      have hHeld := hH2
      clear hH2
      try simp only [Act.put, List.setIfInBounds_toArray, List.set_cons_zero, List.set_cons_succ]
      have H4 := Lib.hid (HSET.out w4 hW4)
      have c9 : w4.cell? ⟨g1, k * 66 + j, none⟩ = some (.int .u8 (gI x.l j)) := H4.out.1 j _ (by
        rw [Nd.enc, List.append_assoc, List.getElem?_append_left (by rw [nums_length, HLL.out.1]; exact hj)]
        exact nums_at _ _ _ (by rw [HLL.out.1]; exact hj))
      have f9 := H4.out.2.1 (k * 66 + j)
      have hbj := B8.get HLL.out.2 j
      clear hW4
      refine wpAnyH_take (i := 6) (oi := ?oiz9) (v := ?vz9) ?hiz9 (by kernel_rfl) (by kernel_rfl) (by kernel_rfl) ?hQz9 ?hyz9 (by assumption) ?restz9
      case hiz9 => simp only [List.getElem?_toArray, List.getElem?_cons_zero, List.getElem?_cons_succ]; rfl
      case hQz9 => exact fun _ _ _ h => h
      case hyz9 => exact Or.inl ⟨by rfl, by intro w hSw; (try dsimp only at hSw); go_simp; with_reducible rfl⟩
      try simp only [Act.put, List.setIfInBounds_toArray, List.set_cons_zero, List.set_cons_succ]
      refine wpAnyH_ready (rs := [7]) (by kernel_rfl) (by simp) (AllReadyH.cons (o := ?oy107) ?hy107 (fun K hK => ?sy107) AllReadyH.nil)
      case hy107 => simp only [List.getElem?_toArray, List.getElem?_cons_zero, List.getElem?_cons_succ]; rfl
      go_simp
      refine hK.out _ _ hHeld (fun _ => ?_)
      clear hK K
      try simp only [Act.put, List.setIfInBounds_toArray, List.set_cons_zero, List.set_cons_succ]
      refine wpAnyH_take (i := 8) (oi := ?oiz11) (v := ?vz11) ?hiz11 (by kernel_rfl) (by kernel_rfl) (by kernel_rfl) ?hQz11 ?hyz11 (by assumption) ?restz11
      case hiz11 => simp only [List.getElem?_toArray, List.getElem?_cons_zero, List.getElem?_cons_succ]; rfl
      case hQz11 => exact fun _ _ _ h => h
      case hyz11 => exact Or.inl ⟨by rfl, by intro w hSw; (try dsimp only at hSw); go_simp; with_reducible rfl⟩
      try simp only [Act.put, List.setIfInBounds_toArray, List.set_cons_zero, List.set_cons_succ]
      refine wpAnyH_take (i := 11) (oi := ?oiz12) (v := ?vz12) ?hiz12 (by kernel_rfl) (by kernel_rfl) (by kernel_rfl) ?hQz12 ?hyz12 (by assumption) ?restz12
      case hiz12 => simp only [List.getElem?_toArray, List.getElem?_cons_zero, List.getElem?_cons_succ]; rfl
      case hQz12 => exact fun _ _ _ h => h
      case hyz12 => exact Or.inl ⟨by rfl, by intro w hSw; (try dsimp only at hSw); go_simp; with_reducible rfl⟩
      try simp only [Act.put, List.setIfInBounds_toArray, List.set_cons_zero, List.set_cons_succ]
      refine wpAnyH_ready (rs := [12]) (by kernel_rfl) (by simp) (AllReadyH.cons (o := ?oy1312) ?hy1312 (fun K hK => ?sy1312) AllReadyH.nil)
      case hy1312 => simp only [List.getElem?_toArray, List.getElem?_cons_zero, List.getElem?_cons_succ]; rfl
      go_simp
      have hH2 := grownN hHeld (grown_set (grown_refl w4 (some g1)) (i := k * 66 + j) (.int .u8 (IntKind.u8.wrap (gI x.l j + 1)))) hb1'
      refine hK.out _ _ hH2 (fun _ => ?_)
      have HH := Lib.hid hH2
      clear hK K hH2 hHeld
      try simp only [Act.put, List.setIfInBounds_toArray, List.set_cons_zero, List.set_cons_succ]
      refine wpAnyH_done (by kernel_rfl) ?_ _
      go_wp2
      go_ret
      have hw : 0 ≤ IntKind.u8.wrap (gI x.l j + 1) ∧ IntKind.u8.wrap (gI x.l j + 1) ≤ 255 := by rw [IntKind.wrap_u8]; omega
      exact ⟨_, _, rfl, (H4.out.2.2.1 j (.int .u8 (IntKind.u8.wrap (gI x.l j + 1))) ⟨x.l.set j (IntKind.u8.wrap (gI x.l j + 1)), x.r, x.n, x.v⟩ (by omega) ⟨⟨by rw [List.length_set]; exact HLL.out.1, fun y hy => by rcases List.mem_or_eq_of_mem_set hy with hy | rfl; exact HLL.out.2 y hy; exact hw⟩, HXO.out.2⟩ (enc_l HXO.out j hj _)).after, HH.out⟩
    · -- 3: a node twice
      have hSZ := Nd.enc_length HXO.out
      have hd := fun j u hu => H3.out.1 j u hu
      have HD := Lib.hid hd
      clear hd
      go_wp2_with (first
        | (refine wpl_load ⟨g1, k * 66, none⟩ x.enc (by rw [hSZ]; exact aggNodeI) rfl _ rfl rfl (fun j u hu => by rw [Addr.add_lit]; exact HD.out j u hu) ?_)
        | (at_builtin; rw [fold_fill x.enc _ (by rw [hSZ]; rfl)]; refine wpl_append rowNd rfl _ _ rfl (v := .slice (some ⟨g1, 0, none⟩) L.length q) rfl (HO.out.alloc _) _ _ rfl (A := some ⟨w3.heap.size, 0, none⟩) (ys := [x]) rfl (rd_one (T := tNd) w3 x HXO.out _) (by intro y hy; obtain rfl := List.mem_singleton.1 hy; exact HXO.out) (by simp only [List.length_singleton]; omega) (by have := HG.out.size; simp; omega) ?_; intro v9 w9 ho1 hg1 hat1; obtain ⟨C9, q9, rfl⟩ := ho1.shape; have HG9 := Lib.hid (grownN (grown_ext HG.out (ext_alloc _ _)) hg1 hb1'); have HO9 := Lib.hid ho1; clear ho1 hg1 hat1))
      go_ret
      have h9 := HO9.out.after
      simp only [List.length_append, List.length_singleton] at h9
      exact ⟨_, _, rfl, h9, HG9.out⟩
    · -- 4: another name
      go_wp2_with fail
      refine (l04DrawName_any g _ (by omega) _ HS.out).mono ?_
      rintro e w4 ⟨s, rfl, hsz, hg⟩
      have hW : w3.heap[g1]? = w4.heap[g1]? := (hg.block g1 hl1 (fun e => hne (Option.some.inj e))).symm
      have H4 := Lib.hid (HSET.out w4 hW)
      replace HG := Lib.hid (grown_trans HG.out hg)
      obtain ⟨val, c64⟩ : ∃ v, w4.cell? ⟨g1, k * 66 + 64, none⟩ = some v := ⟨_, H4.out.1 64 _ (by have := Nd.at64 HXO.out; rwa [List.getElem?_toArray] at this)⟩
      have f64 := H4.out.2.1 (k * 66 + 64)
      clear hg hW
      go_wp2
      go_ret
      exact ⟨_, _, rfl, (H4.out.2.2.1 64 (.string s) ⟨x.l, x.r, s, x.v⟩ (by decide) ⟨HXO.out.1, HXO.out.2.1, hsz, HXO.out.2.2.2⟩ (enc_n HXO.out _)).after, grownN HG.out (grown_set (grown_refl _ (some g1)) _) hb1'⟩
    · -- 5: another right key
      go_wp2_with fail
      refine (l04Empty_any _).mono ?_
      rintro e w4 ⟨rfl, hx⟩
      have hW : w3.heap[g1]? = w4.heap[g1]? := (hx.block g1 hl1).symm
      obtain ⟨cur, hB, hle, hnew⟩ := (HSET.out w4 hW).2.2.2
      replace HG := Lib.hid (grown_ext HG.out hx)
      have HB := Lib.hid hB
      have HN := Lib.hid (hnew emptyL emptyL_ok)
      have HST := Lib.hid (St.nums (k := .u8) emptyL_ok.1)
      clear hx hW hB hnew
      go_wp2_with (refine wpl_storeP (off := k * 66 + 32) HB.out aggKey HST.out (by omega) rfl _ _ rfl rfl rfl rfl ?_)
      go_ret
      exact ⟨_, _, rfl, HN.out.after, grownN HG.out (setRow_grown _ _ _) hb1'⟩
    · -- 6: too many
      have hz66 : (Try.prog.info? 31).map (fun i => (i.zero, i.size, i.bytes)) = some (some (.agg zNd.toArray), 66, 96) := by kernel_rfl
      obtain ⟨iN, i1, i2, i3, i4⟩ := info_parts hz66
      have hmk := made_flat (T := tNd) zeroN_ok (z := zNd.toArray) rfl 65
      have HMK := Lib.hid hmk
      have hbs := HG.out.size
      go_wp2_with (refine wpList_make_full _ rfl _ _ 36 rfl w.heap.size 31 iN (.agg zNd.toArray) 66 Try.underlying36 i1 i2 i3 .i64 .i64 65 65 65 rfl rfl rfl rfl (by rw [i4]; decide) (by decide) hbs ?_; intro w4 ho4 hg4)
      have HO6 := Lib.hid (show Own tNd 31 w4 w.heap.size (.slice (some ⟨w3.heap.size, 0, none⟩) 65 65) (List.replicate 65 zeroN) from ⟨by rw [HMK.out]; exact ho4, by decide, fun y hy => by rw [List.eq_of_mem_replicate hy]; exact zeroN_ok⟩)
      have HG6 := Lib.hid (grown_trans HG.out (show w3.grownBy w4 (some g) from ⟨hg4.os, hg4.tape, hg4.output, hg4.size, fun i hi _ => hg4.block i hi (by simp)⟩))
      clear ho4 hg4 hmk HMK
      go_loopw [8] (fun i wr => ∃ m : Nat, m ≤ 65 ∧ i = .int .i64 m ∧ ∃ ys : List Nd, ys.length = 65 ∧ Own tNd 31 wr w.heap.size (.slice (some ⟨w3.heap.size, 0, none⟩) 65 65) ys ∧ w.grownBy wr (some g)) (fun i _ => 65 - (intOf i).toNat)
      case atStart => exact ⟨0, by omega, rfl, _, by rw [List.length_replicate], HO6.out, HG6.out⟩
      case round =>
        obtain ⟨m, hm, rfl, ys, hyl, ho, hg⟩ := hrel
        have HOy := Lib.hid ho
        have HGy := Lib.hid hg
        have HYL := Lib.hid hyl
        clear ho hg hyl HO6 HG6 HO HE
        by_cases hlt : m < 65
        · obtain ⟨g2, c2, es, hb2, hl2, hset2⟩ := nd_set HOy.out m (by rw [HYL.out]; exact hlt)
          injection es with es1 es2 es3
          injection es1 with es1
          injection es1 with es1 es4 es5
          subst es1
          have hyo : ys[m].ok := HOy.out.2.2 _ (List.getElem_mem _)
          have H4 := Lib.hid (hset2 wr rfl)
          have HYO := Lib.hid hyo
          obtain ⟨val, c64⟩ : ∃ v, wr.cell? ⟨w3.heap.size, m * 66 + 64, none⟩ = some v := ⟨_, H4.out.1 64 _ (by have := Nd.at64 hyo; rwa [List.getElem?_toArray] at this)⟩
          have f64 := H4.out.2.1 (m * 66 + 64)
          have hm1 : (0 : Int) ≤ (m : Int) := by omega
          have hm2 : (m : Int) < 65 := by omega
          have hb2' : w.heap.size ≤ w3.heap.size := hb2
          clear hset2 hyo
          go_wp2
          go_roundw
          case rel => exact ⟨m + 1, by omega, by go_num, _, by rw [List.length_set]; exact HYL.out, (H4.out.2.2.1 64 (.string ⟨#[97]⟩) ⟨ys[m].l, ys[m].r, ⟨#[97]⟩, ys[m].v⟩ (by decide) ⟨HYO.out.1, HYO.out.2.1, by show (1 : Nat) ≤ 140737488351232; decide, HYO.out.2.2.2⟩ (enc_n HYO.out _)), grownN HGy.out (grown_set (grown_refl _ (some w3.heap.size)) _) hb2'⟩
          case measure => simp [intOf]; omega
        · obtain rfl : m = 65 := by omega
          go_wp2
          go_ret
          exact ⟨_, ys, rfl, HOy.out.after, HGy.out⟩
end Go.Proofs.Ytmndkbheehcoaaa
/- Nodes held against each other by == and !=. No condition. -/
namespace Go.Proofs.Ytmndkbheehcoaaa
open Go.RowKit
set_option linter.unusedVariables false
set_option linter.unusedSimpArgs false

theorem part_sub (t n : Nat) (cs : Array Value) (off : Nat) (W : World) (h1 : (isAgg t).run Try.prog W = .ok true W) (h2 : (sizeOf t).run Try.prog W = .ok n W) : (part t cs off).run Try.prog W = .ok (.agg (cs.extract off (off + n))) W := by
  unfold part
  simp only [Sem.run_bind, h1, Result.andThen_ok, if_true, h2, Sem.run_pure]
theorem part_one (t : Nat) (cs : Array Value) (off : Nat) (v : Value) (W : World) (h1 : (isAgg t).run Try.prog W = .ok false W) (h2 : cs[off]? = some v) : (part t cs off).run Try.prog W = .ok v W := by
  unfold part
  simp only [Sem.run_bind, h1, Result.andThen_ok, Bool.false_eq_true, if_false, h2, Sem.run_pure]
theorem enc_ex0 {x : Nd} (h : x.ok) : x.enc.toArray.extract 0 (0 + 32) = numsA .u8 x.l := by
  apply Array.toList_inj.1
  have hl := nums_length .u8 x.l
  rw [h.1.1] at hl
  simp only [List.extract_toArray, List.extract_eq_take_drop, Nd.enc, numsA, List.drop_zero, Nat.add_sub_cancel_left, List.append_assoc]
  rw [List.take_left' hl]
theorem enc_ex1 {x : Nd} (h : x.ok) : x.enc.toArray.extract 32 (32 + 32) = numsA .u8 x.r := by
  apply Array.toList_inj.1
  have hl := nums_length .u8 x.l
  have hr := nums_length .u8 x.r
  rw [h.1.1] at hl
  rw [h.2.1.1] at hr
  simp only [List.extract_toArray, List.extract_eq_take_drop, Nd.enc, numsA, Nat.add_sub_cancel_left, List.append_assoc]
  rw [List.drop_left' hl, List.take_left' hr]
theorem enc_ex2 {x : Nd} (h : x.ok) : x.enc.toArray.extract 64 (64 + 2) = #[.string x.n, .string x.v] := by
  apply Array.toList_inj.1
  have hl : (nums .u8 x.l ++ nums .u8 x.r).length = 64 := by rw [List.length_append, nums_length, nums_length, h.1.1, h.2.1.1]
  simp only [List.extract_toArray, List.extract_eq_take_drop, Nd.enc, Nat.add_sub_cancel_left]
  rw [List.drop_left' hl]
  rfl
section
variable {P : Program} (w : World)
theorem eqF_cons {d : Nat} {xs ys : Array Value} {f : Field} {fs : List Field} {a b : Value} {r : Bool} (hn : f.name ≠ "_") (ha : (part f.type xs f.offset).run P w = .ok a w) (hb : (part f.type ys f.offset).run P w = .ok b w) (hr : (Op.equalIn d f.type a b).run P w = .ok r w) :
    (Op.eqFields d xs ys (f :: fs)).run P w = if r then (Op.eqFields d xs ys fs).run P w else .ok false w := by
  rw [Op.eqFields, if_pos hn]
  simp only [Sem.run_bind, ha, hb, hr, Result.andThen_ok, Sem.run_ite, Sem.run_pure]
  cases r <;> simp
theorem eqF_nil {d : Nat} {xs ys : Array Value} : (Op.eqFields d xs ys []).run P w = .ok true w := by simp [Op.eqFields]
end
theorem fieldsNd : ∃ f0 f1 f2 : Field, (Try.prog.fieldsOf 31).toList = [f0, f1, f2] ∧ (f0.name ≠ "_" ∧ f0.type = 27 ∧ f0.offset = 0) ∧ (f1.name ≠ "_" ∧ f1.type = 27 ∧ f1.offset = 32) ∧ (f2.name ≠ "_" ∧ f2.type = 29 ∧ f2.offset = 64) := by
  simp only [Program.fieldsOf, Try.underlying31]
  exact ⟨_, _, _, rfl, ⟨by decide, rfl, rfl⟩, ⟨by decide, rfl, rfl⟩, by decide, rfl, rfl⟩
theorem fieldsEn : ∃ f0 f1 : Field, (Try.prog.fieldsOf 29).toList = [f0, f1] ∧ (f0.name ≠ "_" ∧ f0.type = 9 ∧ f0.offset = 0) ∧ (f1.name ≠ "_" ∧ f1.type = 9 ∧ f1.offset = 1) := by
  simp only [Program.fieldsOf, Try.underlying29]
  exact ⟨_, _, rfl, ⟨by decide, rfl, rfl⟩, by decide, rfl, rfl⟩
theorem run_equalEn (d : Nat) (a b : En) (W : World) : (Op.equalIn (d + 1 + 1) 29 (.agg #[.string a.1, .string a.2]) (.agg #[.string b.1, .string b.2])).run Try.prog W = .ok (decide (a = b)) W := by
  rw [run_equalIn_agg (P := Try.prog) W (d + 1) 29 _ _ (by kernel_rfl) (by kernel_rfl)]
  obtain ⟨f0, f1, e, ⟨n0, t0, o0⟩, n1, t1, o1⟩ := fieldsEn
  have s0 := part_one 9 #[.string a.1, .string a.2] 0 (.string a.1) W (by kernel_rfl) rfl
  have s1 := part_one 9 #[.string b.1, .string b.2] 0 (.string b.1) W (by kernel_rfl) rfl
  have s2 := part_one 9 #[.string a.1, .string a.2] 1 (.string a.2) W (by kernel_rfl) rfl
  have s3 := part_one 9 #[.string b.1, .string b.2] 1 (.string b.2) W (by kernel_rfl) rfl
  have q0 := run_equalIn_string (P := Try.prog) W d 9 a.1 b.1 (by kernel_rfl)
  have q1 := run_equalIn_string (P := Try.prog) W d 9 a.2 b.2 (by kernel_rfl)
  rw [← t0] at s0 s1 q0
  rw [← t1] at s2 s3 q1
  rw [← o0] at s0 s1
  rw [← o1] at s2 s3
  rw [e, eqF_cons W n0 s0 s1 q0, eqF_cons W n1 s2 s3 q1, eqF_nil]
  obtain ⟨a1, a2⟩ := a
  obtain ⟨b1, b2⟩ := b
  by_cases h1 : a1 = b1
  · subst h1
    by_cases h2 : a2 = b2
    · subst h2; simp
    · have h3 : (a2.toList == b2.toList) = false := by rw [beq_eq_false_iff_ne]; exact fun e => h2 (toList_inj e)
      simp [h2, h3]
  · have h3 : (a1.toList == b1.toList) = false := by rw [beq_eq_false_iff_ne]; exact fun e => h1 (toList_inj e)
    simp [h1, h3]
theorem run_equalKy (d : Nat) (a b : List Int) (ha : K32 a) (hb : K32 b) (W : World) : (Op.equalIn (d + 1 + 1) 27 (.agg (numsA .u8 a)) (.agg (numsA .u8 b))).run Try.prog W = .ok (decide (a = b)) W := by
  rw [run_equalIn_array (P := Try.prog) W (d + 1) 27 5 32 1 _ _ (by kernel_rfl) (fun w => by kernel_rfl), run_eqArr (P := Try.prog) W d 5 .u8 (by kernel_rfl) .u8 a b (by rw [ha.1, hb.1]) 32 0 (by rw [ha.1])]
  simp only [List.drop_zero]
theorem run_equalNd (d : Nat) (x y : Nd) (hx : x.ok) (hy : y.ok) (W : World) : (Op.equalIn (d + 1 + 1 + 1) 31 (.agg x.enc.toArray) (.agg y.enc.toArray)).run Try.prog W = .ok (decide (x = y)) W := by
  have q0 := run_equalKy d x.l y.l hx.1 hy.1 W
  have q1 := run_equalKy d x.r y.r hx.2.1 hy.2.1 W
  have q2 := run_equalEn d (x.n, x.v) (y.n, y.v) W
  have a0 := part_sub 27 32 x.enc.toArray 0 W (by kernel_rfl) (by kernel_rfl)
  have b0 := part_sub 27 32 y.enc.toArray 0 W (by kernel_rfl) (by kernel_rfl)
  have a1 := part_sub 27 32 x.enc.toArray 32 W (by kernel_rfl) (by kernel_rfl)
  have b1 := part_sub 27 32 y.enc.toArray 32 W (by kernel_rfl) (by kernel_rfl)
  have a2 := part_sub 29 2 x.enc.toArray 64 W (by kernel_rfl) (by kernel_rfl)
  have b2 := part_sub 29 2 y.enc.toArray 64 W (by kernel_rfl) (by kernel_rfl)
  rw [enc_ex0 hx] at a0
  rw [enc_ex0 hy] at b0
  rw [enc_ex1 hx] at a1
  rw [enc_ex1 hy] at b1
  rw [enc_ex2 hx] at a2
  rw [enc_ex2 hy] at b2
  rw [run_equalIn_agg (P := Try.prog) W (d + 1 + 1) 31 _ _ (by kernel_rfl) (by kernel_rfl)]
  obtain ⟨f0, f1, f2, e, ⟨n0, t0, o0⟩, ⟨n1, t1, o1⟩, n2, t2, o2⟩ := fieldsNd
  rw [← t0] at a0 b0 q0
  rw [← t1] at a1 b1 q1
  rw [← t2] at a2 b2 q2
  rw [← o0] at a0 b0
  rw [← o1] at a1 b1
  rw [← o2] at a2 b2
  rw [e, eqF_cons W n0 a0 b0 q0, eqF_cons W n1 a1 b1 q1, eqF_cons W n2 a2 b2 q2, eqF_nil]
  clear q0 q1 q2 a0 b0 a1 b1 a2 b2 e
  obtain ⟨xl, xr, xn, xv⟩ := x
  obtain ⟨yl, yr, yn, yv⟩ := y
  simp only [Nd.mk.injEq, Prod.mk.injEq]
  by_cases h1 : xl = yl <;> by_cases h2 : xr = yr <;> by_cases h3 : xn = yn <;> by_cases h4 : xv = yv <;> simp [h1, h2, h3, h4]
theorem run_eqNd (x y : Nd) (hx : x.ok) (hy : y.ok) (W : World) : (binOp .eql 31 (.agg x.enc.toArray) (.agg y.enc.toArray)).run Try.prog W = .ok (.bool (decide (x = y))) W := by
  rw [run_eql_struct, show (10000 : Nat) = 9997 + 1 + 1 + 1 from rfl, run_equalNd 9997 x y hx hy W]; rfl
theorem run_neqNd (x y : Nd) (hx : x.ok) (hy : y.ok) (W : World) : (binOp .neq 31 (.agg x.enc.toArray) (.agg y.enc.toArray)).run Try.prog W = .ok (.bool (!decide (x = y))) W := by
  rw [run_neq_struct, show (10000 : Nat) = 9997 + 1 + 1 + 1 from rfl, run_equalNd 9997 x y hx hy W]; rfl
end Go.Proofs.Ytmndkbheehcoaaa
/- Two nodes in variables and a code are the results; the node at a place of a path. No condition. -/
namespace Go.Proofs.Ytmndkbheehcoaaa
open Go.RowKit
set_option linter.unusedVariables false
set_option linter.unusedSimpArgs false

theorem results_b1 {P : Program} {w : World} {fn : Func} {c : Tmp} {t g e n : Nat} {cs : Array Value} (hr : fn.results = #[.cell c t]) (tmps : Array Value) (hp : tmps.getD c undef = .pointer (some ⟨g, 0, none⟩)) (ht : Agg P t n) (hn : cs.size = n) (hb : Blk w g e cs) :
    (results fn tmps).run P w = .ok (.agg cs) w := by
  have hl := run_loadB (P := P) hb ht hn
  have hp' : tmps[c]?.getD undef = .pointer (some ⟨g, 0, none⟩) := by simpa using hp
  simp [results, hr, hp', asAddr, hl]
theorem results_bbt {P : Program} {w : World} {fn : Func} {c1 c2 d : Tmp} {t g1 g2 e1 e2 n : Nat} {cs1 cs2 : Array Value} (hr : fn.results = #[.cell c1 t, .cell c2 t, .tmp d]) (tmps : Array Value) (hp1 : tmps.getD c1 undef = .pointer (some ⟨g1, 0, none⟩)) (hp2 : tmps.getD c2 undef = .pointer (some ⟨g2, 0, none⟩)) (ht : Agg P t n) (hn1 : cs1.size = n) (hn2 : cs2.size = n) (hb1 : Blk w g1 e1 cs1) (hb2 : Blk w g2 e2 cs2) {v : Value} (hv : tmps.getD d undef = v) :
    (results fn tmps).run P w = .ok (.tuple #[.agg cs1, .agg cs2, v]) w := by
  have hl1 := run_loadB (P := P) hb1 ht hn1
  have hl2 := run_loadB (P := P) hb2 ht hn2
  have hp1' : tmps[c1]?.getD undef = .pointer (some ⟨g1, 0, none⟩) := by simpa using hp1
  have hp2' : tmps[c2]?.getD undef = .pointer (some ⟨g2, 0, none⟩) := by simpa using hp2
  have hv' : tmps[d]?.getD undef = v := by simpa using hv
  simp [results, hr, hp1', hp2', hv', asAddr, hl1, hl2]
theorem built_zero : Try.prog.built 31 [] = some zeroN.enc.toArray := by kernel_rfl
theorem getD_lt {P : List Nd} {k : Nat} (h : k < P.length) : P.getD k zeroN = P[k] := by rw [List.getD_eq_getElem?_getD, List.getElem?_eq_getElem h]; rfl
theorem getD_ge {P : List Nd} {k : Nat} (h : ¬ k < P.length) : P.getD k zeroN = zeroN := by rw [List.getD_eq_getElem?_getD, List.getElem?_eq_none (by omega)]; rfl
theorem getD_ok {P : List Nd} (h : ∀ x ∈ P, tNd.ok x) (k : Nat) : (P.getD k zeroN).ok := by
  by_cases hk : k < P.length
  · rw [getD_lt hk]; exact h _ (List.getElem_mem hk)
  · rw [getD_ge hk]; exact zeroN_ok
set_option maxHeartbeats 1000000 in
set_option maxRecDepth 100000 in
theorem clashAt_any (v : Value) (P : List Nd) (k : Nat) (w : World) (S : Nat → Prop) (h : RdL tNd w S v P) :
    Calls Try.prog 89 #[v, .int .i64 k] w fun e w' => e = .returned (.agg (P.getD k zeroN).enc.toArray) ∧ Ext w w' := by
  obtain ⟨A, cap, rfl, hcap, hlen, hrd, hok⟩ := h
  have hx := getD_ok hok k
  by_cases hlt : k < P.length
  · obtain ⟨g, o, rfl, hs0, hc⟩ := hrd.elem hok k hlt
    rw [getD_lt hlt] at hx ⊢
    have hn : ∀ j u, P[k].enc[j]? = some u → w.cell? ⟨g, o + k * 66 + j, none⟩ = some u := fun j u hu => hc j u hu
    generalize P[k] = x at hx hn hc
    have hi : (0 : Int) ≤ (k : Int) := by omega
    have hi2 : (k : Int) < (P.length : Int) := by omega
    have HST := Lib.hid (Nd.st hx)
    have HXO := Lib.hid hx
    have HN := Lib.hid hn
    clear hc hx hn hrd hok
    go_enter Try.func89, Try.ntmps89
    go_wp2_with (first
      | (refine wpl_load ⟨g, o + k * 66, none⟩ x.enc (by rw [Nd.enc_length HXO.out]; exact aggNodeI) rfl _ rfl rfl (fun j u hu => by rw [Addr.add_lit]; exact (ext_alloc w _).cell (HN.out j u hu)) ?_)
      | (refine wpl_storeNewB aggNodeI HST.out rfl rfl _ _ rfl rfl rfl rfl ?_))
    refine bodyPost_ret (results_b1 rfl _ rfl aggNodeI HST.out.size (Blk.new w 31 _)) rfl ?_
    exact ⟨rfl, ext_alloc _ _⟩
  · rw [getD_ge hlt]
    have hi2 : ¬ (k : Int) < (P.length : Int) := by omega
    have HST := Lib.hid (Nd.st zeroN_ok)
    clear hx hrd hok
    go_enter Try.func89, Try.ntmps89
    go_wp2_with (first
      | (refine wpl_buildN rfl rfl built_zero ?_)
      | (refine wpl_storeNewB aggNodeI HST.out rfl rfl _ _ rfl rfl rfl rfl ?_))
    refine bodyPost_ret (results_b1 rfl _ rfl aggNodeI HST.out.size (Blk.new w 31 _)) rfl ?_
    exact ⟨rfl, ext_alloc _ _⟩
end Go.Proofs.Ytmndkbheehcoaaa
/- A path that is looked at: the program. No condition. -/
namespace Go.Proofs.Ytmndkbheehcoaaa
open Go.RowKit
set_option linter.unusedVariables false
set_option linter.unusedSimpArgs false

set_option maxHeartbeats 1000000 in
set_option maxRecDepth 100000 in
theorem nodeNext_any (x : Nd) (hok : x.ok) (s : ByteArray) (w : World) :
    Calls Try.prog 113 #[.agg x.enc.toArray, .string s] w fun e w' => e = .returned (.agg (numsA .u8 (if ltB s x.n then x.l else x.r))) ∧ Ext w w' := by
  have hl := hok.1.1
  have hr := hok.2.1.1
  have c64 : ∀ o, (((w.alloc (.cells x.enc.toArray 31)).alloc o)).cell? ⟨w.heap.size, 64, none⟩ = some (.string x.n) := fun o => ((Blk.new w _ _).alloc o).at_ 64 (Nd.at64 hok)
  have hlt := ltB_eq s x.n
  cases hb : ltB s x.n with
  | true =>
    rw [hb] at hlt
    simp only [if_true]
    clear hb
    go_enter Try.func113, Try.ntmps113
    go_wp2_with (first
      | (refine wpl_loadP (off := 0) (sub := numsA .u8 x.l) ((Blk.new w 31 x.enc.toArray).alloc _) aggKey (sizeN hl) (Nd.left hok) rfl _ rfl rfl ?_)
      | (refine wpl_storeN (Blk.new' (g := w.heap.size + 1) (w := w.alloc _) (by simp) 27 _) aggKey hl rfl rfl _ _ rfl rfl rfl rfl ?_))
    refine bodyPost_ret (results_blk rfl _ rfl aggKey hl ((Blk.new' (g := w.heap.size + 1) (w := w.alloc _) (by simp) 27 _).setRow _)) rfl ?_
    exact ⟨rfl, ((ext_alloc _ _).alloc _).setRow (by omega) _⟩
  | false =>
    rw [hb] at hlt
    simp only [Bool.false_eq_true, if_false]
    clear hb
    go_enter Try.func113, Try.ntmps113
    go_wp2_with (first
      | (refine wpl_loadP (off := 32) (sub := numsA .u8 x.r) ((Blk.new w 31 x.enc.toArray).alloc _) aggKey (sizeN hr) (Nd.right hok) rfl _ rfl rfl ?_)
      | (refine wpl_storeN (Blk.new' (g := w.heap.size + 1) (w := w.alloc _) (by simp) 27 _) aggKey hr rfl rfl _ _ rfl rfl rfl rfl ?_))
    refine bodyPost_ret (results_blk rfl _ rfl aggKey hr ((Blk.new' (g := w.heap.size + 1) (w := w.alloc _) (by simp) 27 _).setRow _)) rfl ?_
    exact ⟨rfl, ((ext_alloc _ _).alloc _).setRow (by omega) _⟩
set_option maxHeartbeats 1000000 in
set_option maxRecDepth 100000 in
theorem areFn_any (x : Nd) (hok : x.ok) (w : World) :
    Calls Try.prog 139 #[.agg x.enc.toArray] w fun e w' => e = .returned (.bool (!entB x.n x.v)) ∧ Ext w w' := by
  have hv := fun W => validEntry_any x.n x.v hok.2.2.1 hok.2.2.2 W
  go_enter Try.func139, Try.ntmps139
  go_wp2_with (refine wpl_loadP (off := 64) (sub := #[.string x.n, .string x.v]) (Blk.new w 31 x.enc.toArray) aggEntryI rfl (Nd.ent hok) rfl _ rfl rfl ?_)
  refine (hv _).mono ?_
  rintro e w1 ⟨rfl, hx⟩
  have XW := Lib.hid ((ext_alloc w _).trans hx)
  clear hx hv
  go_wp2
  go_ret
  exact ⟨rfl, XW.out⟩
set_option maxHeartbeats 1000000 in
set_option maxRecDepth 100000 in
theorem areIdx_any (v : Value) (L : List Nd) (w : World) (S : Nat → Prop) (h : RdL tNd w S v L) :
    Calls Try.prog 164 #[v, .func (.func 139) #[] #[]] w fun q w' => (∃ r : Int, q = .returned (.int .i64 r) ∧ decide (0 ≤ r) = !okNs L) ∧ Ext w w' := by
  obtain ⟨A, cap, rfl, hcap, hlen, hrd, hok⟩ := h
  have Hrd := Lib.hid hrd
  have Hok := Lib.hid hok
  clear hrd hok
  go_enter Try.func164, Try.ntmps164
  go_wp2
  go_loopw [8] (fun i wr => ∃ k : Nat, k ≤ L.length ∧ i = .int .i64 k ∧ (∀ p (hp : p < L.length), p < k → entB L[p].n L[p].v = true) ∧ Ext w wr) (fun i _ => L.length - (intOf i).toNat)
  case atStart => exact ⟨0, by omega, rfl, fun j hj h => by omega, Ext.refl _⟩
  case round =>
    obtain ⟨k, hk, rfl, hm, hx⟩ := hrel
    have HX := Lib.hid hx
    have HM := Lib.hid hm
    clear hx hm
    by_cases hlt : k < L.length
    · obtain ⟨g, o, rfl, hs0, hc⟩ := Hrd.out.elem Hok.out k hlt
      have HD0 := Lib.hid (show ∀ j u, L[k].enc[j]? = some u → wr.cell? ⟨g, o + k * 66 + j, none⟩ = some u from fun j u hu => HX.out.cell (hc j u hu))
      have HXO := Lib.hid (show L[k].ok from Hok.out _ (List.getElem_mem hlt))
      have hf := fun W => areFn_any L[k] HXO.out W
      have hk0 : (0 : Int) ≤ (k : Int) := by omega
      have hk2 : (k : Int) < (L.length : Int) := by omega
      clear hc
      cases hq : entB L[k].n L[k].v with
      | true =>
        simp only [hq] at hf
        go_wp2_with (refine wpl_load ⟨g, o + k * 66, none⟩ L[k].enc (by rw [Nd.enc_length HXO.out]; exact aggNodeI) rfl _ rfl rfl (fun j u hu => by rw [Addr.add_lit]; exact HD0.out j u hu) ?_)
        refine (hf _).mono ?_
        rintro e w1 ⟨rfl, hx⟩
        have HX1 := Lib.hid (HX.out.trans hx)
        clear hx hf
        go_wp2
        go_roundw
        case rel => exact ⟨k + 1, by omega, by go_num, fun p hp h => by
          by_cases e : p = k
          · subst e; exact hq
          · exact HM.out p hp (by omega), HX1.out⟩
        case measure => simp [intOf]; omega
      | false =>
        simp only [hq] at hf
        have HQ := Lib.hid (okNs_bad hlt hq)
        go_wp2_with (refine wpl_load ⟨g, o + k * 66, none⟩ L[k].enc (by rw [Nd.enc_length HXO.out]; exact aggNodeI) rfl _ rfl rfl (fun j u hu => by rw [Addr.add_lit]; exact HD0.out j u hu) ?_)
        refine (hf _).mono ?_
        rintro e w1 ⟨rfl, hx⟩
        have HX1 := Lib.hid (HX.out.trans hx)
        clear hx hf
        go_wp2
        go_ret
        exact ⟨⟨k, rfl, by rw [HQ.out]; simp⟩, HX1.out⟩
    · obtain rfl : k = L.length := by omega
      have HQ := Lib.hid (okNs_good fun p hp => HM.out p hp hp)
      go_wp2
      go_ret
      exact ⟨⟨-1, rfl, by rw [HQ.out]; rfl⟩, HX.out⟩
set_option maxHeartbeats 1000000 in
set_option maxRecDepth 100000 in
theorem areNodes_any (v : Value) (L : List Nd) (w : World) (S : Nat → Prop) (h : RdL tNd w S v L) :
    Calls Try.prog 86 #[v] w fun q w' => q = .returned (.bool (okNs L)) ∧ Ext w w' := by
  have hi := areIdx_any v L w S h
  have hc : Calls Try.prog 138 #[v, .func (.func 139) #[] #[]] w fun q w' => q = .returned (.bool (!okNs L)) ∧ Ext w w' := by
    obtain ⟨A, cap, rfl, _⟩ := h
    go_enter Try.func138, Try.ntmps138
    go_wp2_with fail
    refine hi.mono ?_
    rintro e w1 ⟨⟨r, rfl, hr⟩, hx⟩
    have HX := Lib.hid hx
    have HR := Lib.hid hr
    clear hx hr hi
    go_wp2
    go_ret
    exact ⟨by rw [← HR.out]; rfl, HX.out⟩
  obtain ⟨A, cap, rfl, _⟩ := h
  go_enter Try.func86, Try.ntmps86
  go_wp2_with fail
  refine hc.mono ?_
  rintro e w1 ⟨rfl, hx⟩
  have HX := Lib.hid hx
  clear hx hc hi
  go_wp2
  go_ret
  exact ⟨by simp, HX.out⟩
/-- the loop's answer -/
def ckR (R : Bool × ByteArray × Bool) : Bool × ByteArray × Int := if R.2.2 then (R.1, R.2.1, 0) else (false, ⟨#[]⟩, 8)
set_option maxHeartbeats 1000000 in
set_option maxRecDepth 100000 in
theorem implCheckName_any (root : List Int) (hroot : K32 root) (s : ByteArray) (hs : s.size ≤ 140737488351232) (v : Value) (L : List Nd) (w : World) (S : Nat → Prop) (h : RdL tNd w S v L) :
    Calls Try.prog 52 #[.agg (numsA .u8 root), .string s, v] w fun e w' => e = .returned (.tuple #[.bool (chkR root s L).1, .string (chkR root s L).2.1, .int .i64 (chkR root s L).2.2]) ∧ Ext w w' := by
  have H := Lib.hid h
  have hr1 := hroot.1
  have hn := isName_any s hs
  have hg := fun W hW => areNodes_any v L W S hW
  obtain ⟨A, cap, rfl, hcap, hlen, hrd, hok⟩ := h
  have Hrd := Lib.hid hrd
  have Hok := Lib.hid hok
  clear hrd hok
  cases h1 : nameB s with
  | false =>
    simp only [chkR, h1, Bool.false_and, Bool.false_eq_true, if_false]
    simp only [h1] at hn
    clear h1 hg
    go_enter Try.func52, Try.ntmps52
    go_wp2_with fail
    refine (hn _).mono ?_
    rintro e w' ⟨rfl, rfl⟩
    go_wp2
    go_ret3
    exact ⟨rfl, ext_alloc _ _⟩
  | true =>
    simp only [h1] at hn
    cases h2 : okNs L with
    | false =>
      simp only [chkR, h1, h2, Bool.and_false, Bool.false_eq_true, if_false]
      simp only [h2] at hg
      clear h1 h2
      go_enter Try.func52, Try.ntmps52
      go_wp2_with fail
      refine (hn _).mono ?_
      rintro e w' ⟨rfl, rfl⟩
      go_wp2_with fail
      refine (hg _ (H.out.ext (by decide) (ext_alloc _ _))).mono ?_
      rintro e w1 ⟨rfl, hx⟩
      have XW := Lib.hid ((ext_alloc w _).trans hx)
      clear hx
      go_wp2
      go_ret3
      exact ⟨rfl, XW.out⟩
    | true =>
      have HEN := Lib.hid (fun k (hk : k < L.length) => okNs_at h2 hk)
      by_cases h3 : 64 < L.length
      · simp only [chkR, h1, h2, Bool.and_true, if_true, if_pos h3]
        simp only [h2] at hg
        have h3' : (64 : Int) < (L.length : Int) := by omega
        clear h1 h2 h3
        go_enter Try.func52, Try.ntmps52
        go_wp2_with fail
        refine (hn _).mono ?_
        rintro e w' ⟨rfl, rfl⟩
        go_wp2_with fail
        refine (hg _ (H.out.ext (by decide) (ext_alloc _ _))).mono ?_
        rintro e w1 ⟨rfl, hx⟩
        have XW := Lib.hid ((ext_alloc w _).trans hx)
        clear hx
        go_wp2
        go_ret3
        exact ⟨rfl, XW.out⟩
      · have e0 : chkR root s L = ckR (ckF s root L) := by simp only [chkR, h1, h2, Bool.and_true, if_true, if_neg h3]; rfl
        rw [e0]
        simp only [h2] at hg
        have h3' : ¬ (64 : Int) < (L.length : Int) := by omega
        obtain ⟨R, hR⟩ : ∃ R, ckF s root L = R := ⟨_, rfl⟩
        rw [hR]
        have HR := Lib.hid hR
        obtain ⟨Q1, Q2, Q3, hQ⟩ : ∃ Q1 Q2 Q3, ckR R = (Q1, Q2, Q3) := ⟨_, _, _, rfl⟩
        simp only [hQ]
        have HQ := Lib.hid hQ
        clear h1 h2 h3 e0 hR hQ
        go_enter Try.func52, Try.ntmps52
        go_wp2_with fail
        refine (hn _).mono ?_
        rintro e w' ⟨rfl, rfl⟩
        go_wp2_with fail
        refine (hg _ (H.out.ext (by decide) (ext_alloc _ _))).mono ?_
        rintro e w1 ⟨rfl, hx⟩
        have XW := Lib.hid ((ext_alloc w _).trans hx)
        have BR := Lib.hid ((Blk.new w 27 (numsA .u8 root)).ext hx)
        clear hx hg hn
        go_wp2_with fail
        go_loopw [26] (fun i wr => ∃ (k : Nat) (due : List Int), k ≤ L.length ∧ i = .int .i64 k ∧ K32 due ∧ ckF s due (L.drop k) = R ∧ Blk wr w.heap.size 27 (numsA .u8 due) ∧ Ext w wr) (fun i _ => L.length - (intOf i).toNat)
        case atStart => exact ⟨0, root, by omega, rfl, hroot, by rw [List.drop_zero]; exact HR.out, BR.out, XW.out⟩
        case round =>
          obtain ⟨k, due, hk, rfl, hK, hF, hB, hx⟩ := hrel
          have HX := Lib.hid hx
          have HK := Lib.hid hK
          have HF := Lib.hid hF
          have HB := Lib.hid hB
          clear hx hK hF hB HR hroot BR XW
          by_cases hlt : k < L.length
          · obtain ⟨g, o, rfl, hs0, hc⟩ := Hrd.out.elem Hok.out k hlt
            have HD := Lib.hid (List.drop_eq_getElem_cons hlt)
            have hxo : L[k].ok := Hok.out _ (List.getElem_mem hlt)
            have hxe := HEN.out k hlt
            have hn : ∀ j u, L[k].enc[j]? = some u → wr.cell? ⟨g, o + k * 66 + j, none⟩ = some u := fun j u hu => HX.out.cell (hc j u hu)
            generalize L[k] = x at HD hxo hxe hn hc
            rw [HD.out, ckF_cons] at HF
            have HXO := Lib.hid hxo
            have HXE := Lib.hid hxe
            have HN := Lib.hid hn
            have hsz := (Nd.st hxo).size
            have HST := Lib.hid (Nd.st hxo)
            have HKN := Lib.hid (hashL_ok 5 (nodeL x))
            have HNK := Lib.hid (show K32 (if ltB s x.n then x.l else x.r) by split; exact hxo.1; exact hxo.2.1)
            have B10 := Lib.hid (Blk.new wr 31 x.enc.toArray)
            have HBa := Lib.hid (HB.out.alloc (.cells x.enc.toArray 31))
            have hi : (0 : Int) ≤ (k : Int) := by omega
            have hi2 : (k : Int) < (L.length : Int) := by omega
            clear hc hxo hxe hn
            by_cases hkey : hashL 5 (nodeL x) = due
            · have hneq : ∀ W, (binOp .neq 27 (.agg (numsA .u8 (hashL 5 (nodeL x)))) (.agg (numsA .u8 due))).run Try.prog W = .ok (.bool false) W := fun W => by
                have := run_neqKey _ due HKN.out HK.out W
                rw [decide_eq_true hkey] at this
                exact this
              have HKEY := Lib.hid hkey
              clear hkey
              go_wp2_with (first
                | (refine wpl_load ⟨g, o + k * 66, none⟩ x.enc (by rw [Nd.enc_length HXO.out]; exact aggNodeI) rfl _ rfl rfl (fun j u hu => by rw [Addr.add_lit]; exact HN.out j u hu) ?_)
                | (refine wpl_storeNewB aggNodeI HST.out rfl rfl _ _ rfl rfl rfl rfl ?_))
              refine wp_region_held_drew (S := fun W => Ext (wr.alloc (.cells x.enc.toArray 31)) W) (by kernel_rfl) (Ext.refl _).drew (fun hHeld => ?_)
              refine wpAnyH_take (i := 0) (oi := ?oiz21) (v := (.agg x.enc.toArray)) ?hiz21 (by kernel_rfl) (by kernel_rfl) (by kernel_rfl) ?hQz21 ?hyz21 (by assumption) ?restz21
              case hiz21 => simp only [List.getElem?_toArray, List.getElem?_cons_zero, List.getElem?_cons_succ]; rfl
              case hQz21 => exact fun _ _ _ h => h
              case hyz21 => refine yields_loadB B10.out aggNodeI hsz ?_ _ rfl rfl; rfl
              try simp only [Act.put, List.setIfInBounds_toArray, List.set_cons_zero, List.set_cons_succ]
              refine wpAnyH_take (i := 2) (oi := ?oiz22) (v := (.agg (numsA .u8 due))) ?hiz22 (by kernel_rfl) (by kernel_rfl) (by kernel_rfl) ?hQz22 ?hyz22 (by assumption) ?restz22
              case hiz22 => simp only [List.getElem?_toArray, List.getElem?_cons_zero, List.getElem?_cons_succ]; rfl
              case hQz22 => exact fun _ _ _ h => h
              case hyz22 => refine yields_loadB HBa.out aggKey (sizeN HK.out.1) ?_ _ rfl rfl; rfl
              try simp only [Act.put, List.setIfInBounds_toArray, List.set_cons_zero, List.set_cons_succ]
              refine wpAnyH_ready (rs := [1]) (by kernel_rfl) (by simp) (AllReadyH.cons (o := ?oy231) ?hy231 (fun K hK => ?sy231) AllReadyH.nil)
              case hy231 => simp only [List.getElem?_toArray, List.getElem?_cons_zero, List.getElem?_cons_succ]; rfl
              go_simp
              refine (nodeKey_any x HXO.out HXE.out _).mono ?_
              rintro e w1 ⟨rfl, hx⟩
              have hH2 := hHeld.trans hx
              refine hK.out _ _ hH2 (fun _ => ?_)
              clear hHeld hK K
              have hHeld := hH2
              clear hH2
              try simp only [Act.put, List.setIfInBounds_toArray, List.set_cons_zero, List.set_cons_succ]
              refine wpAnyH_take (i := 3) (oi := ?oiz24) (v := ?vz24) ?hiz24 (by kernel_rfl) (by kernel_rfl) (by kernel_rfl) ?hQz24 ?hyz24 (by assumption) ?restz24
              case hiz24 => simp only [List.getElem?_toArray, List.getElem?_cons_zero, List.getElem?_cons_succ]; rfl
              case hQz24 => exact fun _ _ _ h => h
              case hyz24 => exact Or.inl ⟨by rfl, by intro w hSw; (try dsimp only at hSw); go_simp; with_reducible rfl⟩
              try simp only [Act.put, List.setIfInBounds_toArray, List.set_cons_zero, List.set_cons_succ]
              refine wpAnyH_done (by kernel_rfl) ?_ _
              have HX1 := Lib.hid ((HX.out.alloc (.cells x.enc.toArray 31)).trans hHeld)
              have HB1 := Lib.hid (HBa.out.ext hHeld)
              have B11 := Lib.hid (B10.out.ext hHeld)
              have c64 := B11.out.at_ 64 (Nd.at64 HXO.out)
              have c65 := B11.out.at_ 65 (Nd.at65 HXO.out)
              clear hHeld HB HBa B10
              by_cases hname : x.n = s
              · have hn2 : (x.n.toList == s.toList) = true := by rw [hname, beq_self_eq_true]
                have hrv : ckR ((L.drop (k + 1)).isEmpty, x.v, (L.drop (k + 1)).isEmpty) = (Q1, Q2, Q3) := by rw [← HQ.out, ← HF.out, ckS_hit _ _ HKEY.out hname]
                have m1 : IntKind.i64.wrap ((L.length : Int) - 1) = (L.length : Int) - 1 := by rw [IntKind.wrap_i64]; omega
                clear hname
                by_cases e : k + 1 = L.length
                · have m2 : ¬ (k : Int) < (L.length : Int) - 1 := by omega
                  rw [List.isEmpty_iff.2 (List.drop_eq_nil_of_le (by omega : L.length ≤ k + 1))] at hrv
                  have HRV := Lib.hid hrv
                  clear hrv e
                  go_wp2
                  go_quiet (fail)
                  go_wp2
                  go_ret3
                  exact ⟨by have := HRV.out; simp only [ckR, if_true, Prod.mk.injEq] at this; obtain ⟨rfl, rfl, rfl⟩ := this; rfl, HX1.out.drewN _⟩
                · have m2 : (k : Int) < (L.length : Int) - 1 := by omega
                  rw [show (L.drop (k + 1)).isEmpty = false by
                    rw [List.isEmpty_eq_false_iff]
                    intro e2
                    have := congrArg List.length e2
                    rw [List.length_drop, List.length_nil] at this
                    omega] at hrv
                  have HRV := Lib.hid hrv
                  clear hrv e
                  go_wp2
                  go_ret3
                  exact ⟨by have := HRV.out; simp only [ckR, Bool.false_eq_true, if_false, Prod.mk.injEq] at this; obtain ⟨rfl, rfl, rfl⟩ := this; rfl, HX1.out⟩
              · have hn2 : (x.n.toList == s.toList) = false := by rw [beq_eq_false_iff_ne]; exact fun e => hname (toList_inj e)
                have HRN := Lib.hid (show ckF s (if ltB s x.n then x.l else x.r) (L.drop (k + 1)) = R by rw [← HF.out, ckS_on _ _ HKEY.out hname])
                clear hname
                go_wp2_with (refine wpl_loadB B11.out aggNodeI hsz rfl _ rfl rfl ?_)
                refine (nodeNext_any x HXO.out s _).mono ?_
                rintro e w2 ⟨rfl, hx⟩
                have HX2 := Lib.hid (HX1.out.trans hx)
                have HB2 := Lib.hid (HB1.out.ext hx)
                clear hx
                generalize (if ltB s x.n then x.l else x.r) = nxt at HNK HRN ⊢
                go_wp2_with (refine wpl_storeN HB2.out aggKey HNK.out.1 (sizeN HK.out.1) rfl _ _ rfl rfl rfl rfl ?_)
                go_roundw
                case rel => exact ⟨k + 1, nxt, by omega, by go_num, HNK.out, HRN.out, HB2.out.setRow _, HX2.out.setRow (Nat.le_refl _) _⟩
                case measure => simp [intOf]; omega
            · have hneq : ∀ W, (binOp .neq 27 (.agg (numsA .u8 (hashL 5 (nodeL x)))) (.agg (numsA .u8 due))).run Try.prog W = .ok (.bool true) W := fun W => by
                have := run_neqKey _ due HKN.out HK.out W
                rw [decide_eq_false hkey] at this
                exact this
              have HRV := Lib.hid (show ckR (false, (⟨#[]⟩ : ByteArray), false) = (Q1, Q2, Q3) by rw [← HQ.out, ← HF.out, ckS_bad _ _ hkey])
              clear hkey
              go_wp2_with (first
                | (refine wpl_load ⟨g, o + k * 66, none⟩ x.enc (by rw [Nd.enc_length HXO.out]; exact aggNodeI) rfl _ rfl rfl (fun j u hu => by rw [Addr.add_lit]; exact HN.out j u hu) ?_)
                | (refine wpl_storeNewB aggNodeI HST.out rfl rfl _ _ rfl rfl rfl rfl ?_))
              refine wp_region_held_drew (S := fun W => Ext (wr.alloc (.cells x.enc.toArray 31)) W) (by kernel_rfl) (Ext.refl _).drew (fun hHeld => ?_)
              refine wpAnyH_take (i := 0) (oi := ?oiz25) (v := (.agg x.enc.toArray)) ?hiz25 (by kernel_rfl) (by kernel_rfl) (by kernel_rfl) ?hQz25 ?hyz25 (by assumption) ?restz25
              case hiz25 => simp only [List.getElem?_toArray, List.getElem?_cons_zero, List.getElem?_cons_succ]; rfl
              case hQz25 => exact fun _ _ _ h => h
              case hyz25 => refine yields_loadB B10.out aggNodeI hsz ?_ _ rfl rfl; rfl
              try simp only [Act.put, List.setIfInBounds_toArray, List.set_cons_zero, List.set_cons_succ]
              refine wpAnyH_take (i := 2) (oi := ?oiz26) (v := (.agg (numsA .u8 due))) ?hiz26 (by kernel_rfl) (by kernel_rfl) (by kernel_rfl) ?hQz26 ?hyz26 (by assumption) ?restz26
              case hiz26 => simp only [List.getElem?_toArray, List.getElem?_cons_zero, List.getElem?_cons_succ]; rfl
              case hQz26 => exact fun _ _ _ h => h
              case hyz26 => refine yields_loadB HBa.out aggKey (sizeN HK.out.1) ?_ _ rfl rfl; rfl
              try simp only [Act.put, List.setIfInBounds_toArray, List.set_cons_zero, List.set_cons_succ]
              refine wpAnyH_ready (rs := [1]) (by kernel_rfl) (by simp) (AllReadyH.cons (o := ?oy271) ?hy271 (fun K hK => ?sy271) AllReadyH.nil)
              case hy271 => simp only [List.getElem?_toArray, List.getElem?_cons_zero, List.getElem?_cons_succ]; rfl
              go_simp
              refine (nodeKey_any x HXO.out HXE.out _).mono ?_
              rintro e w1 ⟨rfl, hx⟩
              have hH2 := hHeld.trans hx
              refine hK.out _ _ hH2 (fun _ => ?_)
              clear hHeld hK K
              have hHeld := hH2
              clear hH2
              try simp only [Act.put, List.setIfInBounds_toArray, List.set_cons_zero, List.set_cons_succ]
              refine wpAnyH_take (i := 3) (oi := ?oiz28) (v := ?vz28) ?hiz28 (by kernel_rfl) (by kernel_rfl) (by kernel_rfl) ?hQz28 ?hyz28 (by assumption) ?restz28
              case hiz28 => simp only [List.getElem?_toArray, List.getElem?_cons_zero, List.getElem?_cons_succ]; rfl
              case hQz28 => exact fun _ _ _ h => h
              case hyz28 => exact Or.inl ⟨by rfl, by intro w hSw; (try dsimp only at hSw); go_simp; with_reducible rfl⟩
              try simp only [Act.put, List.setIfInBounds_toArray, List.set_cons_zero, List.set_cons_succ]
              refine wpAnyH_done (by kernel_rfl) ?_ _
              have HX1 := Lib.hid ((HX.out.alloc (.cells x.enc.toArray 31)).trans hHeld)
              have HB1 := Lib.hid (HBa.out.ext hHeld)
              have B11 := Lib.hid (B10.out.ext hHeld)
              have c64 := B11.out.at_ 64 (Nd.at64 HXO.out)
              have c65 := B11.out.at_ 65 (Nd.at65 HXO.out)
              clear hHeld HB HBa B10
              go_wp2
              go_ret3
              exact ⟨by have := HRV.out; simp only [ckR, Bool.false_eq_true, if_false, Prod.mk.injEq] at this; obtain ⟨rfl, rfl, rfl⟩ := this; rfl, HX1.out⟩
          · obtain rfl : k = L.length := by omega
            rw [List.drop_eq_nil_of_le (Nat.le_refl _), ckF_nil] at HF
            by_cases hd : due = emptyL
            · have heql : ∀ W, (binOp .neq 27 (.agg (numsA .u8 due)) (.agg (numsA .u8 emptyL))).run Try.prog W = .ok (.bool false) W := fun W => by
                have := run_neqKey due emptyL HK.out emptyL_ok W
                rw [decide_eq_true hd] at this
                exact this
              have HRV := Lib.hid (show ckR (false, (⟨#[]⟩ : ByteArray), true) = (Q1, Q2, Q3) by rw [← HQ.out, ← HF.out, decide_eq_true hd])
              clear hd
              go_wp2_with fail
              refine wp_region_held_drew (S := fun W => Ext wr W) (by kernel_rfl) (Ext.refl _).drew (fun hHeld => ?_)
              refine wpAnyH_take (i := 0) (oi := ?oiz29) (v := (.agg (numsA .u8 due))) ?hiz29 (by kernel_rfl) (by kernel_rfl) (by kernel_rfl) ?hQz29 ?hyz29 (by assumption) ?restz29
              case hiz29 => simp only [List.getElem?_toArray, List.getElem?_cons_zero, List.getElem?_cons_succ]; rfl
              case hQz29 => exact fun _ _ _ h => h
              case hyz29 => refine yields_loadB HB.out aggKey (sizeN HK.out.1) ?_ _ rfl rfl; rfl
              try simp only [Act.put, List.setIfInBounds_toArray, List.set_cons_zero, List.set_cons_succ]
              refine wpAnyH_ready (rs := [1]) (by kernel_rfl) (by simp) (AllReadyH.cons (o := ?oy301) ?hy301 (fun K hK => ?sy301) AllReadyH.nil)
              case hy301 => simp only [List.getElem?_toArray, List.getElem?_cons_zero, List.getElem?_cons_succ]; rfl
              go_simp
              refine (implEmptyMapKey_any _).mono ?_
              rintro e w1 ⟨rfl, hx⟩
              have hH2 := hHeld.trans hx
              refine hK.out _ _ hH2 (fun _ => ?_)
              clear hHeld hK K
              have hHeld := hH2
              clear hH2
              try simp only [Act.put, List.setIfInBounds_toArray, List.set_cons_zero, List.set_cons_succ]
              refine wpAnyH_take (i := 2) (oi := ?oiz31) (v := ?vz31) ?hiz31 (by kernel_rfl) (by kernel_rfl) (by kernel_rfl) ?hQz31 ?hyz31 (by assumption) ?restz31
              case hiz31 => simp only [List.getElem?_toArray, List.getElem?_cons_zero, List.getElem?_cons_succ]; rfl
              case hQz31 => exact fun _ _ _ h => h
              case hyz31 => exact Or.inl ⟨by rfl, by intro w hSw; (try dsimp only at hSw); go_simp; with_reducible rfl⟩
              try simp only [Act.put, List.setIfInBounds_toArray, List.set_cons_zero, List.set_cons_succ]
              refine wpAnyH_done (by kernel_rfl) ?_ _
              have HX1 := Lib.hid (HX.out.trans hHeld)
              clear hHeld
              go_wp2
              go_ret3
              exact ⟨by have := HRV.out; simp only [ckR, if_true, Prod.mk.injEq] at this; obtain ⟨rfl, rfl, rfl⟩ := this; rfl, HX1.out⟩
            · have heql : ∀ W, (binOp .neq 27 (.agg (numsA .u8 due)) (.agg (numsA .u8 emptyL))).run Try.prog W = .ok (.bool true) W := fun W => by
                have := run_neqKey due emptyL HK.out emptyL_ok W
                rw [decide_eq_false hd] at this
                exact this
              have HRV := Lib.hid (show ckR (false, (⟨#[]⟩ : ByteArray), false) = (Q1, Q2, Q3) by rw [← HQ.out, ← HF.out, decide_eq_false hd])
              clear hd
              go_wp2_with fail
              refine wp_region_held_drew (S := fun W => Ext wr W) (by kernel_rfl) (Ext.refl _).drew (fun hHeld => ?_)
              refine wpAnyH_take (i := 0) (oi := ?oiz32) (v := (.agg (numsA .u8 due))) ?hiz32 (by kernel_rfl) (by kernel_rfl) (by kernel_rfl) ?hQz32 ?hyz32 (by assumption) ?restz32
              case hiz32 => simp only [List.getElem?_toArray, List.getElem?_cons_zero, List.getElem?_cons_succ]; rfl
              case hQz32 => exact fun _ _ _ h => h
              case hyz32 => refine yields_loadB HB.out aggKey (sizeN HK.out.1) ?_ _ rfl rfl; rfl
              try simp only [Act.put, List.setIfInBounds_toArray, List.set_cons_zero, List.set_cons_succ]
              refine wpAnyH_ready (rs := [1]) (by kernel_rfl) (by simp) (AllReadyH.cons (o := ?oy331) ?hy331 (fun K hK => ?sy331) AllReadyH.nil)
              case hy331 => simp only [List.getElem?_toArray, List.getElem?_cons_zero, List.getElem?_cons_succ]; rfl
              go_simp
              refine (implEmptyMapKey_any _).mono ?_
              rintro e w1 ⟨rfl, hx⟩
              have hH2 := hHeld.trans hx
              refine hK.out _ _ hH2 (fun _ => ?_)
              clear hHeld hK K
              have hHeld := hH2
              clear hH2
              try simp only [Act.put, List.setIfInBounds_toArray, List.set_cons_zero, List.set_cons_succ]
              refine wpAnyH_take (i := 2) (oi := ?oiz34) (v := ?vz34) ?hiz34 (by kernel_rfl) (by kernel_rfl) (by kernel_rfl) ?hQz34 ?hyz34 (by assumption) ?restz34
              case hiz34 => simp only [List.getElem?_toArray, List.getElem?_cons_zero, List.getElem?_cons_succ]; rfl
              case hQz34 => exact fun _ _ _ h => h
              case hyz34 => exact Or.inl ⟨by rfl, by intro w hSw; (try dsimp only at hSw); go_simp; with_reducible rfl⟩
              try simp only [Act.put, List.setIfInBounds_toArray, List.set_cons_zero, List.set_cons_succ]
              refine wpAnyH_done (by kernel_rfl) ?_ _
              have HX1 := Lib.hid (HX.out.trans hHeld)
              clear hHeld
              go_wp2
              go_ret3
              exact ⟨by have := HRV.out; simp only [ckR, Bool.false_eq_true, if_false, Prod.mk.injEq] at this; obtain ⟨rfl, rfl, rfl⟩ := this; rfl, HX1.out⟩
end Go.Proofs.Ytmndkbheehcoaaa
/- Two unlike nodes with one key that a path shows: the program. No condition. -/
namespace Go.Proofs.Ytmndkbheehcoaaa
open Go.RowKit
set_option linter.unusedVariables false
set_option linter.unusedSimpArgs false

theorem getR_ok {L : List En} {s : ByteArray} (h1 : okE L = true) (h2 : nameB s = true) : (getR L s).1 = valE L s ∧ (getR L s).2 = if hasE L s then 0 else 6 := by
  rw [getR, valE, h1, h2]
  cases hasE L s <;> simp
theorem provR_ok {L : List En} {s : ByteArray} (h1 : okE L = true) (h2 : nameB s = true) : provR L s = ((trF L.length L).way s, 0) := by
  rw [provR, h1, h2]; rfl
theorem clR_bad {L : List En} {s : ByteArray} {P : List Nd} (h : (okE L && nameB s && okNs P) = false) : clR L s P = (zeroN, zeroN, 1) := by
  rw [clR, h]; rfl
theorem clR_off {L : List En} {s : ByteArray} {P : List Nd} (h : (okE L && nameB s && okNs P) = true) (h2 : (chkR (trF L.length L).key s P).2.2 ≠ 0) : clR L s P = (zeroN, zeroN, 4) := by
  rw [clR, h, if_pos rfl, if_neg h2]
theorem clR_none {L : List En} {s : ByteArray} {P : List Nd} (h : (okE L && nameB s && okNs P) = true) (h2 : (chkR (trF L.length L).key s P).2.2 = 0) (h3 : (chkR (trF L.length L).key s P).1 = hasE L s) (h4 : (chkR (trF L.length L).key s P).2.1 = valE L s) : clR L s P = (zeroN, zeroN, 6) := by
  rw [clR, h, if_pos rfl, if_pos h2, if_pos ⟨h3, h4⟩]
theorem clR_hit {L : List En} {s : ByteArray} {P : List Nd} (h : (okE L && nameB s && okNs P) = true) (h2 : (chkR (trF L.length L).key s P).2.2 = 0) (h3 : ¬ ((chkR (trF L.length L).key s P).1 = hasE L s ∧ (chkR (trF L.length L).key s P).2.1 = valE L s)) : clR L s P = (((trF L.length L).way s).getD (partN ((trF L.length L).way s) P) zeroN, P.getD (partN ((trF L.length L).way s) P) zeroN, 0) := by
  rw [clR, h, if_pos rfl, if_pos h2, if_neg h3]
theorem chk_ne {L : List En} {s : ByteArray} {P : List Nd} (h : okE L = true) (hs : nameB s = true) (hP : okNs P = true) (h2 : (chkR (trF L.length L).key s P).2.2 = 0) (h3 : ¬ ((chkR (trF L.length L).key s P).1 = hasE L s ∧ (chkR (trF L.length L).key s P).2.1 = valE L s)) : (trF L.length L).way s ≠ P := by
  intro e
  have hc := own_ck h s
  rw [e] at hc
  rw [chkR, hs, hP] at h2 h3
  simp only [Bool.and_true, if_true] at h2 h3
  split at h2
  · exact absurd h2 (by decide)
  · rename_i h64
    rw [if_neg h64, hc] at h3
    exact h3 ⟨rfl, rfl⟩
set_option maxHeartbeats 8000000 in
set_option maxRecDepth 100000 in
theorem implClash_any (v u : Value) (L : List En) (s : ByteArray) (hs : s.size ≤ 140737488351232) (P : List Nd) (w : World) (S S' : Nat → Prop) (h : RdL tEnt w S v L) (h' : RdL tNd w S' u P) :
    Calls Try.prog 17 #[v, .string s, u] w fun e w' => e = .returned (.tuple #[.agg (clR L s P).1.enc.toArray, .agg (clR L s P).2.1.enc.toArray, .int .i64 (clR L s P).2.2]) ∧ Ext w w' := by
  have H := Lib.hid h
  have H' := Lib.hid h'
  have hokL := h.choose_spec.choose_spec.2.2.2.2
  have hokP := Lib.hid h'.choose_spec.choose_spec.2.2.2.2
  have hc := fun W hW => validEntries_any v L W S hW
  have hn := isName_any s hs
  have ha := fun W hW => areNodes_any u P W S' hW
  have HZ := Lib.hid (Nd.st zeroN_ok)
  have hne : w.heap.size ≠ w.heap.size + 1 := by omega
  have hne' : w.heap.size + 1 ≠ w.heap.size := by omega
  have ht := fun (hb : okE L = true) W hW => treeOf_any v L (okE_incs hb).2 (good_of hb hokL) W S hW
  have hg := fun W hW => implGetEntry_any v L s hs W S hW
  have hp := fun W hW => implProveName_any v L s hs W S hW
  have hk := fun root hroot W hW => implCheckName_any root hroot s hs u P W S' hW
  obtain ⟨A, cap, rfl, hcap, hlen, _⟩ := h
  obtain ⟨A', cap', rfl, hcap', hlen', _⟩ := h'
  cases hb : okE L with
  | false =>
    have e0 : clR L s P = (zeroN, zeroN, 1) := clR_bad (by rw [hb]; rfl)
    simp only [e0]
    simp only [hb] at hc
    clear hb ht e0 hokL hg hp hk ha
    go_enter Try.func17, Try.ntmps17
    go_wp2_with fail
    refine (hc _ (H.out.ext (by decide) ((ext_alloc _ _).alloc _))).mono ?_
    rintro e w1 ⟨rfl, hx⟩
    have B6 := Lib.hid (((Blk.new w 31 _).alloc _).ext hx)
    have B7 := Lib.hid ((Blk.new' (g := w.heap.size + 1) (by simp) 31 _).ext hx)
    have XW := Lib.hid (((ext_alloc w _).alloc _).trans hx)
    clear hx
    go_wp2_with (first
      | (refine wpl_buildN rfl rfl built_zero ?_)
      | (refine wpl_storeB B6.out aggNodeI HZ.out rfl rfl _ _ rfl rfl rfl rfl ?_)
      | (refine wpl_storeB (B7.out.row_far hne' _) aggNodeI HZ.out rfl rfl _ _ rfl rfl rfl rfl ?_))
    refine bodyPost_ret (results_bbt rfl _ rfl rfl aggNodeI HZ.out.size HZ.out.size ((B6.out.setRow _).row_far hne _) ((B7.out.row_far hne' _).setRow _) rfl) rfl ?_
    exact ⟨rfl, (XW.out.setRow (Nat.le_refl _) _).setRow (Nat.le_succ _) _⟩
  | true =>
    simp only [hb] at hc
    cases hb2 : nameB s with
    | false =>
      have e0 : clR L s P = (zeroN, zeroN, 1) := clR_bad (by rw [hb, hb2]; rfl)
      simp only [e0]
      simp only [hb2] at hn
      clear hb hb2 ht e0 hokL hg hp hk ha
      go_enter Try.func17, Try.ntmps17
      go_wp2_with fail
      refine (hc _ (H.out.ext (by decide) ((ext_alloc _ _).alloc _))).mono ?_
      rintro e w1 ⟨rfl, hx⟩
      have B6 := Lib.hid (((Blk.new w 31 _).alloc _).ext hx)
      have B7 := Lib.hid ((Blk.new' (g := w.heap.size + 1) (by simp) 31 _).ext hx)
      have XW := Lib.hid (((ext_alloc w _).alloc _).trans hx)
      clear hx
      go_wp2_with fail
      refine (hn _).mono ?_
      rintro e w' ⟨rfl, rfl⟩
      go_wp2_with (first
        | (refine wpl_buildN rfl rfl built_zero ?_)
        | (refine wpl_storeB B6.out aggNodeI HZ.out rfl rfl _ _ rfl rfl rfl rfl ?_)
        | (refine wpl_storeB (B7.out.row_far hne' _) aggNodeI HZ.out rfl rfl _ _ rfl rfl rfl rfl ?_))
      refine bodyPost_ret (results_bbt rfl _ rfl rfl aggNodeI HZ.out.size HZ.out.size ((B6.out.setRow _).row_far hne _) ((B7.out.row_far hne' _).setRow _) rfl) rfl ?_
      exact ⟨rfl, (XW.out.setRow (Nat.le_refl _) _).setRow (Nat.le_succ _) _⟩
    | true =>
      simp only [hb2] at hn
      cases hb3 : okNs P with
      | false =>
        have e0 : clR L s P = (zeroN, zeroN, 1) := clR_bad (by rw [hb, hb2, hb3]; rfl)
        simp only [e0]
        simp only [hb3] at ha
        clear hb hb2 hb3 ht e0 hokL hg hp hk
        go_enter Try.func17, Try.ntmps17
        go_wp2_with fail
        refine (hc _ (H.out.ext (by decide) ((ext_alloc _ _).alloc _))).mono ?_
        rintro e w1 ⟨rfl, hx⟩
        have B6 := Lib.hid (((Blk.new w 31 _).alloc _).ext hx)
        have B7 := Lib.hid ((Blk.new' (g := w.heap.size + 1) (by simp) 31 _).ext hx)
        have XW := Lib.hid (((ext_alloc w _).alloc _).trans hx)
        clear hx
        go_wp2_with fail
        refine (hn _).mono ?_
        rintro e w' ⟨rfl, rfl⟩
        go_wp2_with fail
        refine (ha _ (H'.out.ext (by decide) XW.out)).mono ?_
        rintro e w2 ⟨rfl, hx⟩
        replace B6 := Lib.hid (B6.out.ext hx)
        replace B7 := Lib.hid (B7.out.ext hx)
        replace XW := Lib.hid (XW.out.trans hx)
        clear hx
        go_wp2_with (first
          | (refine wpl_buildN rfl rfl built_zero ?_)
          | (refine wpl_storeB B6.out aggNodeI HZ.out rfl rfl _ _ rfl rfl rfl rfl ?_)
          | (refine wpl_storeB (B7.out.row_far hne' _) aggNodeI HZ.out rfl rfl _ _ rfl rfl rfl rfl ?_))
        refine bodyPost_ret (results_bbt rfl _ rfl rfl aggNodeI HZ.out.size HZ.out.size ((B6.out.setRow _).row_far hne _) ((B7.out.row_far hne' _).setRow _) rfl) rfl ?_
        exact ⟨rfl, (XW.out.setRow (Nat.le_refl _) _).setRow (Nat.le_succ _) _⟩
      | true =>
        simp only [hb3] at ha
        replace ht := ht hb
        have hall : (okE L && nameB s && okNs P) = true := by rw [hb, hb2, hb3]; rfl
        have HTO := Lib.hid (trF_ok L.length L (good_of hb hokL))
        replace hk := hk (trF L.length L).key (Tr.key_ok _)
        obtain ⟨g1, g2⟩ := getR_ok hb hb2
        rw [g1, g2] at hg
        clear g1 g2
        by_cases h0 : (chkR (trF L.length L).key s P).2.2 = 0
        · obtain ⟨c1, c2, c3, hck⟩ : ∃ c1 c2 c3, chkR (trF L.length L).key s P = (c1, c2, c3) := ⟨_, _, _, rfl⟩
          obtain ⟨ve, hve⟩ : ∃ ve, valE L s = ve := ⟨_, rfl⟩
          obtain ⟨he, hhe⟩ : ∃ he, hasE L s = he := ⟨_, rfl⟩
          by_cases h3 : c1 = he
          · by_cases h4 : c2 = ve
            · have e0 : clR L s P = (zeroN, zeroN, 6) := clR_none hall h0 (by rw [hck, hhe]; exact h3) (by rw [hck, hve]; exact h4)
              simp only [e0]
              subst h3 h4
              simp only [hck] at hk h0
              simp only [hve, hhe] at hg
              subst h0
              have q1 : (c2.toList == c2.toList) = true := by simp
              obtain ⟨T, hT⟩ : ∃ T, trF L.length L = T := ⟨_, rfl⟩
              simp only [hT] at ht HTO hk
              clear e0 hck hve hhe hb hb2 hb3 hokL hp hall hT
              cases c1 with
              | true =>
                simp only [if_true, Bool.false_eq_true, if_false] at hg
                go_enter Try.func17, Try.ntmps17
                go_wp2_with fail
                refine (hc _ (H.out.ext (by decide) ((ext_alloc _ _).alloc _))).mono ?_
                rintro e w1 ⟨rfl, hx⟩
                have B6 := Lib.hid (((Blk.new w 31 _).alloc _).ext hx)
                have B7 := Lib.hid ((Blk.new' (g := w.heap.size + 1) (by simp) 31 _).ext hx)
                have XW := Lib.hid (((ext_alloc w _).alloc _).trans hx)
                clear hx
                go_wp2_with fail
                refine (hn _).mono ?_
                rintro e w' ⟨rfl, rfl⟩
                go_wp2_with fail
                refine (ha _ (H'.out.ext (by decide) XW.out)).mono ?_
                rintro e w2 ⟨rfl, hx⟩
                replace B6 := Lib.hid (B6.out.ext hx)
                replace B7 := Lib.hid (B7.out.ext hx)
                replace XW := Lib.hid (XW.out.trans hx)
                clear hx
                go_wp2_with fail
                refine (ht _ (H.out.ext (by decide) XW.out)).mono ?_
                rintro e w2 ⟨v2, rfl, htr, hx⟩
                replace B6 := Lib.hid (B6.out.ext hx)
                replace B7 := Lib.hid (B7.out.ext hx)
                replace XW := Lib.hid (XW.out.trans hx)
                have HT := Lib.hid htr
                clear hx htr
                go_wp2_with fail
                refine (treeKey_any T HTO.out _ _ HT.out).mono ?_
                rintro e w3 ⟨rfl, hx⟩
                replace B6 := Lib.hid (B6.out.ext hx)
                replace B7 := Lib.hid (B7.out.ext hx)
                replace XW := Lib.hid (XW.out.trans hx)
                clear hx HT
                go_wp2_with fail
                refine (hk _ (H'.out.ext (by decide) XW.out)).mono ?_
                rintro e w2 ⟨rfl, hx⟩
                replace B6 := Lib.hid (B6.out.ext hx)
                replace B7 := Lib.hid (B7.out.ext hx)
                replace XW := Lib.hid (XW.out.trans hx)
                clear hx
                go_wp2_with fail
                refine (hg _ (H.out.ext (by decide) XW.out)).mono ?_
                rintro e w2 ⟨rfl, hx⟩
                replace B6 := Lib.hid (B6.out.ext hx)
                replace B7 := Lib.hid (B7.out.ext hx)
                replace XW := Lib.hid (XW.out.trans hx)
                clear hx
                go_wp2_with (first
                  | (refine wpl_buildN rfl rfl built_zero ?_)
                  | (refine wpl_storeB B6.out aggNodeI HZ.out rfl rfl _ _ rfl rfl rfl rfl ?_)
                  | (refine wpl_storeB (B7.out.row_far hne' _) aggNodeI HZ.out rfl rfl _ _ rfl rfl rfl rfl ?_))
                refine bodyPost_ret (results_bbt rfl _ rfl rfl aggNodeI HZ.out.size HZ.out.size ((B6.out.setRow _).row_far hne _) ((B7.out.row_far hne' _).setRow _) rfl) rfl ?_
                exact ⟨rfl, (XW.out.setRow (Nat.le_refl _) _).setRow (Nat.le_succ _) _⟩
              | false =>
                simp only [if_true, Bool.false_eq_true, if_false] at hg
                go_enter Try.func17, Try.ntmps17
                go_wp2_with fail
                refine (hc _ (H.out.ext (by decide) ((ext_alloc _ _).alloc _))).mono ?_
                rintro e w1 ⟨rfl, hx⟩
                have B6 := Lib.hid (((Blk.new w 31 _).alloc _).ext hx)
                have B7 := Lib.hid ((Blk.new' (g := w.heap.size + 1) (by simp) 31 _).ext hx)
                have XW := Lib.hid (((ext_alloc w _).alloc _).trans hx)
                clear hx
                go_wp2_with fail
                refine (hn _).mono ?_
                rintro e w' ⟨rfl, rfl⟩
                go_wp2_with fail
                refine (ha _ (H'.out.ext (by decide) XW.out)).mono ?_
                rintro e w2 ⟨rfl, hx⟩
                replace B6 := Lib.hid (B6.out.ext hx)
                replace B7 := Lib.hid (B7.out.ext hx)
                replace XW := Lib.hid (XW.out.trans hx)
                clear hx
                go_wp2_with fail
                refine (ht _ (H.out.ext (by decide) XW.out)).mono ?_
                rintro e w2 ⟨v2, rfl, htr, hx⟩
                replace B6 := Lib.hid (B6.out.ext hx)
                replace B7 := Lib.hid (B7.out.ext hx)
                replace XW := Lib.hid (XW.out.trans hx)
                have HT := Lib.hid htr
                clear hx htr
                go_wp2_with fail
                refine (treeKey_any T HTO.out _ _ HT.out).mono ?_
                rintro e w3 ⟨rfl, hx⟩
                replace B6 := Lib.hid (B6.out.ext hx)
                replace B7 := Lib.hid (B7.out.ext hx)
                replace XW := Lib.hid (XW.out.trans hx)
                clear hx HT
                go_wp2_with fail
                refine (hk _ (H'.out.ext (by decide) XW.out)).mono ?_
                rintro e w2 ⟨rfl, hx⟩
                replace B6 := Lib.hid (B6.out.ext hx)
                replace B7 := Lib.hid (B7.out.ext hx)
                replace XW := Lib.hid (XW.out.trans hx)
                clear hx
                go_wp2_with fail
                refine (hg _ (H.out.ext (by decide) XW.out)).mono ?_
                rintro e w2 ⟨rfl, hx⟩
                replace B6 := Lib.hid (B6.out.ext hx)
                replace B7 := Lib.hid (B7.out.ext hx)
                replace XW := Lib.hid (XW.out.trans hx)
                clear hx
                go_wp2_with (first
                  | (refine wpl_buildN rfl rfl built_zero ?_)
                  | (refine wpl_storeB B6.out aggNodeI HZ.out rfl rfl _ _ rfl rfl rfl rfl ?_)
                  | (refine wpl_storeB (B7.out.row_far hne' _) aggNodeI HZ.out rfl rfl _ _ rfl rfl rfl rfl ?_))
                refine bodyPost_ret (results_bbt rfl _ rfl rfl aggNodeI HZ.out.size HZ.out.size ((B6.out.setRow _).row_far hne _) ((B7.out.row_far hne' _).setRow _) rfl) rfl ?_
                exact ⟨rfl, (XW.out.setRow (Nat.le_refl _) _).setRow (Nat.le_succ _) _⟩
            · have hno : ¬ ((chkR (trF L.length L).key s P).1 = hasE L s ∧ (chkR (trF L.length L).key s P).2.1 = valE L s) := fun h => h4 (by have := h.2; rw [hck, hve] at this; exact this)
              have q1 : (c2.toList == ve.toList) = false := by rw [beq_eq_false_iff_ne]; exact fun e => h4 (toList_inj e)
              have HNE := chk_ne hb hb2 hb3 h0 hno
              have HCL := clR_hit hall h0 hno
              have FO := Lib.hid (way_full (good_of hb hokL) s)
              have FP := Lib.hid (okNs_full hb3)
              have hp2 := provR_ok hb hb2
              rw [hp2] at hp
              simp only [hck] at hk h0
              simp only [hve, hhe] at hg
              subst h0
              obtain ⟨X, Y, c, hR⟩ : ∃ X Y c, clR L s P = (X, Y, c) := ⟨_, _, _, rfl⟩
              rw [hR]
              have HR := Lib.hid hR
              obtain ⟨O, hO⟩ : ∃ O, (trF L.length L).way s = O := ⟨_, rfl⟩
              have HOO := Lib.hid (show ∀ x ∈ O, tNd.ok x from fun x hx => Tr.sel_ok (fun o => ltB s o) (fun o => ltB o s) (trF L.length L) HTO.out x (by rw [← hO] at hx; exact hx))
              rw [hO] at HCL hp HNE FO
              have NE := Lib.hid HNE
              replace HCL := Lib.hid HCL
              obtain ⟨T, hT⟩ : ∃ T, trF L.length L = T := ⟨_, rfl⟩
              simp only [hT] at ht HTO hk
              clear hck hve hhe hb hb2 hb3 hokL hall hT hO hp2 HNE hR hno
              subst h3
              clear h4
              cases c1 with
              | true =>
                simp only [if_true, Bool.false_eq_true, if_false] at hg
                go_enter Try.func17, Try.ntmps17
                go_wp2_with fail
                refine (hc _ (H.out.ext (by decide) ((ext_alloc _ _).alloc _))).mono ?_
                rintro e w1 ⟨rfl, hx⟩
                have B6 := Lib.hid (((Blk.new w 31 _).alloc _).ext hx)
                have B7 := Lib.hid ((Blk.new' (g := w.heap.size + 1) (by simp) 31 _).ext hx)
                have XW := Lib.hid (((ext_alloc w _).alloc _).trans hx)
                clear hx
                go_wp2_with fail
                refine (hn _).mono ?_
                rintro e w' ⟨rfl, rfl⟩
                go_wp2_with fail
                refine (ha _ (H'.out.ext (by decide) XW.out)).mono ?_
                rintro e w2 ⟨rfl, hx⟩
                replace B6 := Lib.hid (B6.out.ext hx)
                replace B7 := Lib.hid (B7.out.ext hx)
                replace XW := Lib.hid (XW.out.trans hx)
                clear hx
                go_wp2_with fail
                refine (ht _ (H.out.ext (by decide) XW.out)).mono ?_
                rintro e w2 ⟨v2, rfl, htr, hx⟩
                replace B6 := Lib.hid (B6.out.ext hx)
                replace B7 := Lib.hid (B7.out.ext hx)
                replace XW := Lib.hid (XW.out.trans hx)
                have HT := Lib.hid htr
                clear hx htr
                go_wp2_with fail
                refine (treeKey_any T HTO.out _ _ HT.out).mono ?_
                rintro e w3 ⟨rfl, hx⟩
                replace B6 := Lib.hid (B6.out.ext hx)
                replace B7 := Lib.hid (B7.out.ext hx)
                replace XW := Lib.hid (XW.out.trans hx)
                clear hx HT
                go_wp2_with fail
                refine (hk _ (H'.out.ext (by decide) XW.out)).mono ?_
                rintro e w2 ⟨rfl, hx⟩
                replace B6 := Lib.hid (B6.out.ext hx)
                replace B7 := Lib.hid (B7.out.ext hx)
                replace XW := Lib.hid (XW.out.trans hx)
                clear hx
                go_wp2_with fail
                refine (hg _ (H.out.ext (by decide) XW.out)).mono ?_
                rintro e w2 ⟨rfl, hx⟩
                replace B6 := Lib.hid (B6.out.ext hx)
                replace B7 := Lib.hid (B7.out.ext hx)
                replace XW := Lib.hid (XW.out.trans hx)
                clear hx
                go_wp2_with fail
                refine (hp _ (H.out.ext (by decide) XW.out)).mono ?_
                rintro e w2 ⟨v6, rfl, ho, hx⟩
                replace B6 := Lib.hid (B6.out.ext hx)
                replace B7 := Lib.hid (B7.out.ext hx)
                replace XW := Lib.hid (XW.out.trans hx)
                have HO := Lib.hid ho
                obtain ⟨A6, q6, rfl⟩ := ho.shape
                clear ho hx
                go_wp2_with fail
                go_loopw [17] (fun i wr => ∃ k : Nat, k ≤ O.length ∧ k ≤ P.length ∧ i = .int .i64 k ∧ (∀ p, p < k → O.getD p zeroN = P.getD p zeroN) ∧ Ext w2 wr) (fun i _ => P.length - (intOf i).toNat)
                case atStart => exact ⟨0, by omega, by omega, rfl, fun p hp => by omega, Ext.refl _⟩
                case round =>
                  obtain ⟨k, hk1, hk2, rfl, hm, hx⟩ := hrel
                  have HX := Lib.hid hx
                  have HM := Lib.hid hm
                  clear hx hm
                  have hat1 := fun W S1 (hW : RdL tNd W S1 (.slice A6 O.length q6) O) => clashAt_any (.slice A6 O.length q6) O k W S1 hW
                  have hat2 := fun W hW => clashAt_any (.slice A' P.length cap') P k W S' hW
                  have HXO := Lib.hid (getD_ok HOO.out k)
                  have HYO := Lib.hid (getD_ok hokP.out k)
                  by_cases he : O.getD k zeroN = P.getD k zeroN
                  · obtain ⟨l1, l2⟩ := both FO.out FP.out NE.out k hk1 hk2 HM.out he
                    have HE := Lib.hid he
                    have hmx : (k : Int) < max (O.length : Int) (P.length : Int) := by omega
                    have heq : ∀ W, (binOp .eql 31 (.agg (O.getD k zeroN).enc.toArray) (.agg (P.getD k zeroN).enc.toArray)).run Try.prog W = .ok (.bool true) W := fun W => by rw [run_eqNd _ _ HXO.out HYO.out W, decide_eq_true he]
                    clear he
                    generalize hxx : O.getD k zeroN = x at hat1 heq HXO HE
                    generalize hyy : P.getD k zeroN = y at hat2 heq HYO HE
                    have HXX := Lib.hid hxx
                    have HYY := Lib.hid hyy
                    clear hxx hyy
                    go_wp2_with fail
                    refine (hat1 _ _ ((HO.out.ext HX.out).rd)).mono ?_
                    rintro e w3 ⟨rfl, hx⟩
                    replace HX := Lib.hid (HX.out.trans hx)
                    clear hx
                    go_wp2_with fail
                    refine (hat2 _ (H'.out.ext (by decide) (XW.out.trans HX.out))).mono ?_
                    rintro e w4 ⟨rfl, hx⟩
                    replace HX := Lib.hid (HX.out.trans hx)
                    clear hx
                    go_wp2
                    go_roundw
                    case rel => exact ⟨k + 1, by omega, by omega, by go_num, fun p hp => by
                      by_cases e : p = k
                      · subst e; rw [HXX.out, HYY.out]; exact HE.out
                      · exact HM.out p (by omega), HX.out⟩
                    case measure => simp [intOf]; omega
                  · have heq : ∀ W, (binOp .eql 31 (.agg (O.getD k zeroN).enc.toArray) (.agg (P.getD k zeroN).enc.toArray)).run Try.prog W = .ok (.bool false) W := fun W => by rw [run_eqNd _ _ HXO.out HYO.out W, decide_eq_false he]
                    have HE := Lib.hid (show X = O.getD k zeroN ∧ Y = P.getD k zeroN ∧ c = 0 by
                      have h1 := HR.out.symm.trans HCL.out
                      rw [partN_eq O P k hk1 hk2 HM.out (.inr (.inr he))] at h1
                      injection h1 with h1 h2
                      injection h2 with h2 h3
                      exact ⟨h1, h2, h3⟩)
                    clear he
                    generalize O.getD k zeroN = x at hat1 heq HXO HE
                    generalize P.getD k zeroN = y at hat2 heq HYO HE
                    have HSX := Lib.hid (Nd.st HXO.out)
                    have HSY := Lib.hid (Nd.st HYO.out)
                    go_wp2_with fail
                    refine (hat1 _ _ ((HO.out.ext HX.out).rd)).mono ?_
                    rintro e w3 ⟨rfl, hx⟩
                    replace HX := Lib.hid (HX.out.trans hx)
                    clear hx
                    go_wp2_with fail
                    refine (hat2 _ (H'.out.ext (by decide) (XW.out.trans HX.out))).mono ?_
                    rintro e w4 ⟨rfl, hx⟩
                    replace HX := Lib.hid (HX.out.trans hx)
                    clear hx
                    go_wp2_with fail
                    go_wp2_with fail
                    refine (hat1 _ _ ((HO.out.ext HX.out).rd)).mono ?_
                    rintro e w3 ⟨rfl, hx⟩
                    replace HX := Lib.hid (HX.out.trans hx)
                    clear hx
                    go_wp2_with fail
                    refine (hat2 _ (H'.out.ext (by decide) (XW.out.trans HX.out))).mono ?_
                    rintro e w4 ⟨rfl, hx⟩
                    replace HX := Lib.hid (HX.out.trans hx)
                    clear hx
                    have C6 := Lib.hid (B6.out.ext HX.out)
                    have C7 := Lib.hid (B7.out.ext HX.out)
                    have CW := Lib.hid (XW.out.trans HX.out)
                    go_wp2_with (first
                      | (refine wpl_storeB C6.out aggNodeI HSX.out rfl rfl _ _ rfl rfl rfl rfl ?_)
                      | (refine wpl_storeB (C7.out.row_far hne' _) aggNodeI HSY.out rfl rfl _ _ rfl rfl rfl rfl ?_))
                    refine bodyPost_ret (results_bbt rfl _ rfl rfl aggNodeI HSX.out.size HSY.out.size ((C6.out.setRow _).row_far hne _) ((C7.out.row_far hne' _).setRow _) rfl) rfl ?_
                    exact ⟨by rw [HE.out.1, HE.out.2.1, HE.out.2.2]; rfl, (CW.out.setRow (Nat.le_refl _) _).setRow (Nat.le_succ _) _⟩
              | false =>
                simp only [if_true, Bool.false_eq_true, if_false] at hg
                go_enter Try.func17, Try.ntmps17
                go_wp2_with fail
                refine (hc _ (H.out.ext (by decide) ((ext_alloc _ _).alloc _))).mono ?_
                rintro e w1 ⟨rfl, hx⟩
                have B6 := Lib.hid (((Blk.new w 31 _).alloc _).ext hx)
                have B7 := Lib.hid ((Blk.new' (g := w.heap.size + 1) (by simp) 31 _).ext hx)
                have XW := Lib.hid (((ext_alloc w _).alloc _).trans hx)
                clear hx
                go_wp2_with fail
                refine (hn _).mono ?_
                rintro e w' ⟨rfl, rfl⟩
                go_wp2_with fail
                refine (ha _ (H'.out.ext (by decide) XW.out)).mono ?_
                rintro e w2 ⟨rfl, hx⟩
                replace B6 := Lib.hid (B6.out.ext hx)
                replace B7 := Lib.hid (B7.out.ext hx)
                replace XW := Lib.hid (XW.out.trans hx)
                clear hx
                go_wp2_with fail
                refine (ht _ (H.out.ext (by decide) XW.out)).mono ?_
                rintro e w2 ⟨v2, rfl, htr, hx⟩
                replace B6 := Lib.hid (B6.out.ext hx)
                replace B7 := Lib.hid (B7.out.ext hx)
                replace XW := Lib.hid (XW.out.trans hx)
                have HT := Lib.hid htr
                clear hx htr
                go_wp2_with fail
                refine (treeKey_any T HTO.out _ _ HT.out).mono ?_
                rintro e w3 ⟨rfl, hx⟩
                replace B6 := Lib.hid (B6.out.ext hx)
                replace B7 := Lib.hid (B7.out.ext hx)
                replace XW := Lib.hid (XW.out.trans hx)
                clear hx HT
                go_wp2_with fail
                refine (hk _ (H'.out.ext (by decide) XW.out)).mono ?_
                rintro e w2 ⟨rfl, hx⟩
                replace B6 := Lib.hid (B6.out.ext hx)
                replace B7 := Lib.hid (B7.out.ext hx)
                replace XW := Lib.hid (XW.out.trans hx)
                clear hx
                go_wp2_with fail
                refine (hg _ (H.out.ext (by decide) XW.out)).mono ?_
                rintro e w2 ⟨rfl, hx⟩
                replace B6 := Lib.hid (B6.out.ext hx)
                replace B7 := Lib.hid (B7.out.ext hx)
                replace XW := Lib.hid (XW.out.trans hx)
                clear hx
                go_wp2_with fail
                refine (hp _ (H.out.ext (by decide) XW.out)).mono ?_
                rintro e w2 ⟨v6, rfl, ho, hx⟩
                replace B6 := Lib.hid (B6.out.ext hx)
                replace B7 := Lib.hid (B7.out.ext hx)
                replace XW := Lib.hid (XW.out.trans hx)
                have HO := Lib.hid ho
                obtain ⟨A6, q6, rfl⟩ := ho.shape
                clear ho hx
                go_wp2_with fail
                go_loopw [17] (fun i wr => ∃ k : Nat, k ≤ O.length ∧ k ≤ P.length ∧ i = .int .i64 k ∧ (∀ p, p < k → O.getD p zeroN = P.getD p zeroN) ∧ Ext w2 wr) (fun i _ => P.length - (intOf i).toNat)
                case atStart => exact ⟨0, by omega, by omega, rfl, fun p hp => by omega, Ext.refl _⟩
                case round =>
                  obtain ⟨k, hk1, hk2, rfl, hm, hx⟩ := hrel
                  have HX := Lib.hid hx
                  have HM := Lib.hid hm
                  clear hx hm
                  have hat1 := fun W S1 (hW : RdL tNd W S1 (.slice A6 O.length q6) O) => clashAt_any (.slice A6 O.length q6) O k W S1 hW
                  have hat2 := fun W hW => clashAt_any (.slice A' P.length cap') P k W S' hW
                  have HXO := Lib.hid (getD_ok HOO.out k)
                  have HYO := Lib.hid (getD_ok hokP.out k)
                  by_cases he : O.getD k zeroN = P.getD k zeroN
                  · obtain ⟨l1, l2⟩ := both FO.out FP.out NE.out k hk1 hk2 HM.out he
                    have HE := Lib.hid he
                    have hmx : (k : Int) < max (O.length : Int) (P.length : Int) := by omega
                    have heq : ∀ W, (binOp .eql 31 (.agg (O.getD k zeroN).enc.toArray) (.agg (P.getD k zeroN).enc.toArray)).run Try.prog W = .ok (.bool true) W := fun W => by rw [run_eqNd _ _ HXO.out HYO.out W, decide_eq_true he]
                    clear he
                    generalize hxx : O.getD k zeroN = x at hat1 heq HXO HE
                    generalize hyy : P.getD k zeroN = y at hat2 heq HYO HE
                    have HXX := Lib.hid hxx
                    have HYY := Lib.hid hyy
                    clear hxx hyy
                    go_wp2_with fail
                    refine (hat1 _ _ ((HO.out.ext HX.out).rd)).mono ?_
                    rintro e w3 ⟨rfl, hx⟩
                    replace HX := Lib.hid (HX.out.trans hx)
                    clear hx
                    go_wp2_with fail
                    refine (hat2 _ (H'.out.ext (by decide) (XW.out.trans HX.out))).mono ?_
                    rintro e w4 ⟨rfl, hx⟩
                    replace HX := Lib.hid (HX.out.trans hx)
                    clear hx
                    go_wp2
                    go_roundw
                    case rel => exact ⟨k + 1, by omega, by omega, by go_num, fun p hp => by
                      by_cases e : p = k
                      · subst e; rw [HXX.out, HYY.out]; exact HE.out
                      · exact HM.out p (by omega), HX.out⟩
                    case measure => simp [intOf]; omega
                  · have heq : ∀ W, (binOp .eql 31 (.agg (O.getD k zeroN).enc.toArray) (.agg (P.getD k zeroN).enc.toArray)).run Try.prog W = .ok (.bool false) W := fun W => by rw [run_eqNd _ _ HXO.out HYO.out W, decide_eq_false he]
                    have HE := Lib.hid (show X = O.getD k zeroN ∧ Y = P.getD k zeroN ∧ c = 0 by
                      have h1 := HR.out.symm.trans HCL.out
                      rw [partN_eq O P k hk1 hk2 HM.out (.inr (.inr he))] at h1
                      injection h1 with h1 h2
                      injection h2 with h2 h3
                      exact ⟨h1, h2, h3⟩)
                    clear he
                    generalize O.getD k zeroN = x at hat1 heq HXO HE
                    generalize P.getD k zeroN = y at hat2 heq HYO HE
                    have HSX := Lib.hid (Nd.st HXO.out)
                    have HSY := Lib.hid (Nd.st HYO.out)
                    go_wp2_with fail
                    refine (hat1 _ _ ((HO.out.ext HX.out).rd)).mono ?_
                    rintro e w3 ⟨rfl, hx⟩
                    replace HX := Lib.hid (HX.out.trans hx)
                    clear hx
                    go_wp2_with fail
                    refine (hat2 _ (H'.out.ext (by decide) (XW.out.trans HX.out))).mono ?_
                    rintro e w4 ⟨rfl, hx⟩
                    replace HX := Lib.hid (HX.out.trans hx)
                    clear hx
                    go_wp2_with fail
                    go_wp2_with fail
                    refine (hat1 _ _ ((HO.out.ext HX.out).rd)).mono ?_
                    rintro e w3 ⟨rfl, hx⟩
                    replace HX := Lib.hid (HX.out.trans hx)
                    clear hx
                    go_wp2_with fail
                    refine (hat2 _ (H'.out.ext (by decide) (XW.out.trans HX.out))).mono ?_
                    rintro e w4 ⟨rfl, hx⟩
                    replace HX := Lib.hid (HX.out.trans hx)
                    clear hx
                    have C6 := Lib.hid (B6.out.ext HX.out)
                    have C7 := Lib.hid (B7.out.ext HX.out)
                    have CW := Lib.hid (XW.out.trans HX.out)
                    go_wp2_with (first
                      | (refine wpl_storeB C6.out aggNodeI HSX.out rfl rfl _ _ rfl rfl rfl rfl ?_)
                      | (refine wpl_storeB (C7.out.row_far hne' _) aggNodeI HSY.out rfl rfl _ _ rfl rfl rfl rfl ?_))
                    refine bodyPost_ret (results_bbt rfl _ rfl rfl aggNodeI HSX.out.size HSY.out.size ((C6.out.setRow _).row_far hne _) ((C7.out.row_far hne' _).setRow _) rfl) rfl ?_
                    exact ⟨by rw [HE.out.1, HE.out.2.1, HE.out.2.2]; rfl, (CW.out.setRow (Nat.le_refl _) _).setRow (Nat.le_succ _) _⟩
          · have hno : ¬ ((chkR (trF L.length L).key s P).1 = hasE L s ∧ (chkR (trF L.length L).key s P).2.1 = valE L s) := fun h => h3 (by have := h.1; rw [hck, hhe] at this; exact this)
            have HNE := chk_ne hb hb2 hb3 h0 hno
            have HCL := clR_hit hall h0 hno
            have FO := Lib.hid (way_full (good_of hb hokL) s)
            have FP := Lib.hid (okNs_full hb3)
            have hp2 := provR_ok hb hb2
            rw [hp2] at hp
            simp only [hck] at hk h0
            simp only [hve, hhe] at hg
            subst h0
            obtain ⟨X, Y, c, hR⟩ : ∃ X Y c, clR L s P = (X, Y, c) := ⟨_, _, _, rfl⟩
            rw [hR]
            have HR := Lib.hid hR
            obtain ⟨O, hO⟩ : ∃ O, (trF L.length L).way s = O := ⟨_, rfl⟩
            have HOO := Lib.hid (show ∀ x ∈ O, tNd.ok x from fun x hx => Tr.sel_ok (fun o => ltB s o) (fun o => ltB o s) (trF L.length L) HTO.out x (by rw [← hO] at hx; exact hx))
            rw [hO] at HCL hp HNE FO
            have NE := Lib.hid HNE
            replace HCL := Lib.hid HCL
            obtain ⟨T, hT⟩ : ∃ T, trF L.length L = T := ⟨_, rfl⟩
            simp only [hT] at ht HTO hk
            clear hck hve hhe hb hb2 hb3 hokL hall hT hO hp2 HNE hR hno
            cases c1 with
            | true =>
              obtain rfl : he = false := by cases he with
                | true => exact absurd rfl h3
                | false => rfl
              clear h3
              simp only [if_true, Bool.false_eq_true, if_false] at hg
              go_enter Try.func17, Try.ntmps17
              go_wp2_with fail
              refine (hc _ (H.out.ext (by decide) ((ext_alloc _ _).alloc _))).mono ?_
              rintro e w1 ⟨rfl, hx⟩
              have B6 := Lib.hid (((Blk.new w 31 _).alloc _).ext hx)
              have B7 := Lib.hid ((Blk.new' (g := w.heap.size + 1) (by simp) 31 _).ext hx)
              have XW := Lib.hid (((ext_alloc w _).alloc _).trans hx)
              clear hx
              go_wp2_with fail
              refine (hn _).mono ?_
              rintro e w' ⟨rfl, rfl⟩
              go_wp2_with fail
              refine (ha _ (H'.out.ext (by decide) XW.out)).mono ?_
              rintro e w2 ⟨rfl, hx⟩
              replace B6 := Lib.hid (B6.out.ext hx)
              replace B7 := Lib.hid (B7.out.ext hx)
              replace XW := Lib.hid (XW.out.trans hx)
              clear hx
              go_wp2_with fail
              refine (ht _ (H.out.ext (by decide) XW.out)).mono ?_
              rintro e w2 ⟨v2, rfl, htr, hx⟩
              replace B6 := Lib.hid (B6.out.ext hx)
              replace B7 := Lib.hid (B7.out.ext hx)
              replace XW := Lib.hid (XW.out.trans hx)
              have HT := Lib.hid htr
              clear hx htr
              go_wp2_with fail
              refine (treeKey_any T HTO.out _ _ HT.out).mono ?_
              rintro e w3 ⟨rfl, hx⟩
              replace B6 := Lib.hid (B6.out.ext hx)
              replace B7 := Lib.hid (B7.out.ext hx)
              replace XW := Lib.hid (XW.out.trans hx)
              clear hx HT
              go_wp2_with fail
              refine (hk _ (H'.out.ext (by decide) XW.out)).mono ?_
              rintro e w2 ⟨rfl, hx⟩
              replace B6 := Lib.hid (B6.out.ext hx)
              replace B7 := Lib.hid (B7.out.ext hx)
              replace XW := Lib.hid (XW.out.trans hx)
              clear hx
              go_wp2_with fail
              refine (hg _ (H.out.ext (by decide) XW.out)).mono ?_
              rintro e w2 ⟨rfl, hx⟩
              replace B6 := Lib.hid (B6.out.ext hx)
              replace B7 := Lib.hid (B7.out.ext hx)
              replace XW := Lib.hid (XW.out.trans hx)
              clear hx
              go_wp2_with fail
              refine (hp _ (H.out.ext (by decide) XW.out)).mono ?_
              rintro e w2 ⟨v6, rfl, ho, hx⟩
              replace B6 := Lib.hid (B6.out.ext hx)
              replace B7 := Lib.hid (B7.out.ext hx)
              replace XW := Lib.hid (XW.out.trans hx)
              have HO := Lib.hid ho
              obtain ⟨A6, q6, rfl⟩ := ho.shape
              clear ho hx
              go_wp2_with fail
              go_loopw [17] (fun i wr => ∃ k : Nat, k ≤ O.length ∧ k ≤ P.length ∧ i = .int .i64 k ∧ (∀ p, p < k → O.getD p zeroN = P.getD p zeroN) ∧ Ext w2 wr) (fun i _ => P.length - (intOf i).toNat)
              case atStart => exact ⟨0, by omega, by omega, rfl, fun p hp => by omega, Ext.refl _⟩
              case round =>
                obtain ⟨k, hk1, hk2, rfl, hm, hx⟩ := hrel
                have HX := Lib.hid hx
                have HM := Lib.hid hm
                clear hx hm
                have hat1 := fun W S1 (hW : RdL tNd W S1 (.slice A6 O.length q6) O) => clashAt_any (.slice A6 O.length q6) O k W S1 hW
                have hat2 := fun W hW => clashAt_any (.slice A' P.length cap') P k W S' hW
                have HXO := Lib.hid (getD_ok HOO.out k)
                have HYO := Lib.hid (getD_ok hokP.out k)
                by_cases he : O.getD k zeroN = P.getD k zeroN
                · obtain ⟨l1, l2⟩ := both FO.out FP.out NE.out k hk1 hk2 HM.out he
                  have HE := Lib.hid he
                  have hmx : (k : Int) < max (O.length : Int) (P.length : Int) := by omega
                  have heq : ∀ W, (binOp .eql 31 (.agg (O.getD k zeroN).enc.toArray) (.agg (P.getD k zeroN).enc.toArray)).run Try.prog W = .ok (.bool true) W := fun W => by rw [run_eqNd _ _ HXO.out HYO.out W, decide_eq_true he]
                  clear he
                  generalize hxx : O.getD k zeroN = x at hat1 heq HXO HE
                  generalize hyy : P.getD k zeroN = y at hat2 heq HYO HE
                  have HXX := Lib.hid hxx
                  have HYY := Lib.hid hyy
                  clear hxx hyy
                  go_wp2_with fail
                  refine (hat1 _ _ ((HO.out.ext HX.out).rd)).mono ?_
                  rintro e w3 ⟨rfl, hx⟩
                  replace HX := Lib.hid (HX.out.trans hx)
                  clear hx
                  go_wp2_with fail
                  refine (hat2 _ (H'.out.ext (by decide) (XW.out.trans HX.out))).mono ?_
                  rintro e w4 ⟨rfl, hx⟩
                  replace HX := Lib.hid (HX.out.trans hx)
                  clear hx
                  go_wp2
                  go_roundw
                  case rel => exact ⟨k + 1, by omega, by omega, by go_num, fun p hp => by
                    by_cases e : p = k
                    · subst e; rw [HXX.out, HYY.out]; exact HE.out
                    · exact HM.out p (by omega), HX.out⟩
                  case measure => simp [intOf]; omega
                · have heq : ∀ W, (binOp .eql 31 (.agg (O.getD k zeroN).enc.toArray) (.agg (P.getD k zeroN).enc.toArray)).run Try.prog W = .ok (.bool false) W := fun W => by rw [run_eqNd _ _ HXO.out HYO.out W, decide_eq_false he]
                  have HE := Lib.hid (show X = O.getD k zeroN ∧ Y = P.getD k zeroN ∧ c = 0 by
                    have h1 := HR.out.symm.trans HCL.out
                    rw [partN_eq O P k hk1 hk2 HM.out (.inr (.inr he))] at h1
                    injection h1 with h1 h2
                    injection h2 with h2 h3
                    exact ⟨h1, h2, h3⟩)
                  clear he
                  generalize O.getD k zeroN = x at hat1 heq HXO HE
                  generalize P.getD k zeroN = y at hat2 heq HYO HE
                  have HSX := Lib.hid (Nd.st HXO.out)
                  have HSY := Lib.hid (Nd.st HYO.out)
                  go_wp2_with fail
                  refine (hat1 _ _ ((HO.out.ext HX.out).rd)).mono ?_
                  rintro e w3 ⟨rfl, hx⟩
                  replace HX := Lib.hid (HX.out.trans hx)
                  clear hx
                  go_wp2_with fail
                  refine (hat2 _ (H'.out.ext (by decide) (XW.out.trans HX.out))).mono ?_
                  rintro e w4 ⟨rfl, hx⟩
                  replace HX := Lib.hid (HX.out.trans hx)
                  clear hx
                  go_wp2_with fail
                  go_wp2_with fail
                  refine (hat1 _ _ ((HO.out.ext HX.out).rd)).mono ?_
                  rintro e w3 ⟨rfl, hx⟩
                  replace HX := Lib.hid (HX.out.trans hx)
                  clear hx
                  go_wp2_with fail
                  refine (hat2 _ (H'.out.ext (by decide) (XW.out.trans HX.out))).mono ?_
                  rintro e w4 ⟨rfl, hx⟩
                  replace HX := Lib.hid (HX.out.trans hx)
                  clear hx
                  have C6 := Lib.hid (B6.out.ext HX.out)
                  have C7 := Lib.hid (B7.out.ext HX.out)
                  have CW := Lib.hid (XW.out.trans HX.out)
                  go_wp2_with (first
                    | (refine wpl_storeB C6.out aggNodeI HSX.out rfl rfl _ _ rfl rfl rfl rfl ?_)
                    | (refine wpl_storeB (C7.out.row_far hne' _) aggNodeI HSY.out rfl rfl _ _ rfl rfl rfl rfl ?_))
                  refine bodyPost_ret (results_bbt rfl _ rfl rfl aggNodeI HSX.out.size HSY.out.size ((C6.out.setRow _).row_far hne _) ((C7.out.row_far hne' _).setRow _) rfl) rfl ?_
                  exact ⟨by rw [HE.out.1, HE.out.2.1, HE.out.2.2]; rfl, (CW.out.setRow (Nat.le_refl _) _).setRow (Nat.le_succ _) _⟩
            | false =>
              obtain rfl : he = true := by cases he with
                | true => rfl
                | false => exact absurd rfl h3
              clear h3
              simp only [if_true, Bool.false_eq_true, if_false] at hg
              go_enter Try.func17, Try.ntmps17
              go_wp2_with fail
              refine (hc _ (H.out.ext (by decide) ((ext_alloc _ _).alloc _))).mono ?_
              rintro e w1 ⟨rfl, hx⟩
              have B6 := Lib.hid (((Blk.new w 31 _).alloc _).ext hx)
              have B7 := Lib.hid ((Blk.new' (g := w.heap.size + 1) (by simp) 31 _).ext hx)
              have XW := Lib.hid (((ext_alloc w _).alloc _).trans hx)
              clear hx
              go_wp2_with fail
              refine (hn _).mono ?_
              rintro e w' ⟨rfl, rfl⟩
              go_wp2_with fail
              refine (ha _ (H'.out.ext (by decide) XW.out)).mono ?_
              rintro e w2 ⟨rfl, hx⟩
              replace B6 := Lib.hid (B6.out.ext hx)
              replace B7 := Lib.hid (B7.out.ext hx)
              replace XW := Lib.hid (XW.out.trans hx)
              clear hx
              go_wp2_with fail
              refine (ht _ (H.out.ext (by decide) XW.out)).mono ?_
              rintro e w2 ⟨v2, rfl, htr, hx⟩
              replace B6 := Lib.hid (B6.out.ext hx)
              replace B7 := Lib.hid (B7.out.ext hx)
              replace XW := Lib.hid (XW.out.trans hx)
              have HT := Lib.hid htr
              clear hx htr
              go_wp2_with fail
              refine (treeKey_any T HTO.out _ _ HT.out).mono ?_
              rintro e w3 ⟨rfl, hx⟩
              replace B6 := Lib.hid (B6.out.ext hx)
              replace B7 := Lib.hid (B7.out.ext hx)
              replace XW := Lib.hid (XW.out.trans hx)
              clear hx HT
              go_wp2_with fail
              refine (hk _ (H'.out.ext (by decide) XW.out)).mono ?_
              rintro e w2 ⟨rfl, hx⟩
              replace B6 := Lib.hid (B6.out.ext hx)
              replace B7 := Lib.hid (B7.out.ext hx)
              replace XW := Lib.hid (XW.out.trans hx)
              clear hx
              go_wp2_with fail
              refine (hg _ (H.out.ext (by decide) XW.out)).mono ?_
              rintro e w2 ⟨rfl, hx⟩
              replace B6 := Lib.hid (B6.out.ext hx)
              replace B7 := Lib.hid (B7.out.ext hx)
              replace XW := Lib.hid (XW.out.trans hx)
              clear hx
              go_wp2_with fail
              refine (hp _ (H.out.ext (by decide) XW.out)).mono ?_
              rintro e w2 ⟨v6, rfl, ho, hx⟩
              replace B6 := Lib.hid (B6.out.ext hx)
              replace B7 := Lib.hid (B7.out.ext hx)
              replace XW := Lib.hid (XW.out.trans hx)
              have HO := Lib.hid ho
              obtain ⟨A6, q6, rfl⟩ := ho.shape
              clear ho hx
              go_wp2_with fail
              go_loopw [17] (fun i wr => ∃ k : Nat, k ≤ O.length ∧ k ≤ P.length ∧ i = .int .i64 k ∧ (∀ p, p < k → O.getD p zeroN = P.getD p zeroN) ∧ Ext w2 wr) (fun i _ => P.length - (intOf i).toNat)
              case atStart => exact ⟨0, by omega, by omega, rfl, fun p hp => by omega, Ext.refl _⟩
              case round =>
                obtain ⟨k, hk1, hk2, rfl, hm, hx⟩ := hrel
                have HX := Lib.hid hx
                have HM := Lib.hid hm
                clear hx hm
                have hat1 := fun W S1 (hW : RdL tNd W S1 (.slice A6 O.length q6) O) => clashAt_any (.slice A6 O.length q6) O k W S1 hW
                have hat2 := fun W hW => clashAt_any (.slice A' P.length cap') P k W S' hW
                have HXO := Lib.hid (getD_ok HOO.out k)
                have HYO := Lib.hid (getD_ok hokP.out k)
                by_cases he : O.getD k zeroN = P.getD k zeroN
                · obtain ⟨l1, l2⟩ := both FO.out FP.out NE.out k hk1 hk2 HM.out he
                  have HE := Lib.hid he
                  have hmx : (k : Int) < max (O.length : Int) (P.length : Int) := by omega
                  have heq : ∀ W, (binOp .eql 31 (.agg (O.getD k zeroN).enc.toArray) (.agg (P.getD k zeroN).enc.toArray)).run Try.prog W = .ok (.bool true) W := fun W => by rw [run_eqNd _ _ HXO.out HYO.out W, decide_eq_true he]
                  clear he
                  generalize hxx : O.getD k zeroN = x at hat1 heq HXO HE
                  generalize hyy : P.getD k zeroN = y at hat2 heq HYO HE
                  have HXX := Lib.hid hxx
                  have HYY := Lib.hid hyy
                  clear hxx hyy
                  go_wp2_with fail
                  refine (hat1 _ _ ((HO.out.ext HX.out).rd)).mono ?_
                  rintro e w3 ⟨rfl, hx⟩
                  replace HX := Lib.hid (HX.out.trans hx)
                  clear hx
                  go_wp2_with fail
                  refine (hat2 _ (H'.out.ext (by decide) (XW.out.trans HX.out))).mono ?_
                  rintro e w4 ⟨rfl, hx⟩
                  replace HX := Lib.hid (HX.out.trans hx)
                  clear hx
                  go_wp2
                  go_roundw
                  case rel => exact ⟨k + 1, by omega, by omega, by go_num, fun p hp => by
                    by_cases e : p = k
                    · subst e; rw [HXX.out, HYY.out]; exact HE.out
                    · exact HM.out p (by omega), HX.out⟩
                  case measure => simp [intOf]; omega
                · have heq : ∀ W, (binOp .eql 31 (.agg (O.getD k zeroN).enc.toArray) (.agg (P.getD k zeroN).enc.toArray)).run Try.prog W = .ok (.bool false) W := fun W => by rw [run_eqNd _ _ HXO.out HYO.out W, decide_eq_false he]
                  have HE := Lib.hid (show X = O.getD k zeroN ∧ Y = P.getD k zeroN ∧ c = 0 by
                    have h1 := HR.out.symm.trans HCL.out
                    rw [partN_eq O P k hk1 hk2 HM.out (.inr (.inr he))] at h1
                    injection h1 with h1 h2
                    injection h2 with h2 h3
                    exact ⟨h1, h2, h3⟩)
                  clear he
                  generalize O.getD k zeroN = x at hat1 heq HXO HE
                  generalize P.getD k zeroN = y at hat2 heq HYO HE
                  have HSX := Lib.hid (Nd.st HXO.out)
                  have HSY := Lib.hid (Nd.st HYO.out)
                  go_wp2_with fail
                  refine (hat1 _ _ ((HO.out.ext HX.out).rd)).mono ?_
                  rintro e w3 ⟨rfl, hx⟩
                  replace HX := Lib.hid (HX.out.trans hx)
                  clear hx
                  go_wp2_with fail
                  refine (hat2 _ (H'.out.ext (by decide) (XW.out.trans HX.out))).mono ?_
                  rintro e w4 ⟨rfl, hx⟩
                  replace HX := Lib.hid (HX.out.trans hx)
                  clear hx
                  go_wp2_with fail
                  go_wp2_with fail
                  refine (hat1 _ _ ((HO.out.ext HX.out).rd)).mono ?_
                  rintro e w3 ⟨rfl, hx⟩
                  replace HX := Lib.hid (HX.out.trans hx)
                  clear hx
                  go_wp2_with fail
                  refine (hat2 _ (H'.out.ext (by decide) (XW.out.trans HX.out))).mono ?_
                  rintro e w4 ⟨rfl, hx⟩
                  replace HX := Lib.hid (HX.out.trans hx)
                  clear hx
                  have C6 := Lib.hid (B6.out.ext HX.out)
                  have C7 := Lib.hid (B7.out.ext HX.out)
                  have CW := Lib.hid (XW.out.trans HX.out)
                  go_wp2_with (first
                    | (refine wpl_storeB C6.out aggNodeI HSX.out rfl rfl _ _ rfl rfl rfl rfl ?_)
                    | (refine wpl_storeB (C7.out.row_far hne' _) aggNodeI HSY.out rfl rfl _ _ rfl rfl rfl rfl ?_))
                  refine bodyPost_ret (results_bbt rfl _ rfl rfl aggNodeI HSX.out.size HSY.out.size ((C6.out.setRow _).row_far hne _) ((C7.out.row_far hne' _).setRow _) rfl) rfl ?_
                  exact ⟨by rw [HE.out.1, HE.out.2.1, HE.out.2.2]; rfl, (CW.out.setRow (Nat.le_refl _) _).setRow (Nat.le_succ _) _⟩
        · have e0 : clR L s P = (zeroN, zeroN, 4) := clR_off hall h0
          simp only [e0]
          obtain ⟨c1, c2, c3, hck⟩ : ∃ c1 c2 c3, chkR (trF L.length L).key s P = (c1, c2, c3) := ⟨_, _, _, rfl⟩
          simp only [hck] at hk h0
          have q3 : (c3 != 0) = true := by rw [bne_iff_ne]; exact h0
          obtain ⟨T, hT⟩ : ∃ T, trF L.length L = T := ⟨_, rfl⟩
          simp only [hT] at ht HTO hk
          clear e0 hck hb hb2 hb3 hokL hp hall hT hg h0
          go_enter Try.func17, Try.ntmps17
          go_wp2_with fail
          refine (hc _ (H.out.ext (by decide) ((ext_alloc _ _).alloc _))).mono ?_
          rintro e w1 ⟨rfl, hx⟩
          have B6 := Lib.hid (((Blk.new w 31 _).alloc _).ext hx)
          have B7 := Lib.hid ((Blk.new' (g := w.heap.size + 1) (by simp) 31 _).ext hx)
          have XW := Lib.hid (((ext_alloc w _).alloc _).trans hx)
          clear hx
          go_wp2_with fail
          refine (hn _).mono ?_
          rintro e w' ⟨rfl, rfl⟩
          go_wp2_with fail
          refine (ha _ (H'.out.ext (by decide) XW.out)).mono ?_
          rintro e w2 ⟨rfl, hx⟩
          replace B6 := Lib.hid (B6.out.ext hx)
          replace B7 := Lib.hid (B7.out.ext hx)
          replace XW := Lib.hid (XW.out.trans hx)
          clear hx
          go_wp2_with fail
          refine (ht _ (H.out.ext (by decide) XW.out)).mono ?_
          rintro e w2 ⟨v2, rfl, htr, hx⟩
          replace B6 := Lib.hid (B6.out.ext hx)
          replace B7 := Lib.hid (B7.out.ext hx)
          replace XW := Lib.hid (XW.out.trans hx)
          have HT := Lib.hid htr
          clear hx htr
          go_wp2_with fail
          refine (treeKey_any T HTO.out _ _ HT.out).mono ?_
          rintro e w3 ⟨rfl, hx⟩
          replace B6 := Lib.hid (B6.out.ext hx)
          replace B7 := Lib.hid (B7.out.ext hx)
          replace XW := Lib.hid (XW.out.trans hx)
          clear hx HT
          go_wp2_with fail
          refine (hk _ (H'.out.ext (by decide) XW.out)).mono ?_
          rintro e w2 ⟨rfl, hx⟩
          replace B6 := Lib.hid (B6.out.ext hx)
          replace B7 := Lib.hid (B7.out.ext hx)
          replace XW := Lib.hid (XW.out.trans hx)
          clear hx
          go_wp2_with (first
            | (refine wpl_buildN rfl rfl built_zero ?_)
            | (refine wpl_storeB B6.out aggNodeI HZ.out rfl rfl _ _ rfl rfl rfl rfl ?_)
            | (refine wpl_storeB (B7.out.row_far hne' _) aggNodeI HZ.out rfl rfl _ _ rfl rfl rfl rfl ?_))
          refine bodyPost_ret (results_bbt rfl _ rfl rfl aggNodeI HZ.out.size HZ.out.size ((B6.out.setRow _).row_far hne _) ((B7.out.row_far hne' _).setRow _) rfl) rfl ?_
          exact ⟨rfl, (XW.out.setRow (Nat.le_refl _) _).setRow (Nat.le_succ _) _⟩
end Go.Proofs.Ytmndkbheehcoaaa
/- The nodes of a map, as they are asked for. No condition. -/
namespace Go.Proofs.Ytmndkbheehcoaaa
open Go.RowKit
set_option linter.unusedVariables false
set_option linter.unusedSimpArgs false

/-- the nodes of a map, and the code -/
def nodR (L : List En) : List Nd × Int := if okE L then ((trF L.length L).all, 0) else ([], 1)
theorem nodR_len (L : List En) : (nodR L).1.length ≤ 64 := by
  unfold nodR
  split
  · rename_i h
    exact Nat.le_trans (trF_len _ _) (okE_incs' h).2
  · exact Nat.zero_le _
set_option maxHeartbeats 1000000 in
set_option maxRecDepth 100000 in
theorem specNodesOfMap_any (v : Value) (L : List En) (w : World) (S : Nat → Prop) (h : RdL tEnt w S v L) :
    Calls Try.prog 37 #[v] w fun e w' => ∃ v', e = .returned (.tuple #[v', .int .i64 (nodR L).2]) ∧ Own tNd 31 w' w.heap.size v' (nodR L).1 ∧ Ext w w' := by
  have H := Lib.hid h
  have hokL := h.choose_spec.choose_spec.2.2.2.2
  have hc := l04Ok_any v L w S h
  have hp := fun (hb : okE L = true) W hW => l04Nodes_any L.length v L (Nat.le_refl _) (okE_incs' hb).2 (good_of hb hokL) W S hW
  obtain ⟨A, cap, rfl, hcap, hlen, _⟩ := h
  cases hb : okE L with
  | false =>
    simp only [nodR, hb, Bool.false_eq_true, if_false]
    simp only [hb] at hc
    clear hb hp
    go_enter Try.func37, Try.ntmps37
    go_wp2_with fail
    refine hc.mono ?_
    rintro e w1 ⟨rfl, hx⟩
    have HX := Lib.hid hx
    clear hx
    go_wp2
    go_ret2
    exact ⟨_, rfl, Own.empty tNd _ 31 _ HX.out.size, HX.out.alloc _⟩
  | true =>
    simp only [hb] at hc
    replace hp := hp hb
    simp only [nodR, hb, if_true]
    have HKK := Lib.hid (trF L.length L).key_ok.1
    clear hb
    go_enter Try.func37, Try.ntmps37
    go_wp2_with fail
    refine hc.mono ?_
    rintro e w1 ⟨rfl, hx⟩
    have HX := Lib.hid hx
    clear hx
    go_wp2_with fail
    refine (hp _ (H.out.ext (by decide) HX.out)).mono ?_
    rintro e w2 ⟨v2, rfl, ho, hx⟩
    have HO := Lib.hid (ho.le (base' := w.heap.size) HX.out.size)
    have HX2 := Lib.hid (HX.out.trans hx)
    obtain ⟨A2, n2, c2, rfl⟩ := ho.shape3
    clear ho hx
    go_wp2_with (refine wpl_storeNew aggKey HKK.out rfl rfl _ _ rfl rfl rfl rfl ?_)
    go_ret2
    exact ⟨_, rfl, HO.out.alloc _, HX2.out.alloc _⟩
set_option maxHeartbeats 1000000 in
set_option maxRecDepth 100000 in
theorem implNodesOfMap_any (v : Value) (L : List En) (w : World) (S : Nat → Prop) (h : RdL tEnt w S v L) :
    Calls Try.prog 36 #[v] w fun e w' => ∃ v', e = .returned (.tuple #[v', .int .i64 (nodR L).2]) ∧ Own tNd 31 w' w.heap.size v' (nodR L).1 ∧ Ext w w' := by
  have H := Lib.hid h
  have hokL := h.choose_spec.choose_spec.2.2.2.2
  have hc := validEntries_any v L w S h
  have hp := fun (hb : okE L = true) W hW => allNodes_any v L (okE_incs' hb).2 (good_of hb hokL) W S hW
  obtain ⟨A, cap, rfl, hcap, hlen, _⟩ := h
  cases hb : okE L with
  | false =>
    simp only [nodR, hb, Bool.false_eq_true, if_false]
    simp only [hb] at hc
    clear hb hp
    go_enter Try.func36, Try.ntmps36
    go_wp2_with fail
    refine hc.mono ?_
    rintro e w1 ⟨rfl, hx⟩
    have HX := Lib.hid hx
    clear hx
    go_wp2
    go_ret2
    exact ⟨_, rfl, Own.nil _ _ _ _, HX.out⟩
  | true =>
    simp only [hb] at hc
    replace hp := hp hb
    simp only [nodR, hb, if_true]
    have HKK := Lib.hid (trF L.length L).key_ok.1
    clear hb
    go_enter Try.func36, Try.ntmps36
    go_wp2_with fail
    refine hc.mono ?_
    rintro e w1 ⟨rfl, hx⟩
    have HX := Lib.hid hx
    clear hx
    go_wp2_with fail
    refine (hp _ (H.out.ext (by decide) HX.out)).mono ?_
    rintro e w2 ⟨v2, rfl, ho, hx⟩
    have HO := Lib.hid (ho.le (base' := w.heap.size) HX.out.size)
    have HX2 := Lib.hid (HX.out.trans hx)
    obtain ⟨A2, n2, c2, rfl⟩ := ho.shape3
    clear ho hx
    go_wp2
    go_ret2
    exact ⟨_, rfl, HO.out, HX2.out⟩
end Go.Proofs.Ytmndkbheehcoaaa
/- How deep a name lies. No condition. -/
namespace Go.Proofs.Ytmndkbheehcoaaa
open Go.RowKit
set_option linter.unusedVariables false
set_option linter.unusedSimpArgs false

/-- how deep a name lies, and the code -/
def depR (L : List En) (s : ByteArray) : Int × Int := if okE L && nameB s then (if hasE L s then ((((trF L.length L).sel (fun o => ltB s o) (fun o => ltB o s)).length : Nat), 0) else (0, 6)) else (0, 1)
theorem sizeNd_any (A : Option Addr) (n c : Nat) (w : World) : Calls Try.prog 107 #[.slice A n c] w fun e w' => e = .returned (.int .i64 n) ∧ w = w' := by
  go_enter Try.func107, Try.ntmps107
  go_wp2
  go_ret
  exact ⟨rfl, rfl⟩
set_option maxHeartbeats 1000000 in
set_option maxRecDepth 100000 in
theorem implDepth_any (v : Value) (L : List En) (s : ByteArray) (hsz : s.size ≤ 140737488351232) (w : World) (S : Nat → Prop) (h : RdL tEnt w S v L) :
    Calls Try.prog 46 #[v, .string s] w fun e w' => e = .returned (.tuple #[.int .i64 (depR L s).1, .int .i64 (depR L s).2]) ∧ Ext w w' := by
  have H := Lib.hid h
  have hokL := h.choose_spec.choose_spec.2.2.2.2
  have hg := implGetEntry_any v L s hsz w S h
  have hp := fun (hb : okE L = true) W hW => path_any v L s (okE_incs' hb).2 (good_of hb hokL) W S hW
  obtain ⟨A, cap, rfl, hcap, hlen, _⟩ := h
  cases hb : (okE L && nameB s && hasE L s) with
  | false =>
    obtain ⟨c, hc0, e1, e2⟩ : ∃ c : Int, (c != 0) = true ∧ depR L s = (0, c) ∧ (getR L s).2 = c := by
      cases h1 : (okE L && nameB s) with
      | false => exact ⟨1, rfl, by rw [depR, h1]; rfl, by rw [getR, h1]; rfl⟩
      | true =>
        rw [h1, Bool.true_and] at hb
        exact ⟨6, rfl, by rw [depR, h1, hb]; rfl, by rw [getR, h1, hb]; rfl⟩
    rw [e1]
    simp only [e2] at hg
    clear e1 e2 hb hp
    go_enter Try.func46, Try.ntmps46
    go_wp2_with fail
    refine hg.mono ?_
    rintro e w1 ⟨rfl, hx⟩
    have HX := Lib.hid hx
    clear hx
    go_wp2
    go_ret2
    exact ⟨rfl, HX.out⟩
  | true =>
    simp only [Bool.and_eq_true] at hb
    obtain ⟨⟨h1, h2⟩, h3⟩ := hb
    replace hp := hp h1
    obtain ⟨R, hR⟩ : ∃ R, (trF L.length L).sel (fun o => ltB s o) (fun o => ltB o s) = R := ⟨_, rfl⟩
    simp only [hR] at hp
    have e1 : depR L s = (((R.length : Nat) : Int), 0) := by rw [depR, h1, h2, h3, hR]; rfl
    have e2 : (getR L s).2 = 0 := by rw [getR, h1, h2, h3]; rfl
    rw [e1]
    simp only [e2] at hg
    clear e1 e2 h1 h2 h3 hR
    go_enter Try.func46, Try.ntmps46
    go_wp2_with fail
    refine hg.mono ?_
    rintro e w1 ⟨rfl, hx⟩
    have HX := Lib.hid hx
    clear hx
    go_wp2_with fail
    refine (hp _ (H.out.ext (by decide) HX.out)).mono ?_
    rintro e w2 ⟨v2, rfl, ho, hx⟩
    have HX2 := Lib.hid (HX.out.trans hx)
    obtain ⟨A2, c2, rfl⟩ := ho.shape
    clear ho hx hg hp
    go_wp2_with fail
    refine (sizeNd_any _ _ _ _).mono ?_
    rintro e w' ⟨rfl, rfl⟩
    go_wp2
    go_ret2
    exact ⟨rfl, HX2.out⟩
end Go.Proofs.Ytmndkbheehcoaaa
