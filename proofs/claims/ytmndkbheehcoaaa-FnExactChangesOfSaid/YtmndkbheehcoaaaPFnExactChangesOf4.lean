/- What the walk of the law FnExactChangesOf needs, part 4 of 5. No condition. -/
import Derived.Test.YtmndkbheehcoaaaPFnExactChangesOf3
/- The changes between two maps: the reference. No condition. -/
namespace Go.Proofs.Ytmndkbheehcoaaa
open Go.RowKit
set_option linter.unusedVariables false
set_option linter.unusedSimpArgs false

set_option maxHeartbeats 1000000 in
set_option maxRecDepth 100000 in
theorem l04Changes_any (v u : Value) (a b : List En) (h64a : a.length ≤ 64) (h64b : b.length ≤ 64) (w : World) (S S' : Nat → Prop) (h : RdL tEnt w S v a) (h' : RdL tEnt w S' u b) :
    Calls Try.prog 95 #[v, u] w fun e w' => ∃ v', e = .returned v' ∧ Own tChg 90 w' w.heap.size v' (chgI a b 0 0) ∧ Ext w w' := by
  obtain ⟨A, capa, rfl, hcapa, hlena, hrda, hoka⟩ := h
  obtain ⟨B, capb, rfl, hcapb, hlenb, hrdb, hokb⟩ := h'
  have HRa := Lib.hid hrda
  have HRb := Lib.hid hrdb
  have HKa := Lib.hid hoka
  have HKb := Lib.hid hokb
  obtain ⟨R, hR⟩ : ∃ R, chgI a b 0 0 = R := ⟨_, rfl⟩
  rw [hR]
  have HR := Lib.hid hR
  clear hrda hrdb hoka hokb hR
  go_enter Try.func95, Try.ntmps95
  go_wp2_with fail
  go_loopw [5, 6, 7] (fun o ii kk wr => ∃ (i k : Nat) (done : List Chg), i ≤ a.length ∧ k ≤ b.length ∧ ii = .int .i64 i ∧ kk = .int .i64 k ∧ Own tChg 90 wr w.heap.size o done ∧ done ++ chgI a b i k = R ∧ done.length ≤ i + k ∧ Ext w wr) (fun _ ii kk _ => a.length - (intOf ii).toNat + (b.length - (intOf kk).toNat))
  case atStart => exact ⟨0, 0, [], by omega, by omega, rfl, rfl, Own.empty tChg _ 90 _ (Nat.le_refl _), HR.out, by simp, ext_alloc _ _⟩
  case round =>
    obtain ⟨i, k, done, hi, hk, rfl, rfl, ho, hd, hl, hx⟩ := hrel
    obtain ⟨C, cn, cc, rfl⟩ := ho.shape3
    have HX := Lib.hid hx
    have HO := Lib.hid ho
    have HD := Lib.hid hd
    have HL := Lib.hid (show done.length ≤ 128 by omega)
    have HLL := Lib.hid hl
    clear hx ho hd hl HR
    by_cases ha : i < a.length
    · by_cases hb : k < b.length
      · obtain ⟨ga, oa, hpa, _, hca⟩ := HRa.out.elem HKa.out i ha
        obtain rfl := hpa
        have a0 : ∀ W, Ext w W → W.cell? ⟨ga, oa + i * 2, none⟩ = some (.string a[i].1) := fun W hW => hW.cell (hca 0 _ rfl)
        have a1 : ∀ W, Ext w W → W.cell? ⟨ga, oa + i * 2 + 1, none⟩ = some (.string a[i].2) := fun W hW => hW.cell (hca 1 _ rfl)
        have hao : tEnt.ok a[i] := HKa.out _ (List.getElem_mem ha)
        have a0r := a0 _ HX.out
        have a1r := a1 _ HX.out
        clear hca
        obtain ⟨gb, ob, hpb, _, hcb⟩ := HRb.out.elem HKb.out k hb
        obtain rfl := hpb
        have b0 : ∀ W, Ext w W → W.cell? ⟨gb, ob + k * 2, none⟩ = some (.string b[k].1) := fun W hW => hW.cell (hcb 0 _ rfl)
        have b1 : ∀ W, Ext w W → W.cell? ⟨gb, ob + k * 2 + 1, none⟩ = some (.string b[k].2) := fun W hW => hW.cell (hcb 1 _ rfl)
        have hbo : tEnt.ok b[k] := HKb.out _ (List.getElem_mem hb)
        have b0r := b0 _ HX.out
        have b1r := b1 _ HX.out
        clear hcb
        have hi1 : (i : Int) < (a.length : Int) := by omega
        have hi0 : (0 : Int) ≤ (i : Int) := by omega
        have hk1 : (k : Int) < (b.length : Int) := by omega
        have hk0 : (0 : Int) ≤ (k : Int) := by omega
        have hke : ((k : Int) == (b.length : Int)) = false := by rw [beq_eq_false_iff_ne]; omega
        have hie : ((i : Int) == (a.length : Int)) = false := by rw [beq_eq_false_iff_ne]; omega
        have q1 := ltB_eq a[i].1 b[k].1
        have q2 := ltB_eq b[k].1 a[i].1
        cases h1 : ltB a[i].1 b[k].1 with
        | true =>
          rw [h1] at q1
          have HCO := Lib.hid (show tChg.ok (⟨a[i].1, true, a[i].2, false, ⟨#[]⟩⟩ : Chg) from ⟨hao.1, hao.2, by show (0 : Nat) ≤ 140737488351232; decide⟩)
          have HN := Lib.hid (chgI_del ha hk (fun _ => h1))
          go_wp2_with fail
          go_quiet (fail)
          go_wp2_with fail
          refine wp_world (w0 := wr) ((Drawn.refl _).drewN _) (fun wq hwq => ?_)
          have HXq := Lib.hid (HX.out.trans hwq.ext)
          have HOq := Lib.hid (HO.out.ext hwq.ext)
          clear hwq
          refine wp_region_held_drew (S := fun W => Ext w W) (by kernel_rfl) HXq.out.drew (fun hHeld => ?_)
          have HOz := Lib.hid (show Own tChg 90 wq.drew w.heap.size (.slice C cn cc) done from HOq.out)
          generalize wq.drew = wz at hHeld HOz ⊢
          refine wpAnyH_take (i := 0) (oi := ?oiz1) (v := ?vz1) ?hiz1 (by kernel_rfl) (by kernel_rfl) (by kernel_rfl) ?hQz1 ?hyz1 (by assumption) ?restz1
          case hiz1 => simp only [List.getElem?_toArray, List.getElem?_cons_zero, List.getElem?_cons_succ]; rfl
          case hQz1 => exact fun _ _ _ h => h
          case hyz1 => exact Or.inl ⟨by rfl, by intro w hSw; (try dsimp only at hSw); go_simp; with_reducible rfl⟩
          try simp only [Act.put, List.setIfInBounds_toArray, List.set_cons_zero, List.set_cons_succ]
          refine wpAnyH_take (i := 1) (oi := ?oiz2) (v := ?vz2) ?hiz2 (by kernel_rfl) (by kernel_rfl) (by kernel_rfl) ?hQz2 ?hyz2 (by assumption) ?restz2
          case hiz2 => simp only [List.getElem?_toArray, List.getElem?_cons_zero, List.getElem?_cons_succ]; rfl
          case hQz2 => exact fun _ _ _ h => h
          case hyz2 => exact Or.inl ⟨by rfl, by intro w hSw; (try dsimp only at hSw); go_simp; with_reducible rfl⟩
          try simp only [Act.put, List.setIfInBounds_toArray, List.set_cons_zero, List.set_cons_succ]
          refine wpAnyH_take (i := 2) (oi := ?oiz3) (v := ?vz3) ?hiz3 (by kernel_rfl) (by kernel_rfl) (by kernel_rfl) ?hQz3 ?hyz3 (by assumption) ?restz3
          case hiz3 => simp only [List.getElem?_toArray, List.getElem?_cons_zero, List.getElem?_cons_succ]; rfl
          case hQz3 => exact fun _ _ _ h => h
          case hyz3 => exact Or.inl ⟨by rfl, by intro w hSw; (try dsimp only at hSw); go_simp; with_reducible rfl⟩
          try simp only [Act.put, List.setIfInBounds_toArray, List.set_cons_zero, List.set_cons_succ]
          refine wpAnyH_take (i := 3) (oi := ?oiz4) (v := ?vz4) ?hiz4 (by kernel_rfl) (by kernel_rfl) (by kernel_rfl) ?hQz4 ?hyz4 (by assumption) ?restz4
          case hiz4 => simp only [List.getElem?_toArray, List.getElem?_cons_zero, List.getElem?_cons_succ]; rfl
          case hQz4 => exact fun _ _ _ h => h
          case hyz4 => exact Or.inl ⟨by rfl, by intro w hSw; (try dsimp only at hSw); go_simp; with_reducible rfl⟩
          try simp only [Act.put, List.setIfInBounds_toArray, List.set_cons_zero, List.set_cons_succ]
          refine wpAnyH_take (i := 4) (oi := ?oiz5) (v := ?vz5) ?hiz5 (by kernel_rfl) (by kernel_rfl) (by kernel_rfl) ?hQz5 ?hyz5 (by assumption) ?restz5
          case hiz5 => simp only [List.getElem?_toArray, List.getElem?_cons_zero, List.getElem?_cons_succ]; rfl
          case hQz5 => exact fun _ _ _ h => h
          case hyz5 => exact Or.inl ⟨by rfl, by intro w hSw; (try dsimp only at hSw); go_simp; with_reducible rfl⟩
          try simp only [Act.put, List.setIfInBounds_toArray, List.set_cons_zero, List.set_cons_succ]
          refine wpAnyH_take (i := 5) (oi := ?oiz6) (v := ?vz6) ?hiz6 (by kernel_rfl) (by kernel_rfl) (by kernel_rfl) ?hQz6 ?hyz6 (by assumption) ?restz6
          case hiz6 => simp only [List.getElem?_toArray, List.getElem?_cons_zero, List.getElem?_cons_succ]; rfl
          case hQz6 => exact fun _ _ _ h => h
          case hyz6 => exact Or.inl ⟨by rfl, by intro w hSw; (try dsimp only at hSw); go_simp; with_reducible rfl⟩
          try simp only [Act.put, List.setIfInBounds_toArray, List.set_cons_zero, List.set_cons_succ]
          refine wpAnyH_take (i := 6) (oi := ?oiz7) (v := ?vz7) ?hiz7 (by kernel_rfl) (by kernel_rfl) (by kernel_rfl) ?hQz7 ?hyz7 (by assumption) ?restz7
          case hiz7 => simp only [List.getElem?_toArray, List.getElem?_cons_zero, List.getElem?_cons_succ]; rfl
          case hQz7 => exact fun _ _ _ h => h
          case hyz7 => exact Or.inl ⟨by rfl, by intro w hSw; (try dsimp only at hSw); go_simp; with_reducible rfl⟩
          try simp only [Act.put, List.setIfInBounds_toArray, List.set_cons_zero, List.set_cons_succ]
          refine wpAnyH_take (i := 7) (oi := ?oiz8) (v := ?vz8) ?hiz8 (by kernel_rfl) (by kernel_rfl) (by kernel_rfl) ?hQz8 ?hyz8 (by assumption) ?restz8
          case hiz8 => simp only [List.getElem?_toArray, List.getElem?_cons_zero, List.getElem?_cons_succ]; rfl
          case hQz8 => exact fun _ _ _ h => h
          case hyz8 => exact Or.inl ⟨by rfl, by intro w hSw; (try dsimp only at hSw); go_simp; with_reducible rfl⟩
          try simp only [Act.put, List.setIfInBounds_toArray, List.set_cons_zero, List.set_cons_succ]
          refine wpAnyH_take (i := 8) (oi := ?oiz9) (v := ?vz9) ?hiz9 (by kernel_rfl) (by kernel_rfl) (by kernel_rfl) ?hQz9 ?hyz9 (by assumption) ?restz9
          case hiz9 => simp only [List.getElem?_toArray, List.getElem?_cons_zero, List.getElem?_cons_succ]; rfl
          case hQz9 => exact fun _ _ _ h => h
          case hyz9 => exact Or.inl ⟨by rfl, by intro w hSw; (try dsimp only at hSw); go_simp; with_reducible rfl⟩
          try simp only [Act.put, List.setIfInBounds_toArray, List.set_cons_zero, List.set_cons_succ]
          refine wpAnyH_take (i := 9) (oi := ?oiz10) (v := ?vz10) ?hiz10 (by kernel_rfl) (by kernel_rfl) (by kernel_rfl) ?hQz10 ?hyz10 (by assumption) ?restz10
          case hiz10 => simp only [List.getElem?_toArray, List.getElem?_cons_zero, List.getElem?_cons_succ]; rfl
          case hQz10 => exact fun _ _ _ h => h
          case hyz10 => exact Or.inl ⟨by rfl, by intro w hSw; (try dsimp only at hSw); go_simp; with_reducible rfl⟩
          try simp only [Act.put, List.setIfInBounds_toArray, List.set_cons_zero, List.set_cons_succ]
          refine wpAnyH_take (i := 10) (oi := ?oiz11) (v := ?vz11) ?hiz11 (by kernel_rfl) (by kernel_rfl) (by kernel_rfl) ?hQz11 ?hyz11 (by assumption) ?restz11
          case hiz11 => simp only [List.getElem?_toArray, List.getElem?_cons_zero, List.getElem?_cons_succ]; rfl
          case hQz11 => exact fun _ _ _ h => h
          case hyz11 => exact Or.inl ⟨by rfl, by intro w hSw; (try dsimp only at hSw); go_simp; with_reducible rfl⟩
          try simp only [Act.put, List.setIfInBounds_toArray, List.set_cons_zero, List.set_cons_succ]
          refine wpAnyH_take (i := 11) (oi := ?oiz12) (v := ?vz12) ?hiz12 (by kernel_rfl) (by kernel_rfl) (by kernel_rfl) ?hQz12 ?hyz12 (by assumption) ?restz12
          case hiz12 => simp only [List.getElem?_toArray, List.getElem?_cons_zero, List.getElem?_cons_succ]; rfl
          case hQz12 => exact fun _ _ _ h => h
          case hyz12 => exact Or.inl ⟨by rfl, by intro w hSw; (try dsimp only at hSw); go_simp; with_reducible rfl⟩
          try simp only [Act.put, List.setIfInBounds_toArray, List.set_cons_zero, List.set_cons_succ]
          refine wpAnyH_ready (rs := [12]) (by kernel_rfl) (by simp) (AllReadyH.cons (o := ?oy1312) ?hy1312 (fun K hK => ?sy1312) AllReadyH.nil)
          case hy1312 => simp only [List.getElem?_toArray, List.getElem?_cons_zero, List.getElem?_cons_succ]; rfl
          go_simp
          have hH2 := hHeld.alloc (.cells (tChg.enc (⟨a[i].1, true, a[i].2, false, ⟨#[]⟩⟩ : Chg)).toArray 90)
          refine hK.out _ _ hH2 (fun _ => ?_)
          clear hK K hH2
          try simp only [Act.put, List.setIfInBounds_toArray, List.set_cons_zero, List.set_cons_succ]
          refine wpAnyH_ready (rs := [13]) (by kernel_rfl) (by simp) (AllReadyH.cons (o := ?oy1413) ?hy1413 (fun K hK => ?sy1413) AllReadyH.nil)
          case hy1413 => simp only [List.getElem?_toArray, List.getElem?_cons_zero, List.getElem?_cons_succ]; rfl
          refine stp_append rowChg rfl _ _ rfl (v := .slice C cn cc) rfl (HOz.out.alloc (.cells (tChg.enc (⟨a[i].1, true, a[i].2, false, ⟨#[]⟩⟩ : Chg)).toArray 90)) _ _ rfl (A := some ⟨wz.heap.size, 0, none⟩) (ys := [(⟨a[i].1, true, a[i].2, false, ⟨#[]⟩⟩ : Chg)]) rfl (rd_one (T := tChg) wz (⟨a[i].1, true, a[i].2, false, ⟨#[]⟩⟩ : Chg) HCO.out _) (by intro y hy; obtain rfl := List.mem_singleton.1 hy; exact HCO.out) (by have := HL.out; simp only [List.length_singleton]; omega) (hHeld.alloc _).size ?_
          intro v9 w9 ho1 hg1 hat1
          obtain ⟨C9, n9, c9, rfl⟩ := ho1.shape3
          have hH2 := (HOz.out.alloc (.cells (tChg.enc (⟨a[i].1, true, a[i].2, false, ⟨#[]⟩⟩ : Chg)).toArray 90)).ext_app (hHeld.alloc _) hg1
          refine hK.out _ _ hH2 (fun _ => ?_)
          have HO9 := Lib.hid ho1
          have HX9 := Lib.hid hH2
          clear hK K ho1 hg1 hat1 hH2 hHeld HOz
          try simp only [Act.put, List.setIfInBounds_toArray, List.set_cons_zero, List.set_cons_succ]
          refine wpAnyH_take (i := 14) (oi := ?oiz15) (v := ?vz15) ?hiz15 (by kernel_rfl) (by kernel_rfl) (by kernel_rfl) ?hQz15 ?hyz15 (by assumption) ?restz15
          case hiz15 => simp only [List.getElem?_toArray, List.getElem?_cons_zero, List.getElem?_cons_succ]; rfl
          case hQz15 => exact fun _ _ _ h => h
          case hyz15 => exact Or.inl ⟨by rfl, by intro w hSw; (try dsimp only at hSw); go_simp; with_reducible rfl⟩
          try simp only [Act.put, List.setIfInBounds_toArray, List.set_cons_zero, List.set_cons_succ]
          refine wpAnyH_done (by kernel_rfl) ?_ _
          go_wp2
          go_roundw
          case rel => exact ⟨i + 1, k, _, by omega, by omega, by go_num, by go_num, HO9.out, by rw [List.append_assoc, List.singleton_append, ← HN.out]; exact HD.out, by have := HLL.out; simp only [List.length_append, List.length_singleton]; omega, HX9.out⟩
          case measure => simp [intOf]; omega
        | false =>
          rw [h1] at q1
          cases h2 : ltB b[k].1 a[i].1 with
          | true =>
            rw [h2] at q2
            have HCO := Lib.hid (show tChg.ok (⟨b[k].1, false, ⟨#[]⟩, true, b[k].2⟩ : Chg) from ⟨hbo.1, by show (0 : Nat) ≤ 140737488351232; decide, hbo.2⟩)
            have HN := Lib.hid (chgI_add hi hb (fun _ => h2))
            go_wp2_with fail
            go_quiet (fail)
            go_wp2_with fail
            go_quiet (fail)
            go_wp2_with fail
            refine wp_world (w0 := wr) (((Drawn.refl _).drewN _).drewN _) (fun wq hwq => ?_)
            have HXq := Lib.hid (HX.out.trans hwq.ext)
            have HOq := Lib.hid (HO.out.ext hwq.ext)
            clear hwq
            refine wp_region_held_drew (S := fun W => Ext w W) (by kernel_rfl) HXq.out.drew (fun hHeld => ?_)
            have HOz := Lib.hid (show Own tChg 90 wq.drew w.heap.size (.slice C cn cc) done from HOq.out)
            generalize wq.drew = wz at hHeld HOz ⊢
            refine wpAnyH_take (i := 0) (oi := ?oiz16) (v := ?vz16) ?hiz16 (by kernel_rfl) (by kernel_rfl) (by kernel_rfl) ?hQz16 ?hyz16 (by assumption) ?restz16
            case hiz16 => simp only [List.getElem?_toArray, List.getElem?_cons_zero, List.getElem?_cons_succ]; rfl
            case hQz16 => exact fun _ _ _ h => h
            case hyz16 => exact Or.inl ⟨by rfl, by intro w hSw; (try dsimp only at hSw); go_simp; with_reducible rfl⟩
            try simp only [Act.put, List.setIfInBounds_toArray, List.set_cons_zero, List.set_cons_succ]
            refine wpAnyH_take (i := 1) (oi := ?oiz17) (v := ?vz17) ?hiz17 (by kernel_rfl) (by kernel_rfl) (by kernel_rfl) ?hQz17 ?hyz17 (by assumption) ?restz17
            case hiz17 => simp only [List.getElem?_toArray, List.getElem?_cons_zero, List.getElem?_cons_succ]; rfl
            case hQz17 => exact fun _ _ _ h => h
            case hyz17 => exact Or.inl ⟨by rfl, by intro w hSw; (try dsimp only at hSw); go_simp; with_reducible rfl⟩
            try simp only [Act.put, List.setIfInBounds_toArray, List.set_cons_zero, List.set_cons_succ]
            refine wpAnyH_take (i := 2) (oi := ?oiz18) (v := ?vz18) ?hiz18 (by kernel_rfl) (by kernel_rfl) (by kernel_rfl) ?hQz18 ?hyz18 (by assumption) ?restz18
            case hiz18 => simp only [List.getElem?_toArray, List.getElem?_cons_zero, List.getElem?_cons_succ]; rfl
            case hQz18 => exact fun _ _ _ h => h
            case hyz18 => exact Or.inl ⟨by rfl, by intro w hSw; (try dsimp only at hSw); go_simp; with_reducible rfl⟩
            try simp only [Act.put, List.setIfInBounds_toArray, List.set_cons_zero, List.set_cons_succ]
            refine wpAnyH_take (i := 3) (oi := ?oiz19) (v := ?vz19) ?hiz19 (by kernel_rfl) (by kernel_rfl) (by kernel_rfl) ?hQz19 ?hyz19 (by assumption) ?restz19
            case hiz19 => simp only [List.getElem?_toArray, List.getElem?_cons_zero, List.getElem?_cons_succ]; rfl
            case hQz19 => exact fun _ _ _ h => h
            case hyz19 => exact Or.inl ⟨by rfl, by intro w hSw; (try dsimp only at hSw); go_simp; with_reducible rfl⟩
            try simp only [Act.put, List.setIfInBounds_toArray, List.set_cons_zero, List.set_cons_succ]
            refine wpAnyH_take (i := 4) (oi := ?oiz20) (v := ?vz20) ?hiz20 (by kernel_rfl) (by kernel_rfl) (by kernel_rfl) ?hQz20 ?hyz20 (by assumption) ?restz20
            case hiz20 => simp only [List.getElem?_toArray, List.getElem?_cons_zero, List.getElem?_cons_succ]; rfl
            case hQz20 => exact fun _ _ _ h => h
            case hyz20 => exact Or.inl ⟨by rfl, by intro w hSw; (try dsimp only at hSw); go_simp; with_reducible rfl⟩
            try simp only [Act.put, List.setIfInBounds_toArray, List.set_cons_zero, List.set_cons_succ]
            refine wpAnyH_take (i := 5) (oi := ?oiz21) (v := ?vz21) ?hiz21 (by kernel_rfl) (by kernel_rfl) (by kernel_rfl) ?hQz21 ?hyz21 (by assumption) ?restz21
            case hiz21 => simp only [List.getElem?_toArray, List.getElem?_cons_zero, List.getElem?_cons_succ]; rfl
            case hQz21 => exact fun _ _ _ h => h
            case hyz21 => exact Or.inl ⟨by rfl, by intro w hSw; (try dsimp only at hSw); go_simp; with_reducible rfl⟩
            try simp only [Act.put, List.setIfInBounds_toArray, List.set_cons_zero, List.set_cons_succ]
            refine wpAnyH_take (i := 6) (oi := ?oiz22) (v := ?vz22) ?hiz22 (by kernel_rfl) (by kernel_rfl) (by kernel_rfl) ?hQz22 ?hyz22 (by assumption) ?restz22
            case hiz22 => simp only [List.getElem?_toArray, List.getElem?_cons_zero, List.getElem?_cons_succ]; rfl
            case hQz22 => exact fun _ _ _ h => h
            case hyz22 => exact Or.inl ⟨by rfl, by intro w hSw; (try dsimp only at hSw); go_simp; with_reducible rfl⟩
            try simp only [Act.put, List.setIfInBounds_toArray, List.set_cons_zero, List.set_cons_succ]
            refine wpAnyH_take (i := 7) (oi := ?oiz23) (v := ?vz23) ?hiz23 (by kernel_rfl) (by kernel_rfl) (by kernel_rfl) ?hQz23 ?hyz23 (by assumption) ?restz23
            case hiz23 => simp only [List.getElem?_toArray, List.getElem?_cons_zero, List.getElem?_cons_succ]; rfl
            case hQz23 => exact fun _ _ _ h => h
            case hyz23 => exact Or.inl ⟨by rfl, by intro w hSw; (try dsimp only at hSw); go_simp; with_reducible rfl⟩
            try simp only [Act.put, List.setIfInBounds_toArray, List.set_cons_zero, List.set_cons_succ]
            refine wpAnyH_take (i := 8) (oi := ?oiz24) (v := ?vz24) ?hiz24 (by kernel_rfl) (by kernel_rfl) (by kernel_rfl) ?hQz24 ?hyz24 (by assumption) ?restz24
            case hiz24 => simp only [List.getElem?_toArray, List.getElem?_cons_zero, List.getElem?_cons_succ]; rfl
            case hQz24 => exact fun _ _ _ h => h
            case hyz24 => exact Or.inl ⟨by rfl, by intro w hSw; (try dsimp only at hSw); go_simp; with_reducible rfl⟩
            try simp only [Act.put, List.setIfInBounds_toArray, List.set_cons_zero, List.set_cons_succ]
            refine wpAnyH_take (i := 9) (oi := ?oiz25) (v := ?vz25) ?hiz25 (by kernel_rfl) (by kernel_rfl) (by kernel_rfl) ?hQz25 ?hyz25 (by assumption) ?restz25
            case hiz25 => simp only [List.getElem?_toArray, List.getElem?_cons_zero, List.getElem?_cons_succ]; rfl
            case hQz25 => exact fun _ _ _ h => h
            case hyz25 => exact Or.inl ⟨by rfl, by intro w hSw; (try dsimp only at hSw); go_simp; with_reducible rfl⟩
            try simp only [Act.put, List.setIfInBounds_toArray, List.set_cons_zero, List.set_cons_succ]
            refine wpAnyH_take (i := 10) (oi := ?oiz26) (v := ?vz26) ?hiz26 (by kernel_rfl) (by kernel_rfl) (by kernel_rfl) ?hQz26 ?hyz26 (by assumption) ?restz26
            case hiz26 => simp only [List.getElem?_toArray, List.getElem?_cons_zero, List.getElem?_cons_succ]; rfl
            case hQz26 => exact fun _ _ _ h => h
            case hyz26 => exact Or.inl ⟨by rfl, by intro w hSw; (try dsimp only at hSw); go_simp; with_reducible rfl⟩
            try simp only [Act.put, List.setIfInBounds_toArray, List.set_cons_zero, List.set_cons_succ]
            refine wpAnyH_take (i := 11) (oi := ?oiz27) (v := ?vz27) ?hiz27 (by kernel_rfl) (by kernel_rfl) (by kernel_rfl) ?hQz27 ?hyz27 (by assumption) ?restz27
            case hiz27 => simp only [List.getElem?_toArray, List.getElem?_cons_zero, List.getElem?_cons_succ]; rfl
            case hQz27 => exact fun _ _ _ h => h
            case hyz27 => exact Or.inl ⟨by rfl, by intro w hSw; (try dsimp only at hSw); go_simp; with_reducible rfl⟩
            try simp only [Act.put, List.setIfInBounds_toArray, List.set_cons_zero, List.set_cons_succ]
            refine wpAnyH_ready (rs := [12]) (by kernel_rfl) (by simp) (AllReadyH.cons (o := ?oy2812) ?hy2812 (fun K hK => ?sy2812) AllReadyH.nil)
            case hy2812 => simp only [List.getElem?_toArray, List.getElem?_cons_zero, List.getElem?_cons_succ]; rfl
            go_simp
            have hH2 := hHeld.alloc (.cells (tChg.enc (⟨b[k].1, false, ⟨#[]⟩, true, b[k].2⟩ : Chg)).toArray 90)
            refine hK.out _ _ hH2 (fun _ => ?_)
            clear hK K hH2
            try simp only [Act.put, List.setIfInBounds_toArray, List.set_cons_zero, List.set_cons_succ]
            refine wpAnyH_ready (rs := [13]) (by kernel_rfl) (by simp) (AllReadyH.cons (o := ?oy2913) ?hy2913 (fun K hK => ?sy2913) AllReadyH.nil)
            case hy2913 => simp only [List.getElem?_toArray, List.getElem?_cons_zero, List.getElem?_cons_succ]; rfl
            refine stp_append rowChg rfl _ _ rfl (v := .slice C cn cc) rfl (HOz.out.alloc (.cells (tChg.enc (⟨b[k].1, false, ⟨#[]⟩, true, b[k].2⟩ : Chg)).toArray 90)) _ _ rfl (A := some ⟨wz.heap.size, 0, none⟩) (ys := [(⟨b[k].1, false, ⟨#[]⟩, true, b[k].2⟩ : Chg)]) rfl (rd_one (T := tChg) wz (⟨b[k].1, false, ⟨#[]⟩, true, b[k].2⟩ : Chg) HCO.out _) (by intro y hy; obtain rfl := List.mem_singleton.1 hy; exact HCO.out) (by have := HL.out; simp only [List.length_singleton]; omega) (hHeld.alloc _).size ?_
            intro v9 w9 ho1 hg1 hat1
            obtain ⟨C9, n9, c9, rfl⟩ := ho1.shape3
            have hH2 := (HOz.out.alloc (.cells (tChg.enc (⟨b[k].1, false, ⟨#[]⟩, true, b[k].2⟩ : Chg)).toArray 90)).ext_app (hHeld.alloc _) hg1
            refine hK.out _ _ hH2 (fun _ => ?_)
            have HO9 := Lib.hid ho1
            have HX9 := Lib.hid hH2
            clear hK K ho1 hg1 hat1 hH2 hHeld HOz
            try simp only [Act.put, List.setIfInBounds_toArray, List.set_cons_zero, List.set_cons_succ]
            refine wpAnyH_take (i := 14) (oi := ?oiz30) (v := ?vz30) ?hiz30 (by kernel_rfl) (by kernel_rfl) (by kernel_rfl) ?hQz30 ?hyz30 (by assumption) ?restz30
            case hiz30 => simp only [List.getElem?_toArray, List.getElem?_cons_zero, List.getElem?_cons_succ]; rfl
            case hQz30 => exact fun _ _ _ h => h
            case hyz30 => exact Or.inl ⟨by rfl, by intro w hSw; (try dsimp only at hSw); go_simp; with_reducible rfl⟩
            try simp only [Act.put, List.setIfInBounds_toArray, List.set_cons_zero, List.set_cons_succ]
            refine wpAnyH_done (by kernel_rfl) ?_ _
            go_wp2
            go_roundw
            case rel => exact ⟨i, k + 1, _, by omega, by omega, by go_num, by go_num, HO9.out, by rw [List.append_assoc, List.singleton_append, ← HN.out]; exact HD.out, by have := HLL.out; simp only [List.length_append, List.length_singleton]; omega, HX9.out⟩
            case measure => simp [intOf]; omega
          | false =>
            rw [h2] at q2
            have hboth := chgI_both ha hb h1 h2
            by_cases h3 : a[i].2 = b[k].2
            · rw [if_pos h3] at hboth
              have HN := Lib.hid hboth
              have q3 : (a[i].2.toList == b[k].2.toList) = true := by rw [h3]; simp
              clear hboth h3
              go_wp2_with fail
              go_quiet (fail)
              go_wp2_with fail
              go_quiet (fail)
              go_wp2_with fail
              go_quiet (fail)
              go_wp2
              go_roundw
              case rel => exact ⟨i + 1, k + 1, done, by omega, by omega, by go_num, by go_num, HO.out.drewN _, by rw [← HN.out]; exact HD.out, by have := HLL.out; omega, HX.out.drewN _⟩
              case measure => simp [intOf]; omega
            · rw [if_neg h3] at hboth
              have q3 : (a[i].2.toList == b[k].2.toList) = false := by rw [beq_eq_false_iff_ne]; exact fun e => h3 (toList_inj e)
              have HCO := Lib.hid (show tChg.ok (⟨a[i].1, true, a[i].2, true, b[k].2⟩ : Chg) from ⟨hao.1, hao.2, hbo.2⟩)
              have HN := Lib.hid (hboth)
              go_wp2_with fail
              go_quiet (fail)
              go_wp2_with fail
              go_quiet (fail)
              go_wp2_with fail
              go_quiet (fail)
              go_wp2_with fail
              refine wp_world (w0 := wr) ((((Drawn.refl _).drewN _).drewN _).drewN _) (fun wq hwq => ?_)
              have HXq := Lib.hid (HX.out.trans hwq.ext)
              have HOq := Lib.hid (HO.out.ext hwq.ext)
              clear hwq
              refine wp_region_held_drew (S := fun W => Ext w W) (by kernel_rfl) HXq.out.drew (fun hHeld => ?_)
              have HOz := Lib.hid (show Own tChg 90 wq.drew w.heap.size (.slice C cn cc) done from HOq.out)
              generalize wq.drew = wz at hHeld HOz ⊢
              refine wpAnyH_take (i := 0) (oi := ?oiz31) (v := ?vz31) ?hiz31 (by kernel_rfl) (by kernel_rfl) (by kernel_rfl) ?hQz31 ?hyz31 (by assumption) ?restz31
              case hiz31 => simp only [List.getElem?_toArray, List.getElem?_cons_zero, List.getElem?_cons_succ]; rfl
              case hQz31 => exact fun _ _ _ h => h
              case hyz31 => exact Or.inl ⟨by rfl, by intro w hSw; (try dsimp only at hSw); go_simp; with_reducible rfl⟩
              try simp only [Act.put, List.setIfInBounds_toArray, List.set_cons_zero, List.set_cons_succ]
              refine wpAnyH_take (i := 1) (oi := ?oiz32) (v := ?vz32) ?hiz32 (by kernel_rfl) (by kernel_rfl) (by kernel_rfl) ?hQz32 ?hyz32 (by assumption) ?restz32
              case hiz32 => simp only [List.getElem?_toArray, List.getElem?_cons_zero, List.getElem?_cons_succ]; rfl
              case hQz32 => exact fun _ _ _ h => h
              case hyz32 => exact Or.inl ⟨by rfl, by intro w hSw; (try dsimp only at hSw); go_simp; with_reducible rfl⟩
              try simp only [Act.put, List.setIfInBounds_toArray, List.set_cons_zero, List.set_cons_succ]
              refine wpAnyH_take (i := 2) (oi := ?oiz33) (v := ?vz33) ?hiz33 (by kernel_rfl) (by kernel_rfl) (by kernel_rfl) ?hQz33 ?hyz33 (by assumption) ?restz33
              case hiz33 => simp only [List.getElem?_toArray, List.getElem?_cons_zero, List.getElem?_cons_succ]; rfl
              case hQz33 => exact fun _ _ _ h => h
              case hyz33 => exact Or.inl ⟨by rfl, by intro w hSw; (try dsimp only at hSw); go_simp; with_reducible rfl⟩
              try simp only [Act.put, List.setIfInBounds_toArray, List.set_cons_zero, List.set_cons_succ]
              refine wpAnyH_take (i := 3) (oi := ?oiz34) (v := ?vz34) ?hiz34 (by kernel_rfl) (by kernel_rfl) (by kernel_rfl) ?hQz34 ?hyz34 (by assumption) ?restz34
              case hiz34 => simp only [List.getElem?_toArray, List.getElem?_cons_zero, List.getElem?_cons_succ]; rfl
              case hQz34 => exact fun _ _ _ h => h
              case hyz34 => exact Or.inl ⟨by rfl, by intro w hSw; (try dsimp only at hSw); go_simp; with_reducible rfl⟩
              try simp only [Act.put, List.setIfInBounds_toArray, List.set_cons_zero, List.set_cons_succ]
              refine wpAnyH_take (i := 4) (oi := ?oiz35) (v := ?vz35) ?hiz35 (by kernel_rfl) (by kernel_rfl) (by kernel_rfl) ?hQz35 ?hyz35 (by assumption) ?restz35
              case hiz35 => simp only [List.getElem?_toArray, List.getElem?_cons_zero, List.getElem?_cons_succ]; rfl
              case hQz35 => exact fun _ _ _ h => h
              case hyz35 => exact Or.inl ⟨by rfl, by intro w hSw; (try dsimp only at hSw); go_simp; with_reducible rfl⟩
              try simp only [Act.put, List.setIfInBounds_toArray, List.set_cons_zero, List.set_cons_succ]
              refine wpAnyH_take (i := 5) (oi := ?oiz36) (v := ?vz36) ?hiz36 (by kernel_rfl) (by kernel_rfl) (by kernel_rfl) ?hQz36 ?hyz36 (by assumption) ?restz36
              case hiz36 => simp only [List.getElem?_toArray, List.getElem?_cons_zero, List.getElem?_cons_succ]; rfl
              case hQz36 => exact fun _ _ _ h => h
              case hyz36 => exact Or.inl ⟨by rfl, by intro w hSw; (try dsimp only at hSw); go_simp; with_reducible rfl⟩
              try simp only [Act.put, List.setIfInBounds_toArray, List.set_cons_zero, List.set_cons_succ]
              refine wpAnyH_take (i := 6) (oi := ?oiz37) (v := ?vz37) ?hiz37 (by kernel_rfl) (by kernel_rfl) (by kernel_rfl) ?hQz37 ?hyz37 (by assumption) ?restz37
              case hiz37 => simp only [List.getElem?_toArray, List.getElem?_cons_zero, List.getElem?_cons_succ]; rfl
              case hQz37 => exact fun _ _ _ h => h
              case hyz37 => exact Or.inl ⟨by rfl, by intro w hSw; (try dsimp only at hSw); go_simp; with_reducible rfl⟩
              try simp only [Act.put, List.setIfInBounds_toArray, List.set_cons_zero, List.set_cons_succ]
              refine wpAnyH_take (i := 7) (oi := ?oiz38) (v := ?vz38) ?hiz38 (by kernel_rfl) (by kernel_rfl) (by kernel_rfl) ?hQz38 ?hyz38 (by assumption) ?restz38
              case hiz38 => simp only [List.getElem?_toArray, List.getElem?_cons_zero, List.getElem?_cons_succ]; rfl
              case hQz38 => exact fun _ _ _ h => h
              case hyz38 => exact Or.inl ⟨by rfl, by intro w hSw; (try dsimp only at hSw); go_simp; with_reducible rfl⟩
              try simp only [Act.put, List.setIfInBounds_toArray, List.set_cons_zero, List.set_cons_succ]
              refine wpAnyH_take (i := 8) (oi := ?oiz39) (v := ?vz39) ?hiz39 (by kernel_rfl) (by kernel_rfl) (by kernel_rfl) ?hQz39 ?hyz39 (by assumption) ?restz39
              case hiz39 => simp only [List.getElem?_toArray, List.getElem?_cons_zero, List.getElem?_cons_succ]; rfl
              case hQz39 => exact fun _ _ _ h => h
              case hyz39 => exact Or.inl ⟨by rfl, by intro w hSw; (try dsimp only at hSw); go_simp; with_reducible rfl⟩
              try simp only [Act.put, List.setIfInBounds_toArray, List.set_cons_zero, List.set_cons_succ]
              refine wpAnyH_take (i := 9) (oi := ?oiz40) (v := ?vz40) ?hiz40 (by kernel_rfl) (by kernel_rfl) (by kernel_rfl) ?hQz40 ?hyz40 (by assumption) ?restz40
              case hiz40 => simp only [List.getElem?_toArray, List.getElem?_cons_zero, List.getElem?_cons_succ]; rfl
              case hQz40 => exact fun _ _ _ h => h
              case hyz40 => exact Or.inl ⟨by rfl, by intro w hSw; (try dsimp only at hSw); go_simp; with_reducible rfl⟩
              try simp only [Act.put, List.setIfInBounds_toArray, List.set_cons_zero, List.set_cons_succ]
              refine wpAnyH_take (i := 10) (oi := ?oiz41) (v := ?vz41) ?hiz41 (by kernel_rfl) (by kernel_rfl) (by kernel_rfl) ?hQz41 ?hyz41 (by assumption) ?restz41
              case hiz41 => simp only [List.getElem?_toArray, List.getElem?_cons_zero, List.getElem?_cons_succ]; rfl
              case hQz41 => exact fun _ _ _ h => h
              case hyz41 => exact Or.inl ⟨by rfl, by intro w hSw; (try dsimp only at hSw); go_simp; with_reducible rfl⟩
              try simp only [Act.put, List.setIfInBounds_toArray, List.set_cons_zero, List.set_cons_succ]
              refine wpAnyH_take (i := 11) (oi := ?oiz42) (v := ?vz42) ?hiz42 (by kernel_rfl) (by kernel_rfl) (by kernel_rfl) ?hQz42 ?hyz42 (by assumption) ?restz42
              case hiz42 => simp only [List.getElem?_toArray, List.getElem?_cons_zero, List.getElem?_cons_succ]; rfl
              case hQz42 => exact fun _ _ _ h => h
              case hyz42 => exact Or.inl ⟨by rfl, by intro w hSw; (try dsimp only at hSw); go_simp; with_reducible rfl⟩
              try simp only [Act.put, List.setIfInBounds_toArray, List.set_cons_zero, List.set_cons_succ]
              refine wpAnyH_take (i := 12) (oi := ?oiz43) (v := ?vz43) ?hiz43 (by kernel_rfl) (by kernel_rfl) (by kernel_rfl) ?hQz43 ?hyz43 (by assumption) ?restz43
              case hiz43 => simp only [List.getElem?_toArray, List.getElem?_cons_zero, List.getElem?_cons_succ]; rfl
              case hQz43 => exact fun _ _ _ h => h
              case hyz43 => exact Or.inl ⟨by rfl, by intro w hSw; (try dsimp only at hSw); go_simp; with_reducible rfl⟩
              try simp only [Act.put, List.setIfInBounds_toArray, List.set_cons_zero, List.set_cons_succ]
              refine wpAnyH_take (i := 13) (oi := ?oiz44) (v := ?vz44) ?hiz44 (by kernel_rfl) (by kernel_rfl) (by kernel_rfl) ?hQz44 ?hyz44 (by assumption) ?restz44
              case hiz44 => simp only [List.getElem?_toArray, List.getElem?_cons_zero, List.getElem?_cons_succ]; rfl
              case hQz44 => exact fun _ _ _ h => h
              case hyz44 => exact Or.inl ⟨by rfl, by intro w hSw; (try dsimp only at hSw); go_simp; with_reducible rfl⟩
              try simp only [Act.put, List.setIfInBounds_toArray, List.set_cons_zero, List.set_cons_succ]
              refine wpAnyH_take (i := 14) (oi := ?oiz45) (v := ?vz45) ?hiz45 (by kernel_rfl) (by kernel_rfl) (by kernel_rfl) ?hQz45 ?hyz45 (by assumption) ?restz45
              case hiz45 => simp only [List.getElem?_toArray, List.getElem?_cons_zero, List.getElem?_cons_succ]; rfl
              case hQz45 => exact fun _ _ _ h => h
              case hyz45 => exact Or.inl ⟨by rfl, by intro w hSw; (try dsimp only at hSw); go_simp; with_reducible rfl⟩
              try simp only [Act.put, List.setIfInBounds_toArray, List.set_cons_zero, List.set_cons_succ]
              refine wpAnyH_take (i := 15) (oi := ?oiz46) (v := ?vz46) ?hiz46 (by kernel_rfl) (by kernel_rfl) (by kernel_rfl) ?hQz46 ?hyz46 (by assumption) ?restz46
              case hiz46 => simp only [List.getElem?_toArray, List.getElem?_cons_zero, List.getElem?_cons_succ]; rfl
              case hQz46 => exact fun _ _ _ h => h
              case hyz46 => exact Or.inl ⟨by rfl, by intro w hSw; (try dsimp only at hSw); go_simp; with_reducible rfl⟩
              try simp only [Act.put, List.setIfInBounds_toArray, List.set_cons_zero, List.set_cons_succ]
              refine wpAnyH_take (i := 16) (oi := ?oiz47) (v := ?vz47) ?hiz47 (by kernel_rfl) (by kernel_rfl) (by kernel_rfl) ?hQz47 ?hyz47 (by assumption) ?restz47
              case hiz47 => simp only [List.getElem?_toArray, List.getElem?_cons_zero, List.getElem?_cons_succ]; rfl
              case hQz47 => exact fun _ _ _ h => h
              case hyz47 => exact Or.inl ⟨by rfl, by intro w hSw; (try dsimp only at hSw); go_simp; with_reducible rfl⟩
              try simp only [Act.put, List.setIfInBounds_toArray, List.set_cons_zero, List.set_cons_succ]
              refine wpAnyH_ready (rs := [17]) (by kernel_rfl) (by simp) (AllReadyH.cons (o := ?oy4817) ?hy4817 (fun K hK => ?sy4817) AllReadyH.nil)
              case hy4817 => simp only [List.getElem?_toArray, List.getElem?_cons_zero, List.getElem?_cons_succ]; rfl
              go_simp
              have hH2 := hHeld.alloc (.cells (tChg.enc (⟨a[i].1, true, a[i].2, true, b[k].2⟩ : Chg)).toArray 90)
              refine hK.out _ _ hH2 (fun _ => ?_)
              clear hK K hH2
              try simp only [Act.put, List.setIfInBounds_toArray, List.set_cons_zero, List.set_cons_succ]
              refine wpAnyH_ready (rs := [18]) (by kernel_rfl) (by simp) (AllReadyH.cons (o := ?oy4918) ?hy4918 (fun K hK => ?sy4918) AllReadyH.nil)
              case hy4918 => simp only [List.getElem?_toArray, List.getElem?_cons_zero, List.getElem?_cons_succ]; rfl
              refine stp_append rowChg rfl _ _ rfl (v := .slice C cn cc) rfl (HOz.out.alloc (.cells (tChg.enc (⟨a[i].1, true, a[i].2, true, b[k].2⟩ : Chg)).toArray 90)) _ _ rfl (A := some ⟨wz.heap.size, 0, none⟩) (ys := [(⟨a[i].1, true, a[i].2, true, b[k].2⟩ : Chg)]) rfl (rd_one (T := tChg) wz (⟨a[i].1, true, a[i].2, true, b[k].2⟩ : Chg) HCO.out _) (by intro y hy; obtain rfl := List.mem_singleton.1 hy; exact HCO.out) (by have := HL.out; simp only [List.length_singleton]; omega) (hHeld.alloc _).size ?_
              intro v9 w9 ho1 hg1 hat1
              obtain ⟨C9, n9, c9, rfl⟩ := ho1.shape3
              have hH2 := (HOz.out.alloc (.cells (tChg.enc (⟨a[i].1, true, a[i].2, true, b[k].2⟩ : Chg)).toArray 90)).ext_app (hHeld.alloc _) hg1
              refine hK.out _ _ hH2 (fun _ => ?_)
              have HO9 := Lib.hid ho1
              have HX9 := Lib.hid hH2
              clear hK K ho1 hg1 hat1 hH2 hHeld HOz
              try simp only [Act.put, List.setIfInBounds_toArray, List.set_cons_zero, List.set_cons_succ]
              refine wpAnyH_take (i := 19) (oi := ?oiz50) (v := ?vz50) ?hiz50 (by kernel_rfl) (by kernel_rfl) (by kernel_rfl) ?hQz50 ?hyz50 (by assumption) ?restz50
              case hiz50 => simp only [List.getElem?_toArray, List.getElem?_cons_zero, List.getElem?_cons_succ]; rfl
              case hQz50 => exact fun _ _ _ h => h
              case hyz50 => exact Or.inl ⟨by rfl, by intro w hSw; (try dsimp only at hSw); go_simp; with_reducible rfl⟩
              try simp only [Act.put, List.setIfInBounds_toArray, List.set_cons_zero, List.set_cons_succ]
              refine wpAnyH_done (by kernel_rfl) ?_ _
              go_wp2
              go_roundw
              case rel => exact ⟨i + 1, k + 1, _, by omega, by omega, by go_num, by go_num, HO9.out, by rw [List.append_assoc, List.singleton_append, ← HN.out]; exact HD.out, by have := HLL.out; simp only [List.length_append, List.length_singleton]; omega, HX9.out⟩
              case measure => simp [intOf]; omega
      · have hbe : k = b.length := by omega
        subst hbe
        obtain ⟨ga, oa, hpa, _, hca⟩ := HRa.out.elem HKa.out i ha
        obtain rfl := hpa
        have a0 : ∀ W, Ext w W → W.cell? ⟨ga, oa + i * 2, none⟩ = some (.string a[i].1) := fun W hW => hW.cell (hca 0 _ rfl)
        have a1 : ∀ W, Ext w W → W.cell? ⟨ga, oa + i * 2 + 1, none⟩ = some (.string a[i].2) := fun W hW => hW.cell (hca 1 _ rfl)
        have hao : tEnt.ok a[i] := HKa.out _ (List.getElem_mem ha)
        have a0r := a0 _ HX.out
        have a1r := a1 _ HX.out
        clear hca
        have hi1 : (i : Int) < (a.length : Int) := by omega
        have hi0 : (0 : Int) ≤ (i : Int) := by omega
        have hke : ((b.length : Int) == (b.length : Int)) = true := by simp
        have HCO := Lib.hid (show tChg.ok (⟨a[i].1, true, a[i].2, false, ⟨#[]⟩⟩ : Chg) from ⟨hao.1, hao.2, by show (0 : Nat) ≤ 140737488351232; decide⟩)
        have HN := Lib.hid (chgI_del ha hk (fun h => absurd h (by omega)))
        go_wp2_with fail
        go_quiet (fail)
        go_wp2_with fail
        refine wp_world (w0 := wr) ((Drawn.refl _).drewN _) (fun wq hwq => ?_)
        have HXq := Lib.hid (HX.out.trans hwq.ext)
        have HOq := Lib.hid (HO.out.ext hwq.ext)
        clear hwq
        refine wp_region_held_drew (S := fun W => Ext w W) (by kernel_rfl) HXq.out.drew (fun hHeld => ?_)
        have HOz := Lib.hid (show Own tChg 90 wq.drew w.heap.size (.slice C cn cc) done from HOq.out)
        generalize wq.drew = wz at hHeld HOz ⊢
        refine wpAnyH_take (i := 0) (oi := ?oiz51) (v := ?vz51) ?hiz51 (by kernel_rfl) (by kernel_rfl) (by kernel_rfl) ?hQz51 ?hyz51 (by assumption) ?restz51
        case hiz51 => simp only [List.getElem?_toArray, List.getElem?_cons_zero, List.getElem?_cons_succ]; rfl
        case hQz51 => exact fun _ _ _ h => h
        case hyz51 => exact Or.inl ⟨by rfl, by intro w hSw; (try dsimp only at hSw); go_simp; with_reducible rfl⟩
        try simp only [Act.put, List.setIfInBounds_toArray, List.set_cons_zero, List.set_cons_succ]
        refine wpAnyH_take (i := 1) (oi := ?oiz52) (v := ?vz52) ?hiz52 (by kernel_rfl) (by kernel_rfl) (by kernel_rfl) ?hQz52 ?hyz52 (by assumption) ?restz52
        case hiz52 => simp only [List.getElem?_toArray, List.getElem?_cons_zero, List.getElem?_cons_succ]; rfl
        case hQz52 => exact fun _ _ _ h => h
        case hyz52 => exact Or.inl ⟨by rfl, by intro w hSw; (try dsimp only at hSw); go_simp; with_reducible rfl⟩
        try simp only [Act.put, List.setIfInBounds_toArray, List.set_cons_zero, List.set_cons_succ]
        refine wpAnyH_take (i := 2) (oi := ?oiz53) (v := ?vz53) ?hiz53 (by kernel_rfl) (by kernel_rfl) (by kernel_rfl) ?hQz53 ?hyz53 (by assumption) ?restz53
        case hiz53 => simp only [List.getElem?_toArray, List.getElem?_cons_zero, List.getElem?_cons_succ]; rfl
        case hQz53 => exact fun _ _ _ h => h
        case hyz53 => exact Or.inl ⟨by rfl, by intro w hSw; (try dsimp only at hSw); go_simp; with_reducible rfl⟩
        try simp only [Act.put, List.setIfInBounds_toArray, List.set_cons_zero, List.set_cons_succ]
        refine wpAnyH_take (i := 3) (oi := ?oiz54) (v := ?vz54) ?hiz54 (by kernel_rfl) (by kernel_rfl) (by kernel_rfl) ?hQz54 ?hyz54 (by assumption) ?restz54
        case hiz54 => simp only [List.getElem?_toArray, List.getElem?_cons_zero, List.getElem?_cons_succ]; rfl
        case hQz54 => exact fun _ _ _ h => h
        case hyz54 => exact Or.inl ⟨by rfl, by intro w hSw; (try dsimp only at hSw); go_simp; with_reducible rfl⟩
        try simp only [Act.put, List.setIfInBounds_toArray, List.set_cons_zero, List.set_cons_succ]
        refine wpAnyH_take (i := 4) (oi := ?oiz55) (v := ?vz55) ?hiz55 (by kernel_rfl) (by kernel_rfl) (by kernel_rfl) ?hQz55 ?hyz55 (by assumption) ?restz55
        case hiz55 => simp only [List.getElem?_toArray, List.getElem?_cons_zero, List.getElem?_cons_succ]; rfl
        case hQz55 => exact fun _ _ _ h => h
        case hyz55 => exact Or.inl ⟨by rfl, by intro w hSw; (try dsimp only at hSw); go_simp; with_reducible rfl⟩
        try simp only [Act.put, List.setIfInBounds_toArray, List.set_cons_zero, List.set_cons_succ]
        refine wpAnyH_take (i := 5) (oi := ?oiz56) (v := ?vz56) ?hiz56 (by kernel_rfl) (by kernel_rfl) (by kernel_rfl) ?hQz56 ?hyz56 (by assumption) ?restz56
        case hiz56 => simp only [List.getElem?_toArray, List.getElem?_cons_zero, List.getElem?_cons_succ]; rfl
        case hQz56 => exact fun _ _ _ h => h
        case hyz56 => exact Or.inl ⟨by rfl, by intro w hSw; (try dsimp only at hSw); go_simp; with_reducible rfl⟩
        try simp only [Act.put, List.setIfInBounds_toArray, List.set_cons_zero, List.set_cons_succ]
        refine wpAnyH_take (i := 6) (oi := ?oiz57) (v := ?vz57) ?hiz57 (by kernel_rfl) (by kernel_rfl) (by kernel_rfl) ?hQz57 ?hyz57 (by assumption) ?restz57
        case hiz57 => simp only [List.getElem?_toArray, List.getElem?_cons_zero, List.getElem?_cons_succ]; rfl
        case hQz57 => exact fun _ _ _ h => h
        case hyz57 => exact Or.inl ⟨by rfl, by intro w hSw; (try dsimp only at hSw); go_simp; with_reducible rfl⟩
        try simp only [Act.put, List.setIfInBounds_toArray, List.set_cons_zero, List.set_cons_succ]
        refine wpAnyH_take (i := 7) (oi := ?oiz58) (v := ?vz58) ?hiz58 (by kernel_rfl) (by kernel_rfl) (by kernel_rfl) ?hQz58 ?hyz58 (by assumption) ?restz58
        case hiz58 => simp only [List.getElem?_toArray, List.getElem?_cons_zero, List.getElem?_cons_succ]; rfl
        case hQz58 => exact fun _ _ _ h => h
        case hyz58 => exact Or.inl ⟨by rfl, by intro w hSw; (try dsimp only at hSw); go_simp; with_reducible rfl⟩
        try simp only [Act.put, List.setIfInBounds_toArray, List.set_cons_zero, List.set_cons_succ]
        refine wpAnyH_take (i := 8) (oi := ?oiz59) (v := ?vz59) ?hiz59 (by kernel_rfl) (by kernel_rfl) (by kernel_rfl) ?hQz59 ?hyz59 (by assumption) ?restz59
        case hiz59 => simp only [List.getElem?_toArray, List.getElem?_cons_zero, List.getElem?_cons_succ]; rfl
        case hQz59 => exact fun _ _ _ h => h
        case hyz59 => exact Or.inl ⟨by rfl, by intro w hSw; (try dsimp only at hSw); go_simp; with_reducible rfl⟩
        try simp only [Act.put, List.setIfInBounds_toArray, List.set_cons_zero, List.set_cons_succ]
        refine wpAnyH_take (i := 9) (oi := ?oiz60) (v := ?vz60) ?hiz60 (by kernel_rfl) (by kernel_rfl) (by kernel_rfl) ?hQz60 ?hyz60 (by assumption) ?restz60
        case hiz60 => simp only [List.getElem?_toArray, List.getElem?_cons_zero, List.getElem?_cons_succ]; rfl
        case hQz60 => exact fun _ _ _ h => h
        case hyz60 => exact Or.inl ⟨by rfl, by intro w hSw; (try dsimp only at hSw); go_simp; with_reducible rfl⟩
        try simp only [Act.put, List.setIfInBounds_toArray, List.set_cons_zero, List.set_cons_succ]
        refine wpAnyH_take (i := 10) (oi := ?oiz61) (v := ?vz61) ?hiz61 (by kernel_rfl) (by kernel_rfl) (by kernel_rfl) ?hQz61 ?hyz61 (by assumption) ?restz61
        case hiz61 => simp only [List.getElem?_toArray, List.getElem?_cons_zero, List.getElem?_cons_succ]; rfl
        case hQz61 => exact fun _ _ _ h => h
        case hyz61 => exact Or.inl ⟨by rfl, by intro w hSw; (try dsimp only at hSw); go_simp; with_reducible rfl⟩
        try simp only [Act.put, List.setIfInBounds_toArray, List.set_cons_zero, List.set_cons_succ]
        refine wpAnyH_take (i := 11) (oi := ?oiz62) (v := ?vz62) ?hiz62 (by kernel_rfl) (by kernel_rfl) (by kernel_rfl) ?hQz62 ?hyz62 (by assumption) ?restz62
        case hiz62 => simp only [List.getElem?_toArray, List.getElem?_cons_zero, List.getElem?_cons_succ]; rfl
        case hQz62 => exact fun _ _ _ h => h
        case hyz62 => exact Or.inl ⟨by rfl, by intro w hSw; (try dsimp only at hSw); go_simp; with_reducible rfl⟩
        try simp only [Act.put, List.setIfInBounds_toArray, List.set_cons_zero, List.set_cons_succ]
        refine wpAnyH_ready (rs := [12]) (by kernel_rfl) (by simp) (AllReadyH.cons (o := ?oy6312) ?hy6312 (fun K hK => ?sy6312) AllReadyH.nil)
        case hy6312 => simp only [List.getElem?_toArray, List.getElem?_cons_zero, List.getElem?_cons_succ]; rfl
        go_simp
        have hH2 := hHeld.alloc (.cells (tChg.enc (⟨a[i].1, true, a[i].2, false, ⟨#[]⟩⟩ : Chg)).toArray 90)
        refine hK.out _ _ hH2 (fun _ => ?_)
        clear hK K hH2
        try simp only [Act.put, List.setIfInBounds_toArray, List.set_cons_zero, List.set_cons_succ]
        refine wpAnyH_ready (rs := [13]) (by kernel_rfl) (by simp) (AllReadyH.cons (o := ?oy6413) ?hy6413 (fun K hK => ?sy6413) AllReadyH.nil)
        case hy6413 => simp only [List.getElem?_toArray, List.getElem?_cons_zero, List.getElem?_cons_succ]; rfl
        refine stp_append rowChg rfl _ _ rfl (v := .slice C cn cc) rfl (HOz.out.alloc (.cells (tChg.enc (⟨a[i].1, true, a[i].2, false, ⟨#[]⟩⟩ : Chg)).toArray 90)) _ _ rfl (A := some ⟨wz.heap.size, 0, none⟩) (ys := [(⟨a[i].1, true, a[i].2, false, ⟨#[]⟩⟩ : Chg)]) rfl (rd_one (T := tChg) wz (⟨a[i].1, true, a[i].2, false, ⟨#[]⟩⟩ : Chg) HCO.out _) (by intro y hy; obtain rfl := List.mem_singleton.1 hy; exact HCO.out) (by have := HL.out; simp only [List.length_singleton]; omega) (hHeld.alloc _).size ?_
        intro v9 w9 ho1 hg1 hat1
        obtain ⟨C9, n9, c9, rfl⟩ := ho1.shape3
        have hH2 := (HOz.out.alloc (.cells (tChg.enc (⟨a[i].1, true, a[i].2, false, ⟨#[]⟩⟩ : Chg)).toArray 90)).ext_app (hHeld.alloc _) hg1
        refine hK.out _ _ hH2 (fun _ => ?_)
        have HO9 := Lib.hid ho1
        have HX9 := Lib.hid hH2
        clear hK K ho1 hg1 hat1 hH2 hHeld HOz
        try simp only [Act.put, List.setIfInBounds_toArray, List.set_cons_zero, List.set_cons_succ]
        refine wpAnyH_take (i := 14) (oi := ?oiz65) (v := ?vz65) ?hiz65 (by kernel_rfl) (by kernel_rfl) (by kernel_rfl) ?hQz65 ?hyz65 (by assumption) ?restz65
        case hiz65 => simp only [List.getElem?_toArray, List.getElem?_cons_zero, List.getElem?_cons_succ]; rfl
        case hQz65 => exact fun _ _ _ h => h
        case hyz65 => exact Or.inl ⟨by rfl, by intro w hSw; (try dsimp only at hSw); go_simp; with_reducible rfl⟩
        try simp only [Act.put, List.setIfInBounds_toArray, List.set_cons_zero, List.set_cons_succ]
        refine wpAnyH_done (by kernel_rfl) ?_ _
        go_wp2
        go_roundw
        case rel => exact ⟨i + 1, b.length, _, by omega, by omega, by go_num, by go_num, HO9.out, by rw [List.append_assoc, List.singleton_append, ← HN.out]; exact HD.out, by have := HLL.out; simp only [List.length_append, List.length_singleton]; omega, HX9.out⟩
        case measure => simp [intOf]; omega
    · have hae : i = a.length := by omega
      subst hae
      by_cases hb : k < b.length
      · obtain ⟨gb, ob, hpb, _, hcb⟩ := HRb.out.elem HKb.out k hb
        obtain rfl := hpb
        have b0 : ∀ W, Ext w W → W.cell? ⟨gb, ob + k * 2, none⟩ = some (.string b[k].1) := fun W hW => hW.cell (hcb 0 _ rfl)
        have b1 : ∀ W, Ext w W → W.cell? ⟨gb, ob + k * 2 + 1, none⟩ = some (.string b[k].2) := fun W hW => hW.cell (hcb 1 _ rfl)
        have hbo : tEnt.ok b[k] := HKb.out _ (List.getElem_mem hb)
        have b0r := b0 _ HX.out
        have b1r := b1 _ HX.out
        clear hcb
        have hk1 : (k : Int) < (b.length : Int) := by omega
        have hk0 : (0 : Int) ≤ (k : Int) := by omega
        have hke : ((k : Int) == (b.length : Int)) = false := by rw [beq_eq_false_iff_ne]; omega
        have hie : ((a.length : Int) == (a.length : Int)) = true := by simp
        have HCO := Lib.hid (show tChg.ok (⟨b[k].1, false, ⟨#[]⟩, true, b[k].2⟩ : Chg) from ⟨hbo.1, by show (0 : Nat) ≤ 140737488351232; decide, hbo.2⟩)
        have HN := Lib.hid (chgI_add hi hb (fun h => absurd h (by omega)))
        go_wp2_with fail
        go_quiet (fail)
        go_wp2_with fail
        go_quiet (fail)
        go_wp2_with fail
        refine wp_world (w0 := wr) (((Drawn.refl _).drewN _).drewN _) (fun wq hwq => ?_)
        have HXq := Lib.hid (HX.out.trans hwq.ext)
        have HOq := Lib.hid (HO.out.ext hwq.ext)
        clear hwq
        refine wp_region_held_drew (S := fun W => Ext w W) (by kernel_rfl) HXq.out.drew (fun hHeld => ?_)
        have HOz := Lib.hid (show Own tChg 90 wq.drew w.heap.size (.slice C cn cc) done from HOq.out)
        generalize wq.drew = wz at hHeld HOz ⊢
        refine wpAnyH_take (i := 0) (oi := ?oiz66) (v := ?vz66) ?hiz66 (by kernel_rfl) (by kernel_rfl) (by kernel_rfl) ?hQz66 ?hyz66 (by assumption) ?restz66
        case hiz66 => simp only [List.getElem?_toArray, List.getElem?_cons_zero, List.getElem?_cons_succ]; rfl
        case hQz66 => exact fun _ _ _ h => h
        case hyz66 => exact Or.inl ⟨by rfl, by intro w hSw; (try dsimp only at hSw); go_simp; with_reducible rfl⟩
        try simp only [Act.put, List.setIfInBounds_toArray, List.set_cons_zero, List.set_cons_succ]
        refine wpAnyH_take (i := 1) (oi := ?oiz67) (v := ?vz67) ?hiz67 (by kernel_rfl) (by kernel_rfl) (by kernel_rfl) ?hQz67 ?hyz67 (by assumption) ?restz67
        case hiz67 => simp only [List.getElem?_toArray, List.getElem?_cons_zero, List.getElem?_cons_succ]; rfl
        case hQz67 => exact fun _ _ _ h => h
        case hyz67 => exact Or.inl ⟨by rfl, by intro w hSw; (try dsimp only at hSw); go_simp; with_reducible rfl⟩
        try simp only [Act.put, List.setIfInBounds_toArray, List.set_cons_zero, List.set_cons_succ]
        refine wpAnyH_take (i := 2) (oi := ?oiz68) (v := ?vz68) ?hiz68 (by kernel_rfl) (by kernel_rfl) (by kernel_rfl) ?hQz68 ?hyz68 (by assumption) ?restz68
        case hiz68 => simp only [List.getElem?_toArray, List.getElem?_cons_zero, List.getElem?_cons_succ]; rfl
        case hQz68 => exact fun _ _ _ h => h
        case hyz68 => exact Or.inl ⟨by rfl, by intro w hSw; (try dsimp only at hSw); go_simp; with_reducible rfl⟩
        try simp only [Act.put, List.setIfInBounds_toArray, List.set_cons_zero, List.set_cons_succ]
        refine wpAnyH_take (i := 3) (oi := ?oiz69) (v := ?vz69) ?hiz69 (by kernel_rfl) (by kernel_rfl) (by kernel_rfl) ?hQz69 ?hyz69 (by assumption) ?restz69
        case hiz69 => simp only [List.getElem?_toArray, List.getElem?_cons_zero, List.getElem?_cons_succ]; rfl
        case hQz69 => exact fun _ _ _ h => h
        case hyz69 => exact Or.inl ⟨by rfl, by intro w hSw; (try dsimp only at hSw); go_simp; with_reducible rfl⟩
        try simp only [Act.put, List.setIfInBounds_toArray, List.set_cons_zero, List.set_cons_succ]
        refine wpAnyH_take (i := 4) (oi := ?oiz70) (v := ?vz70) ?hiz70 (by kernel_rfl) (by kernel_rfl) (by kernel_rfl) ?hQz70 ?hyz70 (by assumption) ?restz70
        case hiz70 => simp only [List.getElem?_toArray, List.getElem?_cons_zero, List.getElem?_cons_succ]; rfl
        case hQz70 => exact fun _ _ _ h => h
        case hyz70 => exact Or.inl ⟨by rfl, by intro w hSw; (try dsimp only at hSw); go_simp; with_reducible rfl⟩
        try simp only [Act.put, List.setIfInBounds_toArray, List.set_cons_zero, List.set_cons_succ]
        refine wpAnyH_take (i := 5) (oi := ?oiz71) (v := ?vz71) ?hiz71 (by kernel_rfl) (by kernel_rfl) (by kernel_rfl) ?hQz71 ?hyz71 (by assumption) ?restz71
        case hiz71 => simp only [List.getElem?_toArray, List.getElem?_cons_zero, List.getElem?_cons_succ]; rfl
        case hQz71 => exact fun _ _ _ h => h
        case hyz71 => exact Or.inl ⟨by rfl, by intro w hSw; (try dsimp only at hSw); go_simp; with_reducible rfl⟩
        try simp only [Act.put, List.setIfInBounds_toArray, List.set_cons_zero, List.set_cons_succ]
        refine wpAnyH_take (i := 6) (oi := ?oiz72) (v := ?vz72) ?hiz72 (by kernel_rfl) (by kernel_rfl) (by kernel_rfl) ?hQz72 ?hyz72 (by assumption) ?restz72
        case hiz72 => simp only [List.getElem?_toArray, List.getElem?_cons_zero, List.getElem?_cons_succ]; rfl
        case hQz72 => exact fun _ _ _ h => h
        case hyz72 => exact Or.inl ⟨by rfl, by intro w hSw; (try dsimp only at hSw); go_simp; with_reducible rfl⟩
        try simp only [Act.put, List.setIfInBounds_toArray, List.set_cons_zero, List.set_cons_succ]
        refine wpAnyH_take (i := 7) (oi := ?oiz73) (v := ?vz73) ?hiz73 (by kernel_rfl) (by kernel_rfl) (by kernel_rfl) ?hQz73 ?hyz73 (by assumption) ?restz73
        case hiz73 => simp only [List.getElem?_toArray, List.getElem?_cons_zero, List.getElem?_cons_succ]; rfl
        case hQz73 => exact fun _ _ _ h => h
        case hyz73 => exact Or.inl ⟨by rfl, by intro w hSw; (try dsimp only at hSw); go_simp; with_reducible rfl⟩
        try simp only [Act.put, List.setIfInBounds_toArray, List.set_cons_zero, List.set_cons_succ]
        refine wpAnyH_take (i := 8) (oi := ?oiz74) (v := ?vz74) ?hiz74 (by kernel_rfl) (by kernel_rfl) (by kernel_rfl) ?hQz74 ?hyz74 (by assumption) ?restz74
        case hiz74 => simp only [List.getElem?_toArray, List.getElem?_cons_zero, List.getElem?_cons_succ]; rfl
        case hQz74 => exact fun _ _ _ h => h
        case hyz74 => exact Or.inl ⟨by rfl, by intro w hSw; (try dsimp only at hSw); go_simp; with_reducible rfl⟩
        try simp only [Act.put, List.setIfInBounds_toArray, List.set_cons_zero, List.set_cons_succ]
        refine wpAnyH_take (i := 9) (oi := ?oiz75) (v := ?vz75) ?hiz75 (by kernel_rfl) (by kernel_rfl) (by kernel_rfl) ?hQz75 ?hyz75 (by assumption) ?restz75
        case hiz75 => simp only [List.getElem?_toArray, List.getElem?_cons_zero, List.getElem?_cons_succ]; rfl
        case hQz75 => exact fun _ _ _ h => h
        case hyz75 => exact Or.inl ⟨by rfl, by intro w hSw; (try dsimp only at hSw); go_simp; with_reducible rfl⟩
        try simp only [Act.put, List.setIfInBounds_toArray, List.set_cons_zero, List.set_cons_succ]
        refine wpAnyH_take (i := 10) (oi := ?oiz76) (v := ?vz76) ?hiz76 (by kernel_rfl) (by kernel_rfl) (by kernel_rfl) ?hQz76 ?hyz76 (by assumption) ?restz76
        case hiz76 => simp only [List.getElem?_toArray, List.getElem?_cons_zero, List.getElem?_cons_succ]; rfl
        case hQz76 => exact fun _ _ _ h => h
        case hyz76 => exact Or.inl ⟨by rfl, by intro w hSw; (try dsimp only at hSw); go_simp; with_reducible rfl⟩
        try simp only [Act.put, List.setIfInBounds_toArray, List.set_cons_zero, List.set_cons_succ]
        refine wpAnyH_take (i := 11) (oi := ?oiz77) (v := ?vz77) ?hiz77 (by kernel_rfl) (by kernel_rfl) (by kernel_rfl) ?hQz77 ?hyz77 (by assumption) ?restz77
        case hiz77 => simp only [List.getElem?_toArray, List.getElem?_cons_zero, List.getElem?_cons_succ]; rfl
        case hQz77 => exact fun _ _ _ h => h
        case hyz77 => exact Or.inl ⟨by rfl, by intro w hSw; (try dsimp only at hSw); go_simp; with_reducible rfl⟩
        try simp only [Act.put, List.setIfInBounds_toArray, List.set_cons_zero, List.set_cons_succ]
        refine wpAnyH_ready (rs := [12]) (by kernel_rfl) (by simp) (AllReadyH.cons (o := ?oy7812) ?hy7812 (fun K hK => ?sy7812) AllReadyH.nil)
        case hy7812 => simp only [List.getElem?_toArray, List.getElem?_cons_zero, List.getElem?_cons_succ]; rfl
        go_simp
        have hH2 := hHeld.alloc (.cells (tChg.enc (⟨b[k].1, false, ⟨#[]⟩, true, b[k].2⟩ : Chg)).toArray 90)
        refine hK.out _ _ hH2 (fun _ => ?_)
        clear hK K hH2
        try simp only [Act.put, List.setIfInBounds_toArray, List.set_cons_zero, List.set_cons_succ]
        refine wpAnyH_ready (rs := [13]) (by kernel_rfl) (by simp) (AllReadyH.cons (o := ?oy7913) ?hy7913 (fun K hK => ?sy7913) AllReadyH.nil)
        case hy7913 => simp only [List.getElem?_toArray, List.getElem?_cons_zero, List.getElem?_cons_succ]; rfl
        refine stp_append rowChg rfl _ _ rfl (v := .slice C cn cc) rfl (HOz.out.alloc (.cells (tChg.enc (⟨b[k].1, false, ⟨#[]⟩, true, b[k].2⟩ : Chg)).toArray 90)) _ _ rfl (A := some ⟨wz.heap.size, 0, none⟩) (ys := [(⟨b[k].1, false, ⟨#[]⟩, true, b[k].2⟩ : Chg)]) rfl (rd_one (T := tChg) wz (⟨b[k].1, false, ⟨#[]⟩, true, b[k].2⟩ : Chg) HCO.out _) (by intro y hy; obtain rfl := List.mem_singleton.1 hy; exact HCO.out) (by have := HL.out; simp only [List.length_singleton]; omega) (hHeld.alloc _).size ?_
        intro v9 w9 ho1 hg1 hat1
        obtain ⟨C9, n9, c9, rfl⟩ := ho1.shape3
        have hH2 := (HOz.out.alloc (.cells (tChg.enc (⟨b[k].1, false, ⟨#[]⟩, true, b[k].2⟩ : Chg)).toArray 90)).ext_app (hHeld.alloc _) hg1
        refine hK.out _ _ hH2 (fun _ => ?_)
        have HO9 := Lib.hid ho1
        have HX9 := Lib.hid hH2
        clear hK K ho1 hg1 hat1 hH2 hHeld HOz
        try simp only [Act.put, List.setIfInBounds_toArray, List.set_cons_zero, List.set_cons_succ]
        refine wpAnyH_take (i := 14) (oi := ?oiz80) (v := ?vz80) ?hiz80 (by kernel_rfl) (by kernel_rfl) (by kernel_rfl) ?hQz80 ?hyz80 (by assumption) ?restz80
        case hiz80 => simp only [List.getElem?_toArray, List.getElem?_cons_zero, List.getElem?_cons_succ]; rfl
        case hQz80 => exact fun _ _ _ h => h
        case hyz80 => exact Or.inl ⟨by rfl, by intro w hSw; (try dsimp only at hSw); go_simp; with_reducible rfl⟩
        try simp only [Act.put, List.setIfInBounds_toArray, List.set_cons_zero, List.set_cons_succ]
        refine wpAnyH_done (by kernel_rfl) ?_ _
        go_wp2
        go_roundw
        case rel => exact ⟨a.length, k + 1, _, by omega, by omega, by go_num, by go_num, HO9.out, by rw [List.append_assoc, List.singleton_append, ← HN.out]; exact HD.out, by have := HLL.out; simp only [List.length_append, List.length_singleton]; omega, HX9.out⟩
        case measure => simp [intOf]; omega
      · have hbe : k = b.length := by omega
        subst hbe
        rw [chgI_end, List.append_nil] at HD
        go_wp2
        go_ret
        exact ⟨_, rfl, by rw [← HD.out]; exact HO.out, HX.out⟩
end Go.Proofs.Ytmndkbheehcoaaa
/- The changes between two maps: the program. No condition. -/
namespace Go.Proofs.Ytmndkbheehcoaaa
open Go.RowKit
set_option linter.unusedVariables false
set_option linter.unusedSimpArgs false

theorem RdL.step {w : World} {S : Nat → Prop} {g o c n : Nat} {xs : List En} (h : RdL tEnt w S (.slice (some ⟨g, o, none⟩) n c) xs) (hn : 0 < n) : RdL tEnt w S (.slice (if c = 1 then some ⟨g, o, none⟩ else some ⟨g, o + 2, none⟩) (n - 1) (c - 1)) (xs.drop 1) := by
  obtain ⟨A', c', e, _⟩ := id h
  obtain ⟨e1, rfl, e3⟩ := Value.slice.inj e
  have := h.cut (k := 1) (by omega)
  have e4 : (if c = 1 then (some ⟨g, o, none⟩ : Option Addr) else (some (⟨g, o, none⟩ : Addr)).map (·.add (1 * tEnt.sz))) = if c = 1 then some ⟨g, o, none⟩ else some ⟨g, o + 2, none⟩ := by
    split
    · rfl
    · simp [Addr.add_lit, tEnt]
  rw [e4] at this
  exact this
theorem RdL.first {w : World} {S : Nat → Prop} {A : Option Addr} {c n : Nat} {xs : List En} (h : RdL tEnt w S (.slice A n c) xs) (hn : 0 < n) : n = xs.length ∧ n ≤ c ∧ ∃ g o, A = some ⟨g, o, none⟩ ∧ ∀ h0 : 0 < xs.length, ∀ W, Ext w W → W.cell? ⟨g, o, none⟩ = some (.string xs[0].1) ∧ W.cell? ⟨g, o + 1, none⟩ = some (.string xs[0].2) := by
  obtain ⟨A', c', e, h1, h2, h3, h4⟩ := id h
  obtain ⟨rfl, rfl, rfl⟩ := Value.slice.inj e
  obtain ⟨g, o, hp, _, hc⟩ := h3.elem h4 0 hn
  refine ⟨rfl, h1, g, o, hp, fun h0 W hW => ⟨hW.cell ?_, hW.cell ?_⟩⟩
  · have := hc 0 (.string xs[0].1) rfl
    have e : o + 0 * tEnt.sz + 0 = o := by rw [Nat.zero_mul]; rfl
    rwa [e] at this
  · have := hc 1 (.string xs[0].2) rfl
    have e : o + 0 * tEnt.sz + 1 = o + 1 := by rw [Nat.zero_mul]
    rwa [e] at this
set_option maxHeartbeats 1000000 in
set_option maxRecDepth 100000 in
theorem changes_any (v u : Value) (a b : List En) (h64a : a.length ≤ 64) (h64b : b.length ≤ 64) (w : World) (S S' : Nat → Prop) (h : RdL tEnt w S v a) (h' : RdL tEnt w S' u b) :
    Calls Try.prog 96 #[v, u] w fun e w' => ∃ v', e = .returned v' ∧ Own tChg 90 w' w.heap.size v' (chgI a b 0 0) ∧ Ext w w' := by
  have HKa := Lib.hid (show ∀ x ∈ a, tEnt.ok x from h.choose_spec.choose_spec.2.2.2.2)
  have HKb := Lib.hid (show ∀ x ∈ b, tEnt.ok x from h'.choose_spec.choose_spec.2.2.2.2)
  have HA := Lib.hid h
  have HB := Lib.hid h'
  obtain ⟨A, capa, rfl, hcapa, _⟩ := h
  obtain ⟨B, capb, rfl, hcapb, _⟩ := h'
  obtain ⟨R, hR⟩ : ∃ R, chgI a b 0 0 = R := ⟨_, rfl⟩
  rw [hR]
  have HR := Lib.hid hR
  clear hR
  go_enter Try.func96, Try.ntmps96
  go_wp2_with fail
  go_loopw [0, 1, 5] (fun va vb o wr => ∃ (i k : Nat) (done : List Chg) (A1 B1 : Option Addr) (c1 d1 : Nat), i ≤ a.length ∧ k ≤ b.length ∧ va = .slice A1 (a.length - i) c1 ∧ vb = .slice B1 (b.length - k) d1 ∧ RdL tEnt w S (.slice A1 (a.length - i) c1) (a.drop i) ∧ RdL tEnt w S' (.slice B1 (b.length - k) d1) (b.drop k) ∧ Own tChg 90 wr w.heap.size o done ∧ done ++ chgI a b i k = R ∧ done.length ≤ i + k ∧ Ext w wr) (fun va vb _ _ => lenV va + lenV vb)
  case atStart => exact ⟨0, 0, [], A, B, capa, capb, by omega, by omega, rfl, rfl, HA.out, HB.out, Own.empty tChg _ 90 _ (Nat.le_refl _), HR.out, by simp, ext_alloc _ _⟩
  case round =>
    obtain ⟨i, k, done, A1, B1, c1, d1, hi, hk, rfl, rfl, hra, hrb, ho, hd, hl, hx⟩ := hrel
    obtain ⟨C, cn, cc, rfl⟩ := ho.shape3
    have HX := Lib.hid hx
    have HO := Lib.hid ho
    have HD := Lib.hid hd
    have HRa := Lib.hid hra
    have HRb := Lib.hid hrb
    have HL := Lib.hid (show done.length ≤ 128 by omega)
    have HLL := Lib.hid hl
    clear hx ho hd hl HR hra hrb HA HB
    generalize hna : a.length - i = na at HRa ⊢
    generalize hnb : b.length - k = nb at HRb ⊢
    have HNA := Lib.hid hna
    have HNB := Lib.hid hnb
    clear hna hnb
    by_cases ha : 0 < na
    · by_cases hb : 0 < nb
      · have hila : i < a.length := by have := HNA.out; omega
        have hda : (a.drop i)[0]'(by rw [List.length_drop]; omega) = a[i] := by simp
        obtain ⟨hnx, hca, ga, oa, hpa, hcell⟩ := HRa.out.first ha
        clear hnx
        obtain rfl := hpa
        have hcl := hcell (by rw [List.length_drop]; omega)
        rw [hda] at hcl
        have a0 : ∀ W, Ext w W → W.cell? ⟨ga, oa, none⟩ = some (.string a[i].1) := fun W hW => (hcl W hW).1
        have a1 : ∀ W, Ext w W → W.cell? ⟨ga, oa + 1, none⟩ = some (.string a[i].2) := fun W hW => (hcl W hW).2
        have hao : tEnt.ok a[i] := HKa.out _ (List.getElem_mem hila)
        have a0r := a0 _ HX.out
        have a1r := a1 _ HX.out
        have HSa := Lib.hid (show RdL tEnt w S (.slice (if c1 = 1 then some ⟨ga, oa, none⟩ else some ⟨ga, oa + 2, none⟩) (na - 1) (c1 - 1)) (a.drop (i + 1)) by have := HRa.out.step ha; rwa [List.drop_drop] at this)
        have ha1 : (1 : Int) ≤ (na : Int) := by omega
        have ha2 : (na : Int) ≤ (c1 : Int) := by omega
        have ha3 : (0 : Int) < (na : Int) := by omega
        have hae : ((na : Int) == 0) = false := by rw [beq_eq_false_iff_ne]; omega
        clear hcell hcl hda hca
        have hilb : k < b.length := by have := HNB.out; omega
        have hdb : (b.drop k)[0]'(by rw [List.length_drop]; omega) = b[k] := by simp
        obtain ⟨hnx, hcb, gb, ob, hpb, hcell⟩ := HRb.out.first hb
        clear hnx
        obtain rfl := hpb
        have hcl := hcell (by rw [List.length_drop]; omega)
        rw [hdb] at hcl
        have b0 : ∀ W, Ext w W → W.cell? ⟨gb, ob, none⟩ = some (.string b[k].1) := fun W hW => (hcl W hW).1
        have b1 : ∀ W, Ext w W → W.cell? ⟨gb, ob + 1, none⟩ = some (.string b[k].2) := fun W hW => (hcl W hW).2
        have hbo : tEnt.ok b[k] := HKb.out _ (List.getElem_mem hilb)
        have b0r := b0 _ HX.out
        have b1r := b1 _ HX.out
        have HSb := Lib.hid (show RdL tEnt w S' (.slice (if d1 = 1 then some ⟨gb, ob, none⟩ else some ⟨gb, ob + 2, none⟩) (nb - 1) (d1 - 1)) (b.drop (k + 1)) by have := HRb.out.step hb; rwa [List.drop_drop] at this)
        have hb1 : (1 : Int) ≤ (nb : Int) := by omega
        have hb2 : (nb : Int) ≤ (d1 : Int) := by omega
        have hb3 : (0 : Int) < (nb : Int) := by omega
        have hbe : ((nb : Int) == 0) = false := by rw [beq_eq_false_iff_ne]; omega
        clear hcell hcl hdb hcb
        have q1 := ltB_eq a[i].1 b[k].1
        have q2 := ltB_eq b[k].1 a[i].1
        cases h1 : ltB a[i].1 b[k].1 with
        | true =>
          rw [h1] at q1
          have HCO := Lib.hid (show tChg.ok (⟨a[i].1, true, a[i].2, false, ⟨#[]⟩⟩ : Chg) from ⟨hao.1, hao.2, by show (0 : Nat) ≤ 140737488351232; decide⟩)
          have HN := Lib.hid (chgI_del hila hk (fun _ => h1))
          go_wp2_with fail
          go_quiet (fail)
          go_wp2_with fail
          refine wp_world (w0 := wr) ((Drawn.refl _).drewN _) (fun wq hwq => ?_)
          have HXq := Lib.hid (HX.out.trans hwq.ext)
          have HOq := Lib.hid (HO.out.ext hwq.ext)
          clear hwq
          refine wp_region_held_drew (S := fun W => Ext w W) (by kernel_rfl) HXq.out.drew (fun hHeld => ?_)
          have HOz := Lib.hid (show Own tChg 90 wq.drew w.heap.size (.slice C cn cc) done from HOq.out)
          generalize wq.drew = wz at hHeld HOz ⊢
          refine wpAnyH_take (i := 0) (oi := ?oiz81) (v := ?vz81) ?hiz81 (by kernel_rfl) (by kernel_rfl) (by kernel_rfl) ?hQz81 ?hyz81 (by assumption) ?restz81
          case hiz81 => simp only [List.getElem?_toArray, List.getElem?_cons_zero, List.getElem?_cons_succ]; rfl
          case hQz81 => exact fun _ _ _ h => h
          case hyz81 => exact Or.inl ⟨by rfl, by intro w hSw; (try dsimp only at hSw); go_simp; with_reducible rfl⟩
          try simp only [Act.put, List.setIfInBounds_toArray, List.set_cons_zero, List.set_cons_succ]
          refine wpAnyH_take (i := 1) (oi := ?oiz82) (v := ?vz82) ?hiz82 (by kernel_rfl) (by kernel_rfl) (by kernel_rfl) ?hQz82 ?hyz82 (by assumption) ?restz82
          case hiz82 => simp only [List.getElem?_toArray, List.getElem?_cons_zero, List.getElem?_cons_succ]; rfl
          case hQz82 => exact fun _ _ _ h => h
          case hyz82 => exact Or.inl ⟨by rfl, by intro w hSw; (try dsimp only at hSw); go_simp; with_reducible rfl⟩
          try simp only [Act.put, List.setIfInBounds_toArray, List.set_cons_zero, List.set_cons_succ]
          refine wpAnyH_take (i := 2) (oi := ?oiz83) (v := ?vz83) ?hiz83 (by kernel_rfl) (by kernel_rfl) (by kernel_rfl) ?hQz83 ?hyz83 (by assumption) ?restz83
          case hiz83 => simp only [List.getElem?_toArray, List.getElem?_cons_zero, List.getElem?_cons_succ]; rfl
          case hQz83 => exact fun _ _ _ h => h
          case hyz83 => exact Or.inl ⟨by rfl, by intro w hSw; (try dsimp only at hSw); go_simp; with_reducible rfl⟩
          try simp only [Act.put, List.setIfInBounds_toArray, List.set_cons_zero, List.set_cons_succ]
          refine wpAnyH_take (i := 3) (oi := ?oiz84) (v := ?vz84) ?hiz84 (by kernel_rfl) (by kernel_rfl) (by kernel_rfl) ?hQz84 ?hyz84 (by assumption) ?restz84
          case hiz84 => simp only [List.getElem?_toArray, List.getElem?_cons_zero, List.getElem?_cons_succ]; rfl
          case hQz84 => exact fun _ _ _ h => h
          case hyz84 => exact Or.inl ⟨by rfl, by intro w hSw; (try dsimp only at hSw); go_simp; with_reducible rfl⟩
          try simp only [Act.put, List.setIfInBounds_toArray, List.set_cons_zero, List.set_cons_succ]
          refine wpAnyH_take (i := 4) (oi := ?oiz85) (v := ?vz85) ?hiz85 (by kernel_rfl) (by kernel_rfl) (by kernel_rfl) ?hQz85 ?hyz85 (by assumption) ?restz85
          case hiz85 => simp only [List.getElem?_toArray, List.getElem?_cons_zero, List.getElem?_cons_succ]; rfl
          case hQz85 => exact fun _ _ _ h => h
          case hyz85 => exact Or.inl ⟨by rfl, by intro w hSw; (try dsimp only at hSw); go_simp; with_reducible rfl⟩
          try simp only [Act.put, List.setIfInBounds_toArray, List.set_cons_zero, List.set_cons_succ]
          refine wpAnyH_take (i := 5) (oi := ?oiz86) (v := ?vz86) ?hiz86 (by kernel_rfl) (by kernel_rfl) (by kernel_rfl) ?hQz86 ?hyz86 (by assumption) ?restz86
          case hiz86 => simp only [List.getElem?_toArray, List.getElem?_cons_zero, List.getElem?_cons_succ]; rfl
          case hQz86 => exact fun _ _ _ h => h
          case hyz86 => exact Or.inl ⟨by rfl, by intro w hSw; (try dsimp only at hSw); go_simp; with_reducible rfl⟩
          try simp only [Act.put, List.setIfInBounds_toArray, List.set_cons_zero, List.set_cons_succ]
          refine wpAnyH_take (i := 6) (oi := ?oiz87) (v := ?vz87) ?hiz87 (by kernel_rfl) (by kernel_rfl) (by kernel_rfl) ?hQz87 ?hyz87 (by assumption) ?restz87
          case hiz87 => simp only [List.getElem?_toArray, List.getElem?_cons_zero, List.getElem?_cons_succ]; rfl
          case hQz87 => exact fun _ _ _ h => h
          case hyz87 => exact Or.inl ⟨by rfl, by intro w hSw; (try dsimp only at hSw); go_simp; with_reducible rfl⟩
          try simp only [Act.put, List.setIfInBounds_toArray, List.set_cons_zero, List.set_cons_succ]
          refine wpAnyH_take (i := 7) (oi := ?oiz88) (v := ?vz88) ?hiz88 (by kernel_rfl) (by kernel_rfl) (by kernel_rfl) ?hQz88 ?hyz88 (by assumption) ?restz88
          case hiz88 => simp only [List.getElem?_toArray, List.getElem?_cons_zero, List.getElem?_cons_succ]; rfl
          case hQz88 => exact fun _ _ _ h => h
          case hyz88 => exact Or.inl ⟨by rfl, by intro w hSw; (try dsimp only at hSw); go_simp; with_reducible rfl⟩
          try simp only [Act.put, List.setIfInBounds_toArray, List.set_cons_zero, List.set_cons_succ]
          refine wpAnyH_take (i := 8) (oi := ?oiz89) (v := ?vz89) ?hiz89 (by kernel_rfl) (by kernel_rfl) (by kernel_rfl) ?hQz89 ?hyz89 (by assumption) ?restz89
          case hiz89 => simp only [List.getElem?_toArray, List.getElem?_cons_zero, List.getElem?_cons_succ]; rfl
          case hQz89 => exact fun _ _ _ h => h
          case hyz89 => exact Or.inl ⟨by rfl, by intro w hSw; (try dsimp only at hSw); go_simp; with_reducible rfl⟩
          try simp only [Act.put, List.setIfInBounds_toArray, List.set_cons_zero, List.set_cons_succ]
          refine wpAnyH_take (i := 9) (oi := ?oiz90) (v := ?vz90) ?hiz90 (by kernel_rfl) (by kernel_rfl) (by kernel_rfl) ?hQz90 ?hyz90 (by assumption) ?restz90
          case hiz90 => simp only [List.getElem?_toArray, List.getElem?_cons_zero, List.getElem?_cons_succ]; rfl
          case hQz90 => exact fun _ _ _ h => h
          case hyz90 => exact Or.inl ⟨by rfl, by intro w hSw; (try dsimp only at hSw); go_simp; with_reducible rfl⟩
          try simp only [Act.put, List.setIfInBounds_toArray, List.set_cons_zero, List.set_cons_succ]
          refine wpAnyH_ready (rs := [10]) (by kernel_rfl) (by simp) (AllReadyH.cons (o := ?oy9110) ?hy9110 (fun K hK => ?sy9110) AllReadyH.nil)
          case hy9110 => simp only [List.getElem?_toArray, List.getElem?_cons_zero, List.getElem?_cons_succ]; rfl
          go_simp
          have hH2 := hHeld.alloc (.cells (tChg.enc (⟨a[i].1, true, a[i].2, false, ⟨#[]⟩⟩ : Chg)).toArray 90)
          refine hK.out _ _ hH2 (fun _ => ?_)
          clear hK K hH2
          try simp only [Act.put, List.setIfInBounds_toArray, List.set_cons_zero, List.set_cons_succ]
          refine wpAnyH_ready (rs := [11]) (by kernel_rfl) (by simp) (AllReadyH.cons (o := ?oy9211) ?hy9211 (fun K hK => ?sy9211) AllReadyH.nil)
          case hy9211 => simp only [List.getElem?_toArray, List.getElem?_cons_zero, List.getElem?_cons_succ]; rfl
          refine stp_append rowChg rfl _ _ rfl (v := .slice C cn cc) rfl (HOz.out.alloc (.cells (tChg.enc (⟨a[i].1, true, a[i].2, false, ⟨#[]⟩⟩ : Chg)).toArray 90)) _ _ rfl (A := some ⟨wz.heap.size, 0, none⟩) (ys := [(⟨a[i].1, true, a[i].2, false, ⟨#[]⟩⟩ : Chg)]) rfl (rd_one (T := tChg) wz (⟨a[i].1, true, a[i].2, false, ⟨#[]⟩⟩ : Chg) HCO.out _) (by intro y hy; obtain rfl := List.mem_singleton.1 hy; exact HCO.out) (by have := HL.out; simp only [List.length_singleton]; omega) (hHeld.alloc _).size ?_
          intro v9 w9 ho1 hg1 hat1
          obtain ⟨C9, n9, c9, rfl⟩ := ho1.shape3
          have hH2 := (HOz.out.alloc (.cells (tChg.enc (⟨a[i].1, true, a[i].2, false, ⟨#[]⟩⟩ : Chg)).toArray 90)).ext_app (hHeld.alloc _) hg1
          refine hK.out _ _ hH2 (fun _ => ?_)
          have HO9 := Lib.hid ho1
          have HX9 := Lib.hid hH2
          clear hK K ho1 hg1 hat1 hH2 hHeld HOz
          try simp only [Act.put, List.setIfInBounds_toArray, List.set_cons_zero, List.set_cons_succ]
          refine wpAnyH_take (i := 12) (oi := ?oiz93) (v := ?vz93) ?hiz93 (by kernel_rfl) (by kernel_rfl) (by kernel_rfl) ?hQz93 ?hyz93 (by assumption) ?restz93
          case hiz93 => simp only [List.getElem?_toArray, List.getElem?_cons_zero, List.getElem?_cons_succ]; rfl
          case hQz93 => exact fun _ _ _ h => h
          case hyz93 => exact Or.inl ⟨by rfl, by intro w hSw; (try dsimp only at hSw); go_simp; with_reducible rfl⟩
          try simp only [Act.put, List.setIfInBounds_toArray, List.set_cons_zero, List.set_cons_succ]
          refine wpAnyH_done (by kernel_rfl) ?_ _
          go_wp2
          go_roundw
          case rel =>
            have e1 : na - 1 = a.length - (i + 1) := by have := HNA.out; omega
            have e2 : nb = b.length - (k) := by have := HNB.out; omega
            have f1 := HSa.out
            have f2 := HRb.out
            rw [e1] at f1
            rw [e2] at f2
            exact ⟨i + 1, k, _, _, _, _, _, by omega, by omega, by rw [e1], by rw [e2], f1, f2, HO9.out, by rw [List.append_assoc, List.singleton_append, ← HN.out]; exact HD.out, by have := HLL.out; simp only [List.length_append, List.length_singleton]; omega, HX9.out⟩
          case measure => simp [lenV]; omega
        | false =>
          rw [h1] at q1
          cases h2 : ltB b[k].1 a[i].1 with
          | true =>
            rw [h2] at q2
            have q4 : (a[i].1.toList == b[k].1.toList) = false := by rw [beq_eq_false_iff_ne]; exact fun e => ltB_ne h2 (toList_inj e).symm
            have HCO := Lib.hid (show tChg.ok (⟨b[k].1, false, ⟨#[]⟩, true, b[k].2⟩ : Chg) from ⟨hbo.1, by show (0 : Nat) ≤ 140737488351232; decide, hbo.2⟩)
            have HN := Lib.hid (chgI_add hi hilb (fun _ => h2))
            go_wp2_with fail
            go_quiet (fail)
            go_wp2_with fail
            go_quiet (fail)
            go_wp2_with fail
            refine wp_world (w0 := wr) (((Drawn.refl _).drewN _).drewN _) (fun wq hwq => ?_)
            have HXq := Lib.hid (HX.out.trans hwq.ext)
            have HOq := Lib.hid (HO.out.ext hwq.ext)
            clear hwq
            refine wp_region_held_drew (S := fun W => Ext w W) (by kernel_rfl) HXq.out.drew (fun hHeld => ?_)
            have HOz := Lib.hid (show Own tChg 90 wq.drew w.heap.size (.slice C cn cc) done from HOq.out)
            generalize wq.drew = wz at hHeld HOz ⊢
            refine wpAnyH_take (i := 0) (oi := ?oiz94) (v := ?vz94) ?hiz94 (by kernel_rfl) (by kernel_rfl) (by kernel_rfl) ?hQz94 ?hyz94 (by assumption) ?restz94
            case hiz94 => simp only [List.getElem?_toArray, List.getElem?_cons_zero, List.getElem?_cons_succ]; rfl
            case hQz94 => exact fun _ _ _ h => h
            case hyz94 => exact Or.inl ⟨by rfl, by intro w hSw; (try dsimp only at hSw); go_simp; with_reducible rfl⟩
            try simp only [Act.put, List.setIfInBounds_toArray, List.set_cons_zero, List.set_cons_succ]
            refine wpAnyH_take (i := 1) (oi := ?oiz95) (v := ?vz95) ?hiz95 (by kernel_rfl) (by kernel_rfl) (by kernel_rfl) ?hQz95 ?hyz95 (by assumption) ?restz95
            case hiz95 => simp only [List.getElem?_toArray, List.getElem?_cons_zero, List.getElem?_cons_succ]; rfl
            case hQz95 => exact fun _ _ _ h => h
            case hyz95 => exact Or.inl ⟨by rfl, by intro w hSw; (try dsimp only at hSw); go_simp; with_reducible rfl⟩
            try simp only [Act.put, List.setIfInBounds_toArray, List.set_cons_zero, List.set_cons_succ]
            refine wpAnyH_take (i := 2) (oi := ?oiz96) (v := ?vz96) ?hiz96 (by kernel_rfl) (by kernel_rfl) (by kernel_rfl) ?hQz96 ?hyz96 (by assumption) ?restz96
            case hiz96 => simp only [List.getElem?_toArray, List.getElem?_cons_zero, List.getElem?_cons_succ]; rfl
            case hQz96 => exact fun _ _ _ h => h
            case hyz96 => exact Or.inl ⟨by rfl, by intro w hSw; (try dsimp only at hSw); go_simp; with_reducible rfl⟩
            try simp only [Act.put, List.setIfInBounds_toArray, List.set_cons_zero, List.set_cons_succ]
            refine wpAnyH_take (i := 3) (oi := ?oiz97) (v := ?vz97) ?hiz97 (by kernel_rfl) (by kernel_rfl) (by kernel_rfl) ?hQz97 ?hyz97 (by assumption) ?restz97
            case hiz97 => simp only [List.getElem?_toArray, List.getElem?_cons_zero, List.getElem?_cons_succ]; rfl
            case hQz97 => exact fun _ _ _ h => h
            case hyz97 => exact Or.inl ⟨by rfl, by intro w hSw; (try dsimp only at hSw); go_simp; with_reducible rfl⟩
            try simp only [Act.put, List.setIfInBounds_toArray, List.set_cons_zero, List.set_cons_succ]
            refine wpAnyH_take (i := 4) (oi := ?oiz98) (v := ?vz98) ?hiz98 (by kernel_rfl) (by kernel_rfl) (by kernel_rfl) ?hQz98 ?hyz98 (by assumption) ?restz98
            case hiz98 => simp only [List.getElem?_toArray, List.getElem?_cons_zero, List.getElem?_cons_succ]; rfl
            case hQz98 => exact fun _ _ _ h => h
            case hyz98 => exact Or.inl ⟨by rfl, by intro w hSw; (try dsimp only at hSw); go_simp; with_reducible rfl⟩
            try simp only [Act.put, List.setIfInBounds_toArray, List.set_cons_zero, List.set_cons_succ]
            refine wpAnyH_take (i := 5) (oi := ?oiz99) (v := ?vz99) ?hiz99 (by kernel_rfl) (by kernel_rfl) (by kernel_rfl) ?hQz99 ?hyz99 (by assumption) ?restz99
            case hiz99 => simp only [List.getElem?_toArray, List.getElem?_cons_zero, List.getElem?_cons_succ]; rfl
            case hQz99 => exact fun _ _ _ h => h
            case hyz99 => exact Or.inl ⟨by rfl, by intro w hSw; (try dsimp only at hSw); go_simp; with_reducible rfl⟩
            try simp only [Act.put, List.setIfInBounds_toArray, List.set_cons_zero, List.set_cons_succ]
            refine wpAnyH_take (i := 6) (oi := ?oiz100) (v := ?vz100) ?hiz100 (by kernel_rfl) (by kernel_rfl) (by kernel_rfl) ?hQz100 ?hyz100 (by assumption) ?restz100
            case hiz100 => simp only [List.getElem?_toArray, List.getElem?_cons_zero, List.getElem?_cons_succ]; rfl
            case hQz100 => exact fun _ _ _ h => h
            case hyz100 => exact Or.inl ⟨by rfl, by intro w hSw; (try dsimp only at hSw); go_simp; with_reducible rfl⟩
            try simp only [Act.put, List.setIfInBounds_toArray, List.set_cons_zero, List.set_cons_succ]
            refine wpAnyH_take (i := 7) (oi := ?oiz101) (v := ?vz101) ?hiz101 (by kernel_rfl) (by kernel_rfl) (by kernel_rfl) ?hQz101 ?hyz101 (by assumption) ?restz101
            case hiz101 => simp only [List.getElem?_toArray, List.getElem?_cons_zero, List.getElem?_cons_succ]; rfl
            case hQz101 => exact fun _ _ _ h => h
            case hyz101 => exact Or.inl ⟨by rfl, by intro w hSw; (try dsimp only at hSw); go_simp; with_reducible rfl⟩
            try simp only [Act.put, List.setIfInBounds_toArray, List.set_cons_zero, List.set_cons_succ]
            refine wpAnyH_take (i := 8) (oi := ?oiz102) (v := ?vz102) ?hiz102 (by kernel_rfl) (by kernel_rfl) (by kernel_rfl) ?hQz102 ?hyz102 (by assumption) ?restz102
            case hiz102 => simp only [List.getElem?_toArray, List.getElem?_cons_zero, List.getElem?_cons_succ]; rfl
            case hQz102 => exact fun _ _ _ h => h
            case hyz102 => exact Or.inl ⟨by rfl, by intro w hSw; (try dsimp only at hSw); go_simp; with_reducible rfl⟩
            try simp only [Act.put, List.setIfInBounds_toArray, List.set_cons_zero, List.set_cons_succ]
            refine wpAnyH_take (i := 9) (oi := ?oiz103) (v := ?vz103) ?hiz103 (by kernel_rfl) (by kernel_rfl) (by kernel_rfl) ?hQz103 ?hyz103 (by assumption) ?restz103
            case hiz103 => simp only [List.getElem?_toArray, List.getElem?_cons_zero, List.getElem?_cons_succ]; rfl
            case hQz103 => exact fun _ _ _ h => h
            case hyz103 => exact Or.inl ⟨by rfl, by intro w hSw; (try dsimp only at hSw); go_simp; with_reducible rfl⟩
            try simp only [Act.put, List.setIfInBounds_toArray, List.set_cons_zero, List.set_cons_succ]
            refine wpAnyH_ready (rs := [10]) (by kernel_rfl) (by simp) (AllReadyH.cons (o := ?oy10410) ?hy10410 (fun K hK => ?sy10410) AllReadyH.nil)
            case hy10410 => simp only [List.getElem?_toArray, List.getElem?_cons_zero, List.getElem?_cons_succ]; rfl
            go_simp
            have hH2 := hHeld.alloc (.cells (tChg.enc (⟨b[k].1, false, ⟨#[]⟩, true, b[k].2⟩ : Chg)).toArray 90)
            refine hK.out _ _ hH2 (fun _ => ?_)
            clear hK K hH2
            try simp only [Act.put, List.setIfInBounds_toArray, List.set_cons_zero, List.set_cons_succ]
            refine wpAnyH_ready (rs := [11]) (by kernel_rfl) (by simp) (AllReadyH.cons (o := ?oy10511) ?hy10511 (fun K hK => ?sy10511) AllReadyH.nil)
            case hy10511 => simp only [List.getElem?_toArray, List.getElem?_cons_zero, List.getElem?_cons_succ]; rfl
            refine stp_append rowChg rfl _ _ rfl (v := .slice C cn cc) rfl (HOz.out.alloc (.cells (tChg.enc (⟨b[k].1, false, ⟨#[]⟩, true, b[k].2⟩ : Chg)).toArray 90)) _ _ rfl (A := some ⟨wz.heap.size, 0, none⟩) (ys := [(⟨b[k].1, false, ⟨#[]⟩, true, b[k].2⟩ : Chg)]) rfl (rd_one (T := tChg) wz (⟨b[k].1, false, ⟨#[]⟩, true, b[k].2⟩ : Chg) HCO.out _) (by intro y hy; obtain rfl := List.mem_singleton.1 hy; exact HCO.out) (by have := HL.out; simp only [List.length_singleton]; omega) (hHeld.alloc _).size ?_
            intro v9 w9 ho1 hg1 hat1
            obtain ⟨C9, n9, c9, rfl⟩ := ho1.shape3
            have hH2 := (HOz.out.alloc (.cells (tChg.enc (⟨b[k].1, false, ⟨#[]⟩, true, b[k].2⟩ : Chg)).toArray 90)).ext_app (hHeld.alloc _) hg1
            refine hK.out _ _ hH2 (fun _ => ?_)
            have HO9 := Lib.hid ho1
            have HX9 := Lib.hid hH2
            clear hK K ho1 hg1 hat1 hH2 hHeld HOz
            try simp only [Act.put, List.setIfInBounds_toArray, List.set_cons_zero, List.set_cons_succ]
            refine wpAnyH_take (i := 12) (oi := ?oiz106) (v := ?vz106) ?hiz106 (by kernel_rfl) (by kernel_rfl) (by kernel_rfl) ?hQz106 ?hyz106 (by assumption) ?restz106
            case hiz106 => simp only [List.getElem?_toArray, List.getElem?_cons_zero, List.getElem?_cons_succ]; rfl
            case hQz106 => exact fun _ _ _ h => h
            case hyz106 => exact Or.inl ⟨by rfl, by intro w hSw; (try dsimp only at hSw); go_simp; with_reducible rfl⟩
            try simp only [Act.put, List.setIfInBounds_toArray, List.set_cons_zero, List.set_cons_succ]
            refine wpAnyH_done (by kernel_rfl) ?_ _
            go_wp2
            go_roundw
            case rel =>
              have e1 : na = a.length - (i) := by have := HNA.out; omega
              have e2 : nb - 1 = b.length - (k + 1) := by have := HNB.out; omega
              have f1 := HRa.out
              have f2 := HSb.out
              rw [e1] at f1
              rw [e2] at f2
              exact ⟨i, k + 1, _, _, _, _, _, by omega, by omega, by rw [e1], by rw [e2], f1, f2, HO9.out, by rw [List.append_assoc, List.singleton_append, ← HN.out]; exact HD.out, by have := HLL.out; simp only [List.length_append, List.length_singleton]; omega, HX9.out⟩
            case measure => simp [lenV]; omega
          | false =>
            rw [h2] at q2
            have q4 : (a[i].1.toList == b[k].1.toList) = true := by rw [ltB_total h1 h2]; simp
            have hboth := chgI_both hila hilb h1 h2
            by_cases h3 : a[i].2 = b[k].2
            · rw [if_pos h3] at hboth
              have HN := Lib.hid hboth
              have q3 : (a[i].2.toList == b[k].2.toList) = true := by rw [h3]; simp
              clear hboth h3
              go_wp2_with fail
              go_quiet (fail)
              go_wp2_with fail
              go_quiet (fail)
              go_wp2_with fail
              go_quiet (fail)
              go_wp2_with fail
              go_quiet (fail)
              go_wp2
              go_roundw
              case rel =>
                have e1 : na - 1 = a.length - (i + 1) := by have := HNA.out; omega
                have e2 : nb - 1 = b.length - (k + 1) := by have := HNB.out; omega
                have f1 := HSa.out
                have f2 := HSb.out
                rw [e1] at f1
                rw [e2] at f2
                exact ⟨i + 1, k + 1, done, _, _, _, _, by omega, by omega, by rw [e1], by rw [e2], f1, f2, (((HO.out.drewN _).drewN _).drewN _).drewN _, by rw [← HN.out]; exact HD.out, by have := HLL.out; omega, (((HX.out.drewN _).drewN _).drewN _).drewN _⟩
              case measure => simp [lenV]; omega
            · rw [if_neg h3] at hboth
              have q3 : (a[i].2.toList == b[k].2.toList) = false := by rw [beq_eq_false_iff_ne]; exact fun e => h3 (toList_inj e)
              have HCO := Lib.hid (show tChg.ok (⟨a[i].1, true, a[i].2, true, b[k].2⟩ : Chg) from ⟨hao.1, hao.2, hbo.2⟩)
              have HN := Lib.hid (hboth)
              go_wp2_with fail
              go_quiet (fail)
              go_wp2_with fail
              go_quiet (fail)
              go_wp2_with fail
              go_quiet (fail)
              go_wp2_with fail
              refine wp_world (w0 := wr) ((((Drawn.refl _).drewN _).drewN _).drewN _) (fun wq hwq => ?_)
              have HXq := Lib.hid (HX.out.trans hwq.ext)
              have HOq := Lib.hid (HO.out.ext hwq.ext)
              clear hwq
              refine wp_region_held_drew (S := fun W => Ext w W) (by kernel_rfl) HXq.out.drew (fun hHeld => ?_)
              have HOz := Lib.hid (show Own tChg 90 wq.drew w.heap.size (.slice C cn cc) done from HOq.out)
              generalize wq.drew = wz at hHeld HOz ⊢
              refine wpAnyH_take (i := 0) (oi := ?oiz107) (v := ?vz107) ?hiz107 (by kernel_rfl) (by kernel_rfl) (by kernel_rfl) ?hQz107 ?hyz107 (by assumption) ?restz107
              case hiz107 => simp only [List.getElem?_toArray, List.getElem?_cons_zero, List.getElem?_cons_succ]; rfl
              case hQz107 => exact fun _ _ _ h => h
              case hyz107 => exact Or.inl ⟨by rfl, by intro w hSw; (try dsimp only at hSw); go_simp; with_reducible rfl⟩
              try simp only [Act.put, List.setIfInBounds_toArray, List.set_cons_zero, List.set_cons_succ]
              refine wpAnyH_take (i := 1) (oi := ?oiz108) (v := ?vz108) ?hiz108 (by kernel_rfl) (by kernel_rfl) (by kernel_rfl) ?hQz108 ?hyz108 (by assumption) ?restz108
              case hiz108 => simp only [List.getElem?_toArray, List.getElem?_cons_zero, List.getElem?_cons_succ]; rfl
              case hQz108 => exact fun _ _ _ h => h
              case hyz108 => exact Or.inl ⟨by rfl, by intro w hSw; (try dsimp only at hSw); go_simp; with_reducible rfl⟩
              try simp only [Act.put, List.setIfInBounds_toArray, List.set_cons_zero, List.set_cons_succ]
              refine wpAnyH_take (i := 2) (oi := ?oiz109) (v := ?vz109) ?hiz109 (by kernel_rfl) (by kernel_rfl) (by kernel_rfl) ?hQz109 ?hyz109 (by assumption) ?restz109
              case hiz109 => simp only [List.getElem?_toArray, List.getElem?_cons_zero, List.getElem?_cons_succ]; rfl
              case hQz109 => exact fun _ _ _ h => h
              case hyz109 => exact Or.inl ⟨by rfl, by intro w hSw; (try dsimp only at hSw); go_simp; with_reducible rfl⟩
              try simp only [Act.put, List.setIfInBounds_toArray, List.set_cons_zero, List.set_cons_succ]
              refine wpAnyH_take (i := 3) (oi := ?oiz110) (v := ?vz110) ?hiz110 (by kernel_rfl) (by kernel_rfl) (by kernel_rfl) ?hQz110 ?hyz110 (by assumption) ?restz110
              case hiz110 => simp only [List.getElem?_toArray, List.getElem?_cons_zero, List.getElem?_cons_succ]; rfl
              case hQz110 => exact fun _ _ _ h => h
              case hyz110 => exact Or.inl ⟨by rfl, by intro w hSw; (try dsimp only at hSw); go_simp; with_reducible rfl⟩
              try simp only [Act.put, List.setIfInBounds_toArray, List.set_cons_zero, List.set_cons_succ]
              refine wpAnyH_take (i := 4) (oi := ?oiz111) (v := ?vz111) ?hiz111 (by kernel_rfl) (by kernel_rfl) (by kernel_rfl) ?hQz111 ?hyz111 (by assumption) ?restz111
              case hiz111 => simp only [List.getElem?_toArray, List.getElem?_cons_zero, List.getElem?_cons_succ]; rfl
              case hQz111 => exact fun _ _ _ h => h
              case hyz111 => exact Or.inl ⟨by rfl, by intro w hSw; (try dsimp only at hSw); go_simp; with_reducible rfl⟩
              try simp only [Act.put, List.setIfInBounds_toArray, List.set_cons_zero, List.set_cons_succ]
              refine wpAnyH_take (i := 5) (oi := ?oiz112) (v := ?vz112) ?hiz112 (by kernel_rfl) (by kernel_rfl) (by kernel_rfl) ?hQz112 ?hyz112 (by assumption) ?restz112
              case hiz112 => simp only [List.getElem?_toArray, List.getElem?_cons_zero, List.getElem?_cons_succ]; rfl
              case hQz112 => exact fun _ _ _ h => h
              case hyz112 => exact Or.inl ⟨by rfl, by intro w hSw; (try dsimp only at hSw); go_simp; with_reducible rfl⟩
              try simp only [Act.put, List.setIfInBounds_toArray, List.set_cons_zero, List.set_cons_succ]
              refine wpAnyH_take (i := 6) (oi := ?oiz113) (v := ?vz113) ?hiz113 (by kernel_rfl) (by kernel_rfl) (by kernel_rfl) ?hQz113 ?hyz113 (by assumption) ?restz113
              case hiz113 => simp only [List.getElem?_toArray, List.getElem?_cons_zero, List.getElem?_cons_succ]; rfl
              case hQz113 => exact fun _ _ _ h => h
              case hyz113 => exact Or.inl ⟨by rfl, by intro w hSw; (try dsimp only at hSw); go_simp; with_reducible rfl⟩
              try simp only [Act.put, List.setIfInBounds_toArray, List.set_cons_zero, List.set_cons_succ]
              refine wpAnyH_take (i := 7) (oi := ?oiz114) (v := ?vz114) ?hiz114 (by kernel_rfl) (by kernel_rfl) (by kernel_rfl) ?hQz114 ?hyz114 (by assumption) ?restz114
              case hiz114 => simp only [List.getElem?_toArray, List.getElem?_cons_zero, List.getElem?_cons_succ]; rfl
              case hQz114 => exact fun _ _ _ h => h
              case hyz114 => exact Or.inl ⟨by rfl, by intro w hSw; (try dsimp only at hSw); go_simp; with_reducible rfl⟩
              try simp only [Act.put, List.setIfInBounds_toArray, List.set_cons_zero, List.set_cons_succ]
              refine wpAnyH_take (i := 8) (oi := ?oiz115) (v := ?vz115) ?hiz115 (by kernel_rfl) (by kernel_rfl) (by kernel_rfl) ?hQz115 ?hyz115 (by assumption) ?restz115
              case hiz115 => simp only [List.getElem?_toArray, List.getElem?_cons_zero, List.getElem?_cons_succ]; rfl
              case hQz115 => exact fun _ _ _ h => h
              case hyz115 => exact Or.inl ⟨by rfl, by intro w hSw; (try dsimp only at hSw); go_simp; with_reducible rfl⟩
              try simp only [Act.put, List.setIfInBounds_toArray, List.set_cons_zero, List.set_cons_succ]
              refine wpAnyH_take (i := 9) (oi := ?oiz116) (v := ?vz116) ?hiz116 (by kernel_rfl) (by kernel_rfl) (by kernel_rfl) ?hQz116 ?hyz116 (by assumption) ?restz116
              case hiz116 => simp only [List.getElem?_toArray, List.getElem?_cons_zero, List.getElem?_cons_succ]; rfl
              case hQz116 => exact fun _ _ _ h => h
              case hyz116 => exact Or.inl ⟨by rfl, by intro w hSw; (try dsimp only at hSw); go_simp; with_reducible rfl⟩
              try simp only [Act.put, List.setIfInBounds_toArray, List.set_cons_zero, List.set_cons_succ]
              refine wpAnyH_take (i := 10) (oi := ?oiz117) (v := ?vz117) ?hiz117 (by kernel_rfl) (by kernel_rfl) (by kernel_rfl) ?hQz117 ?hyz117 (by assumption) ?restz117
              case hiz117 => simp only [List.getElem?_toArray, List.getElem?_cons_zero, List.getElem?_cons_succ]; rfl
              case hQz117 => exact fun _ _ _ h => h
              case hyz117 => exact Or.inl ⟨by rfl, by intro w hSw; (try dsimp only at hSw); go_simp; with_reducible rfl⟩
              try simp only [Act.put, List.setIfInBounds_toArray, List.set_cons_zero, List.set_cons_succ]
              refine wpAnyH_take (i := 11) (oi := ?oiz118) (v := ?vz118) ?hiz118 (by kernel_rfl) (by kernel_rfl) (by kernel_rfl) ?hQz118 ?hyz118 (by assumption) ?restz118
              case hiz118 => simp only [List.getElem?_toArray, List.getElem?_cons_zero, List.getElem?_cons_succ]; rfl
              case hQz118 => exact fun _ _ _ h => h
              case hyz118 => exact Or.inl ⟨by rfl, by intro w hSw; (try dsimp only at hSw); go_simp; with_reducible rfl⟩
              try simp only [Act.put, List.setIfInBounds_toArray, List.set_cons_zero, List.set_cons_succ]
              refine wpAnyH_take (i := 12) (oi := ?oiz119) (v := ?vz119) ?hiz119 (by kernel_rfl) (by kernel_rfl) (by kernel_rfl) ?hQz119 ?hyz119 (by assumption) ?restz119
              case hiz119 => simp only [List.getElem?_toArray, List.getElem?_cons_zero, List.getElem?_cons_succ]; rfl
              case hQz119 => exact fun _ _ _ h => h
              case hyz119 => exact Or.inl ⟨by rfl, by intro w hSw; (try dsimp only at hSw); go_simp; with_reducible rfl⟩
              try simp only [Act.put, List.setIfInBounds_toArray, List.set_cons_zero, List.set_cons_succ]
              refine wpAnyH_take (i := 13) (oi := ?oiz120) (v := ?vz120) ?hiz120 (by kernel_rfl) (by kernel_rfl) (by kernel_rfl) ?hQz120 ?hyz120 (by assumption) ?restz120
              case hiz120 => simp only [List.getElem?_toArray, List.getElem?_cons_zero, List.getElem?_cons_succ]; rfl
              case hQz120 => exact fun _ _ _ h => h
              case hyz120 => exact Or.inl ⟨by rfl, by intro w hSw; (try dsimp only at hSw); go_simp; with_reducible rfl⟩
              try simp only [Act.put, List.setIfInBounds_toArray, List.set_cons_zero, List.set_cons_succ]
              refine wpAnyH_ready (rs := [14]) (by kernel_rfl) (by simp) (AllReadyH.cons (o := ?oy12114) ?hy12114 (fun K hK => ?sy12114) AllReadyH.nil)
              case hy12114 => simp only [List.getElem?_toArray, List.getElem?_cons_zero, List.getElem?_cons_succ]; rfl
              go_simp
              have hH2 := hHeld.alloc (.cells (tChg.enc (⟨a[i].1, true, a[i].2, true, b[k].2⟩ : Chg)).toArray 90)
              refine hK.out _ _ hH2 (fun _ => ?_)
              clear hK K hH2
              try simp only [Act.put, List.setIfInBounds_toArray, List.set_cons_zero, List.set_cons_succ]
              refine wpAnyH_ready (rs := [15]) (by kernel_rfl) (by simp) (AllReadyH.cons (o := ?oy12215) ?hy12215 (fun K hK => ?sy12215) AllReadyH.nil)
              case hy12215 => simp only [List.getElem?_toArray, List.getElem?_cons_zero, List.getElem?_cons_succ]; rfl
              refine stp_append rowChg rfl _ _ rfl (v := .slice C cn cc) rfl (HOz.out.alloc (.cells (tChg.enc (⟨a[i].1, true, a[i].2, true, b[k].2⟩ : Chg)).toArray 90)) _ _ rfl (A := some ⟨wz.heap.size, 0, none⟩) (ys := [(⟨a[i].1, true, a[i].2, true, b[k].2⟩ : Chg)]) rfl (rd_one (T := tChg) wz (⟨a[i].1, true, a[i].2, true, b[k].2⟩ : Chg) HCO.out _) (by intro y hy; obtain rfl := List.mem_singleton.1 hy; exact HCO.out) (by have := HL.out; simp only [List.length_singleton]; omega) (hHeld.alloc _).size ?_
              intro v9 w9 ho1 hg1 hat1
              obtain ⟨C9, n9, c9, rfl⟩ := ho1.shape3
              have hH2 := (HOz.out.alloc (.cells (tChg.enc (⟨a[i].1, true, a[i].2, true, b[k].2⟩ : Chg)).toArray 90)).ext_app (hHeld.alloc _) hg1
              refine hK.out _ _ hH2 (fun _ => ?_)
              have HO9 := Lib.hid ho1
              have HX9 := Lib.hid hH2
              clear hK K ho1 hg1 hat1 hH2 hHeld HOz
              try simp only [Act.put, List.setIfInBounds_toArray, List.set_cons_zero, List.set_cons_succ]
              refine wpAnyH_take (i := 16) (oi := ?oiz123) (v := ?vz123) ?hiz123 (by kernel_rfl) (by kernel_rfl) (by kernel_rfl) ?hQz123 ?hyz123 (by assumption) ?restz123
              case hiz123 => simp only [List.getElem?_toArray, List.getElem?_cons_zero, List.getElem?_cons_succ]; rfl
              case hQz123 => exact fun _ _ _ h => h
              case hyz123 => exact Or.inl ⟨by rfl, by intro w hSw; (try dsimp only at hSw); go_simp; with_reducible rfl⟩
              try simp only [Act.put, List.setIfInBounds_toArray, List.set_cons_zero, List.set_cons_succ]
              refine wpAnyH_done (by kernel_rfl) ?_ _
              go_wp2_with fail
              go_quiet (fail)
              go_wp2
              go_roundw
              case rel =>
                have e1 : na - 1 = a.length - (i + 1) := by have := HNA.out; omega
                have e2 : nb - 1 = b.length - (k + 1) := by have := HNB.out; omega
                have f1 := HSa.out
                have f2 := HSb.out
                rw [e1] at f1
                rw [e2] at f2
                exact ⟨i + 1, k + 1, _, _, _, _, _, by omega, by omega, by rw [e1], by rw [e2], f1, f2, HO9.out.drewN _, by rw [List.append_assoc, List.singleton_append, ← HN.out]; exact HD.out, by have := HLL.out; simp only [List.length_append, List.length_singleton]; omega, HX9.out.drewN _⟩
              case measure => simp [lenV]; omega
      · obtain rfl : nb = 0 := by omega
        have hbk : k = b.length := by have := HNB.out; omega
        have hila : i < a.length := by have := HNA.out; omega
        have hda : (a.drop i)[0]'(by rw [List.length_drop]; omega) = a[i] := by simp
        obtain ⟨hnx, hca, ga, oa, hpa, hcell⟩ := HRa.out.first ha
        clear hnx
        obtain rfl := hpa
        have hcl := hcell (by rw [List.length_drop]; omega)
        rw [hda] at hcl
        have a0 : ∀ W, Ext w W → W.cell? ⟨ga, oa, none⟩ = some (.string a[i].1) := fun W hW => (hcl W hW).1
        have a1 : ∀ W, Ext w W → W.cell? ⟨ga, oa + 1, none⟩ = some (.string a[i].2) := fun W hW => (hcl W hW).2
        have hao : tEnt.ok a[i] := HKa.out _ (List.getElem_mem hila)
        have a0r := a0 _ HX.out
        have a1r := a1 _ HX.out
        have HSa := Lib.hid (show RdL tEnt w S (.slice (if c1 = 1 then some ⟨ga, oa, none⟩ else some ⟨ga, oa + 2, none⟩) (na - 1) (c1 - 1)) (a.drop (i + 1)) by have := HRa.out.step ha; rwa [List.drop_drop] at this)
        have ha1 : (1 : Int) ≤ (na : Int) := by omega
        have ha2 : (na : Int) ≤ (c1 : Int) := by omega
        have ha3 : (0 : Int) < (na : Int) := by omega
        have hae : ((na : Int) == 0) = false := by rw [beq_eq_false_iff_ne]; omega
        clear hcell hcl hda hca
        have HCO := Lib.hid (show tChg.ok (⟨a[i].1, true, a[i].2, false, ⟨#[]⟩⟩ : Chg) from ⟨hao.1, hao.2, by show (0 : Nat) ≤ 140737488351232; decide⟩)
        have HN := Lib.hid (chgI_del hila hk (fun h => absurd h (by omega)))
        go_wp2_with fail
        go_quiet (fail)
        go_wp2_with fail
        refine wp_world (w0 := wr) ((Drawn.refl _).drewN _) (fun wq hwq => ?_)
        have HXq := Lib.hid (HX.out.trans hwq.ext)
        have HOq := Lib.hid (HO.out.ext hwq.ext)
        clear hwq
        refine wp_region_held_drew (S := fun W => Ext w W) (by kernel_rfl) HXq.out.drew (fun hHeld => ?_)
        have HOz := Lib.hid (show Own tChg 90 wq.drew w.heap.size (.slice C cn cc) done from HOq.out)
        generalize wq.drew = wz at hHeld HOz ⊢
        refine wpAnyH_take (i := 0) (oi := ?oiz124) (v := ?vz124) ?hiz124 (by kernel_rfl) (by kernel_rfl) (by kernel_rfl) ?hQz124 ?hyz124 (by assumption) ?restz124
        case hiz124 => simp only [List.getElem?_toArray, List.getElem?_cons_zero, List.getElem?_cons_succ]; rfl
        case hQz124 => exact fun _ _ _ h => h
        case hyz124 => exact Or.inl ⟨by rfl, by intro w hSw; (try dsimp only at hSw); go_simp; with_reducible rfl⟩
        try simp only [Act.put, List.setIfInBounds_toArray, List.set_cons_zero, List.set_cons_succ]
        refine wpAnyH_take (i := 1) (oi := ?oiz125) (v := ?vz125) ?hiz125 (by kernel_rfl) (by kernel_rfl) (by kernel_rfl) ?hQz125 ?hyz125 (by assumption) ?restz125
        case hiz125 => simp only [List.getElem?_toArray, List.getElem?_cons_zero, List.getElem?_cons_succ]; rfl
        case hQz125 => exact fun _ _ _ h => h
        case hyz125 => exact Or.inl ⟨by rfl, by intro w hSw; (try dsimp only at hSw); go_simp; with_reducible rfl⟩
        try simp only [Act.put, List.setIfInBounds_toArray, List.set_cons_zero, List.set_cons_succ]
        refine wpAnyH_take (i := 2) (oi := ?oiz126) (v := ?vz126) ?hiz126 (by kernel_rfl) (by kernel_rfl) (by kernel_rfl) ?hQz126 ?hyz126 (by assumption) ?restz126
        case hiz126 => simp only [List.getElem?_toArray, List.getElem?_cons_zero, List.getElem?_cons_succ]; rfl
        case hQz126 => exact fun _ _ _ h => h
        case hyz126 => exact Or.inl ⟨by rfl, by intro w hSw; (try dsimp only at hSw); go_simp; with_reducible rfl⟩
        try simp only [Act.put, List.setIfInBounds_toArray, List.set_cons_zero, List.set_cons_succ]
        refine wpAnyH_take (i := 3) (oi := ?oiz127) (v := ?vz127) ?hiz127 (by kernel_rfl) (by kernel_rfl) (by kernel_rfl) ?hQz127 ?hyz127 (by assumption) ?restz127
        case hiz127 => simp only [List.getElem?_toArray, List.getElem?_cons_zero, List.getElem?_cons_succ]; rfl
        case hQz127 => exact fun _ _ _ h => h
        case hyz127 => exact Or.inl ⟨by rfl, by intro w hSw; (try dsimp only at hSw); go_simp; with_reducible rfl⟩
        try simp only [Act.put, List.setIfInBounds_toArray, List.set_cons_zero, List.set_cons_succ]
        refine wpAnyH_take (i := 4) (oi := ?oiz128) (v := ?vz128) ?hiz128 (by kernel_rfl) (by kernel_rfl) (by kernel_rfl) ?hQz128 ?hyz128 (by assumption) ?restz128
        case hiz128 => simp only [List.getElem?_toArray, List.getElem?_cons_zero, List.getElem?_cons_succ]; rfl
        case hQz128 => exact fun _ _ _ h => h
        case hyz128 => exact Or.inl ⟨by rfl, by intro w hSw; (try dsimp only at hSw); go_simp; with_reducible rfl⟩
        try simp only [Act.put, List.setIfInBounds_toArray, List.set_cons_zero, List.set_cons_succ]
        refine wpAnyH_take (i := 5) (oi := ?oiz129) (v := ?vz129) ?hiz129 (by kernel_rfl) (by kernel_rfl) (by kernel_rfl) ?hQz129 ?hyz129 (by assumption) ?restz129
        case hiz129 => simp only [List.getElem?_toArray, List.getElem?_cons_zero, List.getElem?_cons_succ]; rfl
        case hQz129 => exact fun _ _ _ h => h
        case hyz129 => exact Or.inl ⟨by rfl, by intro w hSw; (try dsimp only at hSw); go_simp; with_reducible rfl⟩
        try simp only [Act.put, List.setIfInBounds_toArray, List.set_cons_zero, List.set_cons_succ]
        refine wpAnyH_take (i := 6) (oi := ?oiz130) (v := ?vz130) ?hiz130 (by kernel_rfl) (by kernel_rfl) (by kernel_rfl) ?hQz130 ?hyz130 (by assumption) ?restz130
        case hiz130 => simp only [List.getElem?_toArray, List.getElem?_cons_zero, List.getElem?_cons_succ]; rfl
        case hQz130 => exact fun _ _ _ h => h
        case hyz130 => exact Or.inl ⟨by rfl, by intro w hSw; (try dsimp only at hSw); go_simp; with_reducible rfl⟩
        try simp only [Act.put, List.setIfInBounds_toArray, List.set_cons_zero, List.set_cons_succ]
        refine wpAnyH_take (i := 7) (oi := ?oiz131) (v := ?vz131) ?hiz131 (by kernel_rfl) (by kernel_rfl) (by kernel_rfl) ?hQz131 ?hyz131 (by assumption) ?restz131
        case hiz131 => simp only [List.getElem?_toArray, List.getElem?_cons_zero, List.getElem?_cons_succ]; rfl
        case hQz131 => exact fun _ _ _ h => h
        case hyz131 => exact Or.inl ⟨by rfl, by intro w hSw; (try dsimp only at hSw); go_simp; with_reducible rfl⟩
        try simp only [Act.put, List.setIfInBounds_toArray, List.set_cons_zero, List.set_cons_succ]
        refine wpAnyH_take (i := 8) (oi := ?oiz132) (v := ?vz132) ?hiz132 (by kernel_rfl) (by kernel_rfl) (by kernel_rfl) ?hQz132 ?hyz132 (by assumption) ?restz132
        case hiz132 => simp only [List.getElem?_toArray, List.getElem?_cons_zero, List.getElem?_cons_succ]; rfl
        case hQz132 => exact fun _ _ _ h => h
        case hyz132 => exact Or.inl ⟨by rfl, by intro w hSw; (try dsimp only at hSw); go_simp; with_reducible rfl⟩
        try simp only [Act.put, List.setIfInBounds_toArray, List.set_cons_zero, List.set_cons_succ]
        refine wpAnyH_take (i := 9) (oi := ?oiz133) (v := ?vz133) ?hiz133 (by kernel_rfl) (by kernel_rfl) (by kernel_rfl) ?hQz133 ?hyz133 (by assumption) ?restz133
        case hiz133 => simp only [List.getElem?_toArray, List.getElem?_cons_zero, List.getElem?_cons_succ]; rfl
        case hQz133 => exact fun _ _ _ h => h
        case hyz133 => exact Or.inl ⟨by rfl, by intro w hSw; (try dsimp only at hSw); go_simp; with_reducible rfl⟩
        try simp only [Act.put, List.setIfInBounds_toArray, List.set_cons_zero, List.set_cons_succ]
        refine wpAnyH_ready (rs := [10]) (by kernel_rfl) (by simp) (AllReadyH.cons (o := ?oy13410) ?hy13410 (fun K hK => ?sy13410) AllReadyH.nil)
        case hy13410 => simp only [List.getElem?_toArray, List.getElem?_cons_zero, List.getElem?_cons_succ]; rfl
        go_simp
        have hH2 := hHeld.alloc (.cells (tChg.enc (⟨a[i].1, true, a[i].2, false, ⟨#[]⟩⟩ : Chg)).toArray 90)
        refine hK.out _ _ hH2 (fun _ => ?_)
        clear hK K hH2
        try simp only [Act.put, List.setIfInBounds_toArray, List.set_cons_zero, List.set_cons_succ]
        refine wpAnyH_ready (rs := [11]) (by kernel_rfl) (by simp) (AllReadyH.cons (o := ?oy13511) ?hy13511 (fun K hK => ?sy13511) AllReadyH.nil)
        case hy13511 => simp only [List.getElem?_toArray, List.getElem?_cons_zero, List.getElem?_cons_succ]; rfl
        refine stp_append rowChg rfl _ _ rfl (v := .slice C cn cc) rfl (HOz.out.alloc (.cells (tChg.enc (⟨a[i].1, true, a[i].2, false, ⟨#[]⟩⟩ : Chg)).toArray 90)) _ _ rfl (A := some ⟨wz.heap.size, 0, none⟩) (ys := [(⟨a[i].1, true, a[i].2, false, ⟨#[]⟩⟩ : Chg)]) rfl (rd_one (T := tChg) wz (⟨a[i].1, true, a[i].2, false, ⟨#[]⟩⟩ : Chg) HCO.out _) (by intro y hy; obtain rfl := List.mem_singleton.1 hy; exact HCO.out) (by have := HL.out; simp only [List.length_singleton]; omega) (hHeld.alloc _).size ?_
        intro v9 w9 ho1 hg1 hat1
        obtain ⟨C9, n9, c9, rfl⟩ := ho1.shape3
        have hH2 := (HOz.out.alloc (.cells (tChg.enc (⟨a[i].1, true, a[i].2, false, ⟨#[]⟩⟩ : Chg)).toArray 90)).ext_app (hHeld.alloc _) hg1
        refine hK.out _ _ hH2 (fun _ => ?_)
        have HO9 := Lib.hid ho1
        have HX9 := Lib.hid hH2
        clear hK K ho1 hg1 hat1 hH2 hHeld HOz
        try simp only [Act.put, List.setIfInBounds_toArray, List.set_cons_zero, List.set_cons_succ]
        refine wpAnyH_take (i := 12) (oi := ?oiz136) (v := ?vz136) ?hiz136 (by kernel_rfl) (by kernel_rfl) (by kernel_rfl) ?hQz136 ?hyz136 (by assumption) ?restz136
        case hiz136 => simp only [List.getElem?_toArray, List.getElem?_cons_zero, List.getElem?_cons_succ]; rfl
        case hQz136 => exact fun _ _ _ h => h
        case hyz136 => exact Or.inl ⟨by rfl, by intro w hSw; (try dsimp only at hSw); go_simp; with_reducible rfl⟩
        try simp only [Act.put, List.setIfInBounds_toArray, List.set_cons_zero, List.set_cons_succ]
        refine wpAnyH_done (by kernel_rfl) ?_ _
        go_wp2
        go_roundw
        case rel =>
          have e1 : na - 1 = a.length - (i + 1) := by have := HNA.out; omega
          have e2 : 0 = b.length - (k) := by have := HNB.out; omega
          have f1 := HSa.out
          have f2 := HRb.out
          rw [e1] at f1
          rw [e2] at f2
          exact ⟨i + 1, k, _, _, _, _, _, by omega, by omega, by rw [e1], by rw [e2], f1, f2, HO9.out, by rw [List.append_assoc, List.singleton_append, ← HN.out]; exact HD.out, by have := HLL.out; simp only [List.length_append, List.length_singleton]; omega, HX9.out⟩
        case measure => simp [lenV]; omega
    · obtain rfl : na = 0 := by omega
      have hai : i = a.length := by have := HNA.out; omega
      by_cases hb : 0 < nb
      · have hilb : k < b.length := by have := HNB.out; omega
        have hdb : (b.drop k)[0]'(by rw [List.length_drop]; omega) = b[k] := by simp
        obtain ⟨hnx, hcb, gb, ob, hpb, hcell⟩ := HRb.out.first hb
        clear hnx
        obtain rfl := hpb
        have hcl := hcell (by rw [List.length_drop]; omega)
        rw [hdb] at hcl
        have b0 : ∀ W, Ext w W → W.cell? ⟨gb, ob, none⟩ = some (.string b[k].1) := fun W hW => (hcl W hW).1
        have b1 : ∀ W, Ext w W → W.cell? ⟨gb, ob + 1, none⟩ = some (.string b[k].2) := fun W hW => (hcl W hW).2
        have hbo : tEnt.ok b[k] := HKb.out _ (List.getElem_mem hilb)
        have b0r := b0 _ HX.out
        have b1r := b1 _ HX.out
        have HSb := Lib.hid (show RdL tEnt w S' (.slice (if d1 = 1 then some ⟨gb, ob, none⟩ else some ⟨gb, ob + 2, none⟩) (nb - 1) (d1 - 1)) (b.drop (k + 1)) by have := HRb.out.step hb; rwa [List.drop_drop] at this)
        have hb1 : (1 : Int) ≤ (nb : Int) := by omega
        have hb2 : (nb : Int) ≤ (d1 : Int) := by omega
        have hb3 : (0 : Int) < (nb : Int) := by omega
        have hbe : ((nb : Int) == 0) = false := by rw [beq_eq_false_iff_ne]; omega
        clear hcell hcl hdb hcb
        have HCO := Lib.hid (show tChg.ok (⟨b[k].1, false, ⟨#[]⟩, true, b[k].2⟩ : Chg) from ⟨hbo.1, by show (0 : Nat) ≤ 140737488351232; decide, hbo.2⟩)
        have HN := Lib.hid (chgI_add hi hilb (fun h => absurd h (by omega)))
        go_wp2_with fail
        go_quiet (fail)
        go_wp2_with fail
        go_quiet (fail)
        go_wp2_with fail
        refine wp_world (w0 := wr) (((Drawn.refl _).drewN _).drewN _) (fun wq hwq => ?_)
        have HXq := Lib.hid (HX.out.trans hwq.ext)
        have HOq := Lib.hid (HO.out.ext hwq.ext)
        clear hwq
        refine wp_region_held_drew (S := fun W => Ext w W) (by kernel_rfl) HXq.out.drew (fun hHeld => ?_)
        have HOz := Lib.hid (show Own tChg 90 wq.drew w.heap.size (.slice C cn cc) done from HOq.out)
        generalize wq.drew = wz at hHeld HOz ⊢
        refine wpAnyH_take (i := 0) (oi := ?oiz137) (v := ?vz137) ?hiz137 (by kernel_rfl) (by kernel_rfl) (by kernel_rfl) ?hQz137 ?hyz137 (by assumption) ?restz137
        case hiz137 => simp only [List.getElem?_toArray, List.getElem?_cons_zero, List.getElem?_cons_succ]; rfl
        case hQz137 => exact fun _ _ _ h => h
        case hyz137 => exact Or.inl ⟨by rfl, by intro w hSw; (try dsimp only at hSw); go_simp; with_reducible rfl⟩
        try simp only [Act.put, List.setIfInBounds_toArray, List.set_cons_zero, List.set_cons_succ]
        refine wpAnyH_take (i := 1) (oi := ?oiz138) (v := ?vz138) ?hiz138 (by kernel_rfl) (by kernel_rfl) (by kernel_rfl) ?hQz138 ?hyz138 (by assumption) ?restz138
        case hiz138 => simp only [List.getElem?_toArray, List.getElem?_cons_zero, List.getElem?_cons_succ]; rfl
        case hQz138 => exact fun _ _ _ h => h
        case hyz138 => exact Or.inl ⟨by rfl, by intro w hSw; (try dsimp only at hSw); go_simp; with_reducible rfl⟩
        try simp only [Act.put, List.setIfInBounds_toArray, List.set_cons_zero, List.set_cons_succ]
        refine wpAnyH_take (i := 2) (oi := ?oiz139) (v := ?vz139) ?hiz139 (by kernel_rfl) (by kernel_rfl) (by kernel_rfl) ?hQz139 ?hyz139 (by assumption) ?restz139
        case hiz139 => simp only [List.getElem?_toArray, List.getElem?_cons_zero, List.getElem?_cons_succ]; rfl
        case hQz139 => exact fun _ _ _ h => h
        case hyz139 => exact Or.inl ⟨by rfl, by intro w hSw; (try dsimp only at hSw); go_simp; with_reducible rfl⟩
        try simp only [Act.put, List.setIfInBounds_toArray, List.set_cons_zero, List.set_cons_succ]
        refine wpAnyH_take (i := 3) (oi := ?oiz140) (v := ?vz140) ?hiz140 (by kernel_rfl) (by kernel_rfl) (by kernel_rfl) ?hQz140 ?hyz140 (by assumption) ?restz140
        case hiz140 => simp only [List.getElem?_toArray, List.getElem?_cons_zero, List.getElem?_cons_succ]; rfl
        case hQz140 => exact fun _ _ _ h => h
        case hyz140 => exact Or.inl ⟨by rfl, by intro w hSw; (try dsimp only at hSw); go_simp; with_reducible rfl⟩
        try simp only [Act.put, List.setIfInBounds_toArray, List.set_cons_zero, List.set_cons_succ]
        refine wpAnyH_take (i := 4) (oi := ?oiz141) (v := ?vz141) ?hiz141 (by kernel_rfl) (by kernel_rfl) (by kernel_rfl) ?hQz141 ?hyz141 (by assumption) ?restz141
        case hiz141 => simp only [List.getElem?_toArray, List.getElem?_cons_zero, List.getElem?_cons_succ]; rfl
        case hQz141 => exact fun _ _ _ h => h
        case hyz141 => exact Or.inl ⟨by rfl, by intro w hSw; (try dsimp only at hSw); go_simp; with_reducible rfl⟩
        try simp only [Act.put, List.setIfInBounds_toArray, List.set_cons_zero, List.set_cons_succ]
        refine wpAnyH_take (i := 5) (oi := ?oiz142) (v := ?vz142) ?hiz142 (by kernel_rfl) (by kernel_rfl) (by kernel_rfl) ?hQz142 ?hyz142 (by assumption) ?restz142
        case hiz142 => simp only [List.getElem?_toArray, List.getElem?_cons_zero, List.getElem?_cons_succ]; rfl
        case hQz142 => exact fun _ _ _ h => h
        case hyz142 => exact Or.inl ⟨by rfl, by intro w hSw; (try dsimp only at hSw); go_simp; with_reducible rfl⟩
        try simp only [Act.put, List.setIfInBounds_toArray, List.set_cons_zero, List.set_cons_succ]
        refine wpAnyH_take (i := 6) (oi := ?oiz143) (v := ?vz143) ?hiz143 (by kernel_rfl) (by kernel_rfl) (by kernel_rfl) ?hQz143 ?hyz143 (by assumption) ?restz143
        case hiz143 => simp only [List.getElem?_toArray, List.getElem?_cons_zero, List.getElem?_cons_succ]; rfl
        case hQz143 => exact fun _ _ _ h => h
        case hyz143 => exact Or.inl ⟨by rfl, by intro w hSw; (try dsimp only at hSw); go_simp; with_reducible rfl⟩
        try simp only [Act.put, List.setIfInBounds_toArray, List.set_cons_zero, List.set_cons_succ]
        refine wpAnyH_take (i := 7) (oi := ?oiz144) (v := ?vz144) ?hiz144 (by kernel_rfl) (by kernel_rfl) (by kernel_rfl) ?hQz144 ?hyz144 (by assumption) ?restz144
        case hiz144 => simp only [List.getElem?_toArray, List.getElem?_cons_zero, List.getElem?_cons_succ]; rfl
        case hQz144 => exact fun _ _ _ h => h
        case hyz144 => exact Or.inl ⟨by rfl, by intro w hSw; (try dsimp only at hSw); go_simp; with_reducible rfl⟩
        try simp only [Act.put, List.setIfInBounds_toArray, List.set_cons_zero, List.set_cons_succ]
        refine wpAnyH_take (i := 8) (oi := ?oiz145) (v := ?vz145) ?hiz145 (by kernel_rfl) (by kernel_rfl) (by kernel_rfl) ?hQz145 ?hyz145 (by assumption) ?restz145
        case hiz145 => simp only [List.getElem?_toArray, List.getElem?_cons_zero, List.getElem?_cons_succ]; rfl
        case hQz145 => exact fun _ _ _ h => h
        case hyz145 => exact Or.inl ⟨by rfl, by intro w hSw; (try dsimp only at hSw); go_simp; with_reducible rfl⟩
        try simp only [Act.put, List.setIfInBounds_toArray, List.set_cons_zero, List.set_cons_succ]
        refine wpAnyH_take (i := 9) (oi := ?oiz146) (v := ?vz146) ?hiz146 (by kernel_rfl) (by kernel_rfl) (by kernel_rfl) ?hQz146 ?hyz146 (by assumption) ?restz146
        case hiz146 => simp only [List.getElem?_toArray, List.getElem?_cons_zero, List.getElem?_cons_succ]; rfl
        case hQz146 => exact fun _ _ _ h => h
        case hyz146 => exact Or.inl ⟨by rfl, by intro w hSw; (try dsimp only at hSw); go_simp; with_reducible rfl⟩
        try simp only [Act.put, List.setIfInBounds_toArray, List.set_cons_zero, List.set_cons_succ]
        refine wpAnyH_ready (rs := [10]) (by kernel_rfl) (by simp) (AllReadyH.cons (o := ?oy14710) ?hy14710 (fun K hK => ?sy14710) AllReadyH.nil)
        case hy14710 => simp only [List.getElem?_toArray, List.getElem?_cons_zero, List.getElem?_cons_succ]; rfl
        go_simp
        have hH2 := hHeld.alloc (.cells (tChg.enc (⟨b[k].1, false, ⟨#[]⟩, true, b[k].2⟩ : Chg)).toArray 90)
        refine hK.out _ _ hH2 (fun _ => ?_)
        clear hK K hH2
        try simp only [Act.put, List.setIfInBounds_toArray, List.set_cons_zero, List.set_cons_succ]
        refine wpAnyH_ready (rs := [11]) (by kernel_rfl) (by simp) (AllReadyH.cons (o := ?oy14811) ?hy14811 (fun K hK => ?sy14811) AllReadyH.nil)
        case hy14811 => simp only [List.getElem?_toArray, List.getElem?_cons_zero, List.getElem?_cons_succ]; rfl
        refine stp_append rowChg rfl _ _ rfl (v := .slice C cn cc) rfl (HOz.out.alloc (.cells (tChg.enc (⟨b[k].1, false, ⟨#[]⟩, true, b[k].2⟩ : Chg)).toArray 90)) _ _ rfl (A := some ⟨wz.heap.size, 0, none⟩) (ys := [(⟨b[k].1, false, ⟨#[]⟩, true, b[k].2⟩ : Chg)]) rfl (rd_one (T := tChg) wz (⟨b[k].1, false, ⟨#[]⟩, true, b[k].2⟩ : Chg) HCO.out _) (by intro y hy; obtain rfl := List.mem_singleton.1 hy; exact HCO.out) (by have := HL.out; simp only [List.length_singleton]; omega) (hHeld.alloc _).size ?_
        intro v9 w9 ho1 hg1 hat1
        obtain ⟨C9, n9, c9, rfl⟩ := ho1.shape3
        have hH2 := (HOz.out.alloc (.cells (tChg.enc (⟨b[k].1, false, ⟨#[]⟩, true, b[k].2⟩ : Chg)).toArray 90)).ext_app (hHeld.alloc _) hg1
        refine hK.out _ _ hH2 (fun _ => ?_)
        have HO9 := Lib.hid ho1
        have HX9 := Lib.hid hH2
        clear hK K ho1 hg1 hat1 hH2 hHeld HOz
        try simp only [Act.put, List.setIfInBounds_toArray, List.set_cons_zero, List.set_cons_succ]
        refine wpAnyH_take (i := 12) (oi := ?oiz149) (v := ?vz149) ?hiz149 (by kernel_rfl) (by kernel_rfl) (by kernel_rfl) ?hQz149 ?hyz149 (by assumption) ?restz149
        case hiz149 => simp only [List.getElem?_toArray, List.getElem?_cons_zero, List.getElem?_cons_succ]; rfl
        case hQz149 => exact fun _ _ _ h => h
        case hyz149 => exact Or.inl ⟨by rfl, by intro w hSw; (try dsimp only at hSw); go_simp; with_reducible rfl⟩
        try simp only [Act.put, List.setIfInBounds_toArray, List.set_cons_zero, List.set_cons_succ]
        refine wpAnyH_done (by kernel_rfl) ?_ _
        go_wp2
        go_roundw
        case rel =>
          have e1 : 0 = a.length - (i) := by have := HNA.out; omega
          have e2 : nb - 1 = b.length - (k + 1) := by have := HNB.out; omega
          have f1 := HRa.out
          have f2 := HSb.out
          rw [e1] at f1
          rw [e2] at f2
          exact ⟨i, k + 1, _, _, _, _, _, by omega, by omega, by rw [e1], by rw [e2], f1, f2, HO9.out, by rw [List.append_assoc, List.singleton_append, ← HN.out]; exact HD.out, by have := HLL.out; simp only [List.length_append, List.length_singleton]; omega, HX9.out⟩
        case measure => simp [lenV]; omega
      · obtain rfl : nb = 0 := by omega
        have hbk : k = b.length := by have := HNB.out; omega
        subst hai hbk
        rw [chgI_end, List.append_nil] at HD
        go_wp2
        go_ret
        exact ⟨_, rfl, by rw [← HD.out]; exact HO.out, HX.out⟩
end Go.Proofs.Ytmndkbheehcoaaa
/- The changes between two maps, as they are asked for. No condition. -/
namespace Go.Proofs.Ytmndkbheehcoaaa
open Go.RowKit
set_option linter.unusedVariables false
set_option linter.unusedSimpArgs false

theorem chgN_len (f : Nat) : ∀ a b : List En, (chgN f a b).length ≤ a.length + b.length := by
  induction f with
  | zero => intro a b; exact Nat.zero_le _
  | succ f ih =>
    intro a b
    match a, b with
    | [], [] => exact Nat.zero_le _
    | x :: a, [] => rw [chgN]; have := ih a []; simp only [List.length_cons, List.length_nil] at *; omega
    | [], y :: b => rw [chgN]; have := ih [] b; simp only [List.length_cons, List.length_nil] at *; omega
    | x :: a, y :: b =>
      rw [chgN]
      have h1 := ih a (y :: b)
      have h2 := ih (x :: a) b
      have h3 := ih a b
      simp only [List.length_cons] at *
      split
      · simp only [List.length_cons]; omega
      · split
        · simp only [List.length_cons]; omega
        · split
          · omega
          · simp only [List.length_cons]; omega
theorem okE_len {L : List En} (h : okE L = true) : L.length ≤ 64 := by
  rw [okE_eq] at h
  simp at h
  exact h.2
theorem chgsR_len (a b : List En) : (chgsR a b).1.length ≤ 128 := by
  unfold chgsR
  split
  · rename_i h
    rw [Bool.and_eq_true] at h
    have h1 := okE_len h.1
    have h2 := okE_len h.2
    rw [chgI_eq, List.drop_zero, List.drop_zero]
    have := chgN_len (a.length + b.length) a b
    show (chgN (a.length + b.length) a b).length ≤ 128
    omega
  · exact Nat.zero_le _
set_option maxHeartbeats 1000000 in
set_option maxRecDepth 100000 in
theorem specChangesOf_any (v u : Value) (a b : List En) (w : World) (S S' : Nat → Prop) (h : RdL tEnt w S v a) (h' : RdL tEnt w S' u b) :
    Calls Try.prog 27 #[v, u] w fun e w' => ∃ v', e = .returned (.tuple #[v', .int .i64 (chgsR a b).2]) ∧ Own tChg 90 w' w.heap.size v' (chgsR a b).1 ∧ Ext w w' := by
  have H := Lib.hid h
  have H' := Lib.hid h'
  have hc := l04Ok_any v a w S h
  have hc2 := fun W (hW : Ext w W) => l04Ok_any u b W S' (h'.ext (by decide) hW)
  obtain ⟨A, capa, rfl, _⟩ := h
  obtain ⟨B, capb, rfl, _⟩ := h'
  cases ha : okE a with
  | false =>
    simp only [chgsR, ha, Bool.false_and, Bool.false_eq_true, if_false]
    simp only [ha] at hc
    clear ha hc2
    go_enter Try.func27, Try.ntmps27
    go_wp2_with fail
    refine hc.mono ?_
    rintro e w1 ⟨rfl, hx⟩
    have HX := Lib.hid hx
    clear hx
    go_wp2
    go_ret2
    exact ⟨_, rfl, Own.empty tChg _ 90 _ HX.out.size, HX.out.alloc _⟩
  | true =>
    simp only [ha] at hc
    cases hb : okE b with
    | false =>
      simp only [chgsR, ha, hb, Bool.and_false, Bool.false_eq_true, if_false]
      simp only [hb] at hc2
      clear ha hb
      go_enter Try.func27, Try.ntmps27
      go_wp2_with fail
      refine hc.mono ?_
      rintro e w1 ⟨rfl, hx⟩
      have HX := Lib.hid hx
      clear hx
      go_wp2_with fail
      refine (hc2 _ HX.out).mono ?_
      rintro e w2 ⟨rfl, hx⟩
      have HX2 := Lib.hid (HX.out.trans hx)
      clear hx
      go_wp2
      go_ret2
      exact ⟨_, rfl, Own.empty tChg _ 90 _ HX2.out.size, HX2.out.alloc _⟩
    | true =>
      simp only [chgsR, ha, hb, Bool.and_true, if_true]
      simp only [hb] at hc2
      have h1 := okE_len ha
      have h2 := okE_len hb
      clear ha hb
      obtain ⟨R, hR⟩ : ∃ R, chgI a b 0 0 = R := ⟨_, rfl⟩
      have hch := fun W (hW : Ext w W) => l04Changes_any _ _ a b h1 h2 W S S' (H.out.ext (by decide) hW) (H'.out.ext (by decide) hW)
      simp only [hR] at hch ⊢
      clear hR
      go_enter Try.func27, Try.ntmps27
      go_wp2_with fail
      refine hc.mono ?_
      rintro e w1 ⟨rfl, hx⟩
      have HX := Lib.hid hx
      clear hx
      go_wp2_with fail
      refine (hc2 _ HX.out).mono ?_
      rintro e w2 ⟨rfl, hx⟩
      have HX2 := Lib.hid (HX.out.trans hx)
      clear hx
      go_wp2_with fail
      refine (hch _ HX2.out).mono ?_
      rintro e w3 ⟨v3, rfl, ho, hx⟩
      have HO := Lib.hid (ho.le (base' := w.heap.size) HX2.out.size)
      have HX3 := Lib.hid (HX2.out.trans hx)
      obtain ⟨A3, n3, c3, rfl⟩ := ho.shape3
      clear ho hx
      go_wp2
      go_ret2
      exact ⟨_, rfl, HO.out, HX3.out⟩
set_option maxHeartbeats 1000000 in
set_option maxRecDepth 100000 in
theorem implChangesOf_any (v u : Value) (a b : List En) (w : World) (S S' : Nat → Prop) (h : RdL tEnt w S v a) (h' : RdL tEnt w S' u b) :
    Calls Try.prog 28 #[v, u] w fun e w' => ∃ v', e = .returned (.tuple #[v', .int .i64 (chgsR a b).2]) ∧ Own tChg 90 w' w.heap.size v' (chgsR a b).1 ∧ Ext w w' := by
  have H := Lib.hid h
  have H' := Lib.hid h'
  have hc := validEntries_any v a w S h
  have hc2 := fun W (hW : Ext w W) => validEntries_any u b W S' (h'.ext (by decide) hW)
  obtain ⟨A, capa, rfl, _⟩ := h
  obtain ⟨B, capb, rfl, _⟩ := h'
  cases ha : okE a with
  | false =>
    simp only [chgsR, ha, Bool.false_and, Bool.false_eq_true, if_false]
    simp only [ha] at hc
    clear ha hc2
    go_enter Try.func28, Try.ntmps28
    go_wp2_with fail
    refine hc.mono ?_
    rintro e w1 ⟨rfl, hx⟩
    have HX := Lib.hid hx
    clear hx
    go_wp2
    go_ret2
    exact ⟨_, rfl, Own.nil tChg 90 _ _, HX.out⟩
  | true =>
    simp only [ha] at hc
    cases hb : okE b with
    | false =>
      simp only [chgsR, ha, hb, Bool.and_false, Bool.false_eq_true, if_false]
      simp only [hb] at hc2
      clear ha hb
      go_enter Try.func28, Try.ntmps28
      go_wp2_with fail
      refine hc.mono ?_
      rintro e w1 ⟨rfl, hx⟩
      have HX := Lib.hid hx
      clear hx
      go_wp2_with fail
      refine (hc2 _ HX.out).mono ?_
      rintro e w2 ⟨rfl, hx⟩
      have HX2 := Lib.hid (HX.out.trans hx)
      clear hx
      go_wp2
      go_ret2
      exact ⟨_, rfl, Own.nil tChg 90 _ _, HX2.out⟩
    | true =>
      simp only [chgsR, ha, hb, Bool.and_true, if_true]
      simp only [hb] at hc2
      have h1 := okE_len ha
      have h2 := okE_len hb
      clear ha hb
      obtain ⟨R, hR⟩ : ∃ R, chgI a b 0 0 = R := ⟨_, rfl⟩
      have hch := fun W (hW : Ext w W) => changes_any _ _ a b h1 h2 W S S' (H.out.ext (by decide) hW) (H'.out.ext (by decide) hW)
      simp only [hR] at hch ⊢
      clear hR
      go_enter Try.func28, Try.ntmps28
      go_wp2_with fail
      refine hc.mono ?_
      rintro e w1 ⟨rfl, hx⟩
      have HX := Lib.hid hx
      clear hx
      go_wp2_with fail
      refine (hc2 _ HX.out).mono ?_
      rintro e w2 ⟨rfl, hx⟩
      have HX2 := Lib.hid (HX.out.trans hx)
      clear hx
      go_wp2_with fail
      refine (hch _ HX2.out).mono ?_
      rintro e w3 ⟨v3, rfl, ho, hx⟩
      have HO := Lib.hid (ho.le (base' := w.heap.size) HX2.out.size)
      have HX3 := Lib.hid (HX2.out.trans hx)
      obtain ⟨A3, n3, c3, rfl⟩ := ho.shape3
      clear ho hx
      go_wp2
      go_ret2
      exact ⟨_, rfl, HO.out, HX3.out⟩
end Go.Proofs.Ytmndkbheehcoaaa
/- Commits: copied, counted, held against each other. No condition. -/
namespace Go.Proofs.Ytmndkbheehcoaaa
open Go.RowKit
set_option linter.unusedVariables false
set_option linter.unusedSimpArgs false

structure Cm where
  root : List Int
  par : List (List Int)
  num : Int
  note : ByteArray
def Cm.cells (x : Cm) (v : Value) : Array Value := (nums .u8 x.root ++ [v, .int .i64 x.num, .string x.note]).toArray
/-- the cells of a commit -/
def RCommit (w : World) (S : Nat → Prop) (cs : Array Value) (x : Cm) : Prop :=
  ∃ v, cs = x.cells v ∧ RdL tKey w S v x.par ∧ K32 x.root ∧ (Lit.int .i64 x.num).wf = true ∧ x.note.size ≤ 140737488351232
section
variable {w w' : World} {S : Nat → Prop} {cs : Array Value} {x : Cm}
theorem RCommit.ext (h : RCommit w S cs x) (e : Ext w w') : RCommit w' S cs x := by
  obtain ⟨v, h1, h2, h3⟩ := h
  exact ⟨v, h1, h2.ext (by decide) e, h3⟩
theorem Cm.st (hr : K32 x.root) (A : Option Addr) (n c : Nat) : St 35 (x.cells (.slice A n c)) := by
  refine ⟨by simp [Cm.cells, nums_length, hr.1], fun u hu => ?_⟩
  rw [Cm.cells, List.toList_toArray] at hu
  rcases List.mem_append.1 hu with hu | hu
  · exact one_nums _ _ u hu
  · simp at hu; rcases hu with rfl | rfl | rfl <;> rfl
theorem RCommit.st (h : RCommit w S cs x) : St 35 cs := by
  obtain ⟨v, rfl, ⟨A, cap, rfl, _⟩, h3, _⟩ := h
  exact Cm.st h3 _ _ _
theorem Cm.at_ (hr : K32 x.root) (v : Value) : (x.cells v)[32]? = some v ∧ (x.cells v)[33]? = some (.int .i64 x.num) ∧ (x.cells v)[34]? = some (.string x.note) := by
  have := hr.1
  refine ⟨?_, ?_, ?_⟩ <;> rw [Cm.cells, List.getElem?_toArray, List.getElem?_append_right (by rw [nums_length]; omega), nums_length, this] <;> rfl
theorem Cm.root_at (v : Value) (j : Nat) (u : Value) (hu : (numsA .u8 x.root)[j]? = some u) : (x.cells v)[0 + j]? = some u := by
  have hj : j < x.root.length := by have := (Array.getElem?_eq_some_iff.1 hu).1; simpa [numsA, nums] using this
  rw [Nat.zero_add, Cm.cells, List.getElem?_toArray, List.getElem?_append_left (by rw [nums_length]; exact hj)]
  simpa [numsA] using hu
end
theorem Own.setRow_below {α : Type} {T : Ty α} {e : TypeId} {w : World} {base g : Nat} {v : Value} {xs : List α} (h : Own T e w base v xs) (hg : g < base) (row : Array Value) : Own T e (w.setRow g row) base v xs :=
  h.kept (row := some g) ⟨rfl, rfl, rfl, by simp, fun k _ hk => setRow_other _ _ _ _ (fun e => hk (by rw [e]))⟩ (.inr fun e => by have := (h.base_le _ e).1; omega)
end Go.Proofs.Ytmndkbheehcoaaa
/- Marks laid on lists of entries, and read. No condition. -/
namespace Go.Proofs.Ytmndkbheehcoaaa
open Go.RowKit
set_option linter.unusedVariables false
set_option linter.unusedSimpArgs false

/-- the entries of v hold the marks m, m + 1, .. -/
def MarkedE (w : World) (S : Nat → Prop) (v : Value) (n : Nat) (m : Int) : Prop :=
  ∃ A cap, v = .slice A n cap ∧ n ≤ 140737488355328 ∧ (0 < n → ∃ g o, A = some ⟨g, o, none⟩ ∧ S g ∧ ∀ j : Nat, j < n * 2 → w.cell? ⟨g, o + j, none⟩ = some (.string (mtxt (m + j))))
theorem MarkedE.ext {w w' : World} {S : Nat → Prop} {v : Value} {n : Nat} {m : Int} (h : MarkedE w S v n m) (e : Ext w w') : MarkedE w' S v n m := by
  obtain ⟨A, cap, h1, h2, h3⟩ := h
  refine ⟨A, cap, h1, h2, fun hn => ?_⟩
  obtain ⟨g, o, h4, h5, h6⟩ := h3 hn
  exact ⟨g, o, h4, h5, fun j hj => e.cell (h6 j hj)⟩
set_option maxHeartbeats 1000000 in
set_option maxRecDepth 100000 in
theorem markEntryS_any (v : Value) (n : Nat) (m : Int) (w : World) (lo : Nat) (h : Wr w lo 2 v n) (hm : 0 < m) (hmn : m + n * 2 ≤ 1000000000000000) :
    Calls Try.prog 25 #[v, .int .i64 m] w fun e w' => e = .returned (.int .i64 (m + n * 2)) ∧ MarkedE w' (fun g => lo ≤ g ∧ some g = v.ownBlock) v n m ∧ w.grownBy w' v.ownBlock := by
  obtain ⟨A, cap, rfl, hcap, hlen, hw⟩ := h
  have HW := Lib.hid hw
  clear hw
  by_cases h0 : n = 0
  · subst h0
    go_enter Try.func25, Try.ntmps25
    go_wp2
    go_loopw [1, 5] (fun q i wr => q = .int .i64 m ∧ i = .int .i64 0 ∧ wr = w) (fun _ _ _ => 0)
    case atStart => exact ⟨rfl, rfl, rfl⟩
    case round =>
      obtain ⟨rfl, rfl, rfl⟩ := hrel
      go_wp2
      go_ret
      exact ⟨ret_int (by simp), ⟨A, cap, rfl, by omega, fun h => by omega⟩, grown_refl _ _⟩
  · obtain ⟨g, o, cur, t, rfl, hlo, hB, hsz⟩ := HW.out (by omega)
    have HB := Lib.hid hB
    clear hB
    go_enter Try.func25, Try.ntmps25
    go_wp2
    go_loopw [1, 5] (fun q i wr => ∃ k : Nat, k ≤ n ∧ q = .int .i64 (m + (k : Int) * 2) ∧ i = .int .i64 k ∧ (∃ cur', Blk wr g t cur' ∧ cur'.size = cur.size ∧ ∀ j : Nat, j < k * 2 → cur'[o + j]? = some (.string (mtxt (m + j)))) ∧ w.grownBy wr (some g))
      (fun _ i _ => n - (intOf i).toNat)
    case atStart => exact ⟨0, by omega, by simp, rfl, ⟨cur, HB.out, rfl, fun j hj => by omega⟩, grown_refl _ _⟩
    case round =>
      obtain ⟨k, hk, rfl, rfl, ⟨cur', hB', hs', hc'⟩, hg⟩ := hrel
      have HG := Lib.hid hg
      have HC := Lib.hid hc'
      have HS := Lib.hid hs'
      have HB' := Lib.hid hB'
      clear hg hc' hs' hB'
      by_cases hlt : k < n
      · have hmt0 := markText_any (m + (k : Int) * 2) (by omega) (by omega)
        have hmt1 := markText_any (m + (k : Int) * 2 + 1) (by omega) (by omega)
        have hi : (0 : Int) ≤ (k : Int) := by omega
        have hi2 : (k : Int) < (n : Int) := by omega
        go_wp2_with fail
        refine (hmt0 _).mono ?_
        rintro e w1 ⟨rfl, hx⟩
        have HB1 := Lib.hid (HB'.out.ext hx)
        have HG1 := Lib.hid (grown_ext HG.out hx)
        clear hx HB' HG
        have hin : o + k * 2 < cur'.size := by rw [HS.out]; omega
        have hcell : w1.cell? ⟨g, o + k * 2, none⟩ = some cur'[o + k * 2] := HB1.out.at_ _ (Array.getElem?_eq_getElem hin)
        have hfr := HB1.out.free (o + k * 2)
        go_wp2_with fail
        refine (hmt1 _).mono ?_
        rintro e w2 ⟨rfl, hx⟩
        have HB2 := Lib.hid ((HB1.out.set (o + k * 2) (.string (mtxt (m + (k : Int) * 2)))).ext hx)
        have HG2 := Lib.hid (grown_ext (grown_set HG1.out (i := o + k * 2) (.string (mtxt (m + (k : Int) * 2)))) hx)
        clear hx HB1 HG1 hcell hfr
        obtain ⟨c2, hc2⟩ : ∃ c2, cur'.setIfInBounds (o + k * 2) (.string (mtxt (m + (k : Int) * 2))) = c2 := ⟨_, rfl⟩
        rw [hc2] at HB2
        have HC2 := Lib.hid hc2
        have hs2 : c2.size = cur.size := by rw [← hc2, Array.size_setIfInBounds, HS.out]
        clear hc2
        have hin2 : o + k * 2 + 1 < c2.size := by rw [hs2]; omega
        have hcell : w2.cell? ⟨g, o + k * 2 + 1, none⟩ = some c2[o + k * 2 + 1] := HB2.out.at_ _ (Array.getElem?_eq_getElem hin2)
        have hfr := HB2.out.free (o + k * 2 + 1)
        go_wp2
        go_roundw
        case rel => exact ⟨k + 1, by omega, by go_num, by go_num, ⟨_, HB2.out.set (o + k * 2 + 1) _, by rw [Array.size_setIfInBounds, hs2], fun p hp => by
          by_cases hp1 : p = k * 2 + 1
          · subst hp1
            rw [← Nat.add_assoc, Array.getElem?_setIfInBounds_self_of_lt hin2]
            congr 3
            push_cast
            omega
          · rw [Array.getElem?_setIfInBounds_ne (by omega), ← HC2.out]
            by_cases hp0 : p = k * 2
            · subst hp0
              rw [Array.getElem?_setIfInBounds_self_of_lt hin]
              congr 3
            · rw [Array.getElem?_setIfInBounds_ne (by omega)]
              exact HC.out p (by omega)⟩, grown_set HG2.out _⟩
        case measure => simp [intOf]; omega
      · obtain rfl : k = n := by omega
        go_wp2
        go_ret
        refine ⟨rfl, ⟨_, cap, rfl, hlen, fun _ => ⟨g, o, rfl, ⟨hlo, rfl⟩, fun j hj => by rw [HB'.out.cell, HC.out j hj]⟩⟩, HG.out⟩
set_option maxHeartbeats 1000000 in
set_option maxRecDepth 100000 in
theorem heldEntryS_any (v : Value) (n : Nat) (m : Int) (w : World) (S : Nat → Prop) (h : MarkedE w S v n m) (hm : 0 < m) (hmn : m + n * 2 ≤ 1000000000000000) :
    Calls Try.prog 26 #[v, .int .i64 m] w fun e w' => e = .returned (.int .i64 (m + n * 2)) ∧ Ext w w' := by
  obtain ⟨A, cap, rfl, hlen, hw⟩ := h
  have HW := Lib.hid hw
  clear hw
  go_enter Try.func26, Try.ntmps26
  go_wp2
  go_loopw [1, 5] (fun q i wr => ∃ k : Nat, k ≤ n ∧ q = .int .i64 (m + (k : Int) * 2) ∧ i = .int .i64 k ∧ Ext w wr) (fun _ i _ => n - (intOf i).toNat)
  case atStart => exact ⟨0, by omega, by simp, rfl, Ext.refl _⟩
  case round =>
    obtain ⟨k, hk, rfl, rfl, hx⟩ := hrel
    have HX := Lib.hid hx
    clear hx
    by_cases hlt : k < n
    · obtain ⟨g, o, rfl, hs, hc⟩ := HW.out (by omega)
      have HC := Lib.hid hc
      clear hc
      have hmt0 := markText_any (m + (k : Int) * 2) (by omega) (by omega)
      have hmt1 := markText_any (m + (k : Int) * 2 + 1) (by omega) (by omega)
      have hi : (0 : Int) ≤ (k : Int) := by omega
      have hi2 : (k : Int) < (n : Int) := by omega
      have d0 : ∀ W, Ext wr W → W.cell? ⟨g, o + k * 2, none⟩ = some (.string (mtxt (m + (k : Int) * 2))) := fun W hW => by
        have := (HX.out.trans hW).cell (HC.out (k * 2) (by omega))
        rw [this]
        congr 3
      have hne : ((mtxt (m + (k : Int) * 2)).toList != (mtxt (m + (k : Int) * 2)).toList) = false := by simp
      have hne1 : ((mtxt (m + (k : Int) * 2 + 1)).toList != (mtxt (m + (k : Int) * 2 + 1)).toList) = false := by simp
      go_wp2_with fail
      refine wp_region_held_drew (S := fun W => Ext wr W) (by kernel_rfl) (Ext.refl _).drew (fun hHeld => ?_)
      refine wpAnyH_take (i := 0) (oi := ?oiz1) (v := ?vz1) ?hiz1 (by kernel_rfl) (by kernel_rfl) (by kernel_rfl) ?hQz1 ?hyz1 (by assumption) ?restz1
      case hiz1 => simp only [List.getElem?_toArray, List.getElem?_cons_zero, List.getElem?_cons_succ]; rfl
      case hQz1 => exact fun _ _ _ h => h
      case hyz1 => exact Or.inl ⟨by rfl, by intro w hSw; (try dsimp only at hSw); go_simp; with_reducible rfl⟩
      try simp only [Act.put, List.setIfInBounds_toArray, List.set_cons_zero, List.set_cons_succ]
      refine wpAnyH_take (i := 1) (oi := ?oiz2) (v := ?vz2) ?hiz2 (by kernel_rfl) (by kernel_rfl) (by kernel_rfl) ?hQz2 ?hyz2 (by assumption) ?restz2
      case hiz2 => simp only [List.getElem?_toArray, List.getElem?_cons_zero, List.getElem?_cons_succ]; rfl
      case hQz2 => exact fun _ _ _ h => h
      case hyz2 => exact Or.inl ⟨by rfl, by intro w hSw; (try dsimp only at hSw); go_simp; with_reducible rfl⟩
      try simp only [Act.put, List.setIfInBounds_toArray, List.set_cons_zero, List.set_cons_succ]
      refine wpAnyH_take (i := 2) (oi := ?oiz3) (v := ?vz3) ?hiz3 (by kernel_rfl) (by kernel_rfl) (by kernel_rfl) ?hQz3 ?hyz3 (by assumption) ?restz3
      case hiz3 => simp only [List.getElem?_toArray, List.getElem?_cons_zero, List.getElem?_cons_succ]; rfl
      case hQz3 => exact fun _ _ _ h => h
      case hyz3 => exact Or.inl ⟨by rfl, by intro w hSw; (try dsimp only at hSw); go_simp; with_reducible rfl⟩
      try simp only [Act.put, List.setIfInBounds_toArray, List.set_cons_zero, List.set_cons_succ]
      refine wpAnyH_take (i := 3) (oi := ?oiz4) (v := ?vz4) ?hiz4 (by kernel_rfl) (by kernel_rfl) (by kernel_rfl) ?hQz4 ?hyz4 (by assumption) ?restz4
      case hiz4 => simp only [List.getElem?_toArray, List.getElem?_cons_zero, List.getElem?_cons_succ]; rfl
      case hQz4 => exact fun _ _ _ h => h
      case hyz4 => exact Or.inl ⟨by rfl, by intro w hSw; (try dsimp only at hSw); go_simp; with_reducible rfl⟩
      try simp only [Act.put, List.setIfInBounds_toArray, List.set_cons_zero, List.set_cons_succ]
      refine wpAnyH_take (i := 4) (oi := ?oiz5) (v := ?vz5) ?hiz5 (by kernel_rfl) (by kernel_rfl) (by kernel_rfl) ?hQz5 ?hyz5 (by assumption) ?restz5
      case hiz5 => simp only [List.getElem?_toArray, List.getElem?_cons_zero, List.getElem?_cons_succ]; rfl
      case hQz5 => exact fun _ _ _ h => h
      case hyz5 => exact Or.inl ⟨by rfl, by intro w hSw; (try dsimp only at hSw); go_simp; with_reducible rfl⟩
      try simp only [Act.put, List.setIfInBounds_toArray, List.set_cons_zero, List.set_cons_succ]
      refine wpAnyH_take (i := 5) (oi := ?oiz6) (v := ?vz6) ?hiz6 (by kernel_rfl) (by kernel_rfl) (by kernel_rfl) ?hQz6 ?hyz6 (by assumption) ?restz6
      case hiz6 => simp only [List.getElem?_toArray, List.getElem?_cons_zero, List.getElem?_cons_succ]; rfl
      case hQz6 => exact fun _ _ _ h => h
      case hyz6 => exact Or.inl ⟨by rfl, by intro w hSw; (try dsimp only at hSw); go_simp; with_reducible rfl⟩
      try simp only [Act.put, List.setIfInBounds_toArray, List.set_cons_zero, List.set_cons_succ]
      refine wpAnyH_ready (rs := [6]) (by kernel_rfl) (by simp) (AllReadyH.cons (o := ?oy76) ?hy76 (fun K hK => ?sy76) AllReadyH.nil)
      case hy76 => simp only [List.getElem?_toArray, List.getElem?_cons_zero, List.getElem?_cons_succ]; rfl
      go_simp
      refine (hmt0 _).mono ?_
      rintro e w9 ⟨rfl, hx⟩
      have hH2 := hHeld.trans hx
      refine hK.out _ _ hH2 (fun _ => ?_)
      clear hHeld hK K
      have hHeld := hH2
      clear hH2
      try simp only [Act.put, List.setIfInBounds_toArray, List.set_cons_zero, List.set_cons_succ]
      refine wpAnyH_take (i := 7) (oi := ?oiz8) (v := ?vz8) ?hiz8 (by kernel_rfl) (by kernel_rfl) (by kernel_rfl) ?hQz8 ?hyz8 (by assumption) ?restz8
      case hiz8 => simp only [List.getElem?_toArray, List.getElem?_cons_zero, List.getElem?_cons_succ]; rfl
      case hQz8 => exact fun _ _ _ h => h
      case hyz8 => exact Or.inl ⟨by rfl, by intro w hSw; (try dsimp only at hSw); go_simp; with_reducible rfl⟩
      try simp only [Act.put, List.setIfInBounds_toArray, List.set_cons_zero, List.set_cons_succ]
      refine wpAnyH_done (by kernel_rfl) ?_ _
      have HX2 := Lib.hid (HX.out.trans hHeld)
      clear hHeld d0
      go_wp2_with fail
      generalize w9 = w2 at *
      have d1 : ∀ W, Ext w2 W → W.cell? ⟨g, o + k * 2 + 1, none⟩ = some (.string (mtxt (m + (k : Int) * 2 + 1))) := fun W hW => by
        have := (HX2.out.trans hW).cell (HC.out (k * 2 + 1) (by omega))
        rw [Nat.add_assoc, this]
        congr 3
        push_cast
        omega
      refine wp_region_held_drew (S := fun W => Ext w2 W) (by kernel_rfl) (Ext.refl _).drew (fun hHeld => ?_)
      refine wpAnyH_take (i := 0) (oi := ?oiz9) (v := ?vz9) ?hiz9 (by kernel_rfl) (by kernel_rfl) (by kernel_rfl) ?hQz9 ?hyz9 (by assumption) ?restz9
      case hiz9 => simp only [List.getElem?_toArray, List.getElem?_cons_zero, List.getElem?_cons_succ]; rfl
      case hQz9 => exact fun _ _ _ h => h
      case hyz9 => exact Or.inl ⟨by rfl, by intro w hSw; (try dsimp only at hSw); go_simp; with_reducible rfl⟩
      try simp only [Act.put, List.setIfInBounds_toArray, List.set_cons_zero, List.set_cons_succ]
      refine wpAnyH_take (i := 1) (oi := ?oiz10) (v := ?vz10) ?hiz10 (by kernel_rfl) (by kernel_rfl) (by kernel_rfl) ?hQz10 ?hyz10 (by assumption) ?restz10
      case hiz10 => simp only [List.getElem?_toArray, List.getElem?_cons_zero, List.getElem?_cons_succ]; rfl
      case hQz10 => exact fun _ _ _ h => h
      case hyz10 => exact Or.inl ⟨by rfl, by intro w hSw; (try dsimp only at hSw); go_simp; with_reducible rfl⟩
      try simp only [Act.put, List.setIfInBounds_toArray, List.set_cons_zero, List.set_cons_succ]
      refine wpAnyH_take (i := 2) (oi := ?oiz11) (v := ?vz11) ?hiz11 (by kernel_rfl) (by kernel_rfl) (by kernel_rfl) ?hQz11 ?hyz11 (by assumption) ?restz11
      case hiz11 => simp only [List.getElem?_toArray, List.getElem?_cons_zero, List.getElem?_cons_succ]; rfl
      case hQz11 => exact fun _ _ _ h => h
      case hyz11 => exact Or.inl ⟨by rfl, by intro w hSw; (try dsimp only at hSw); go_simp; with_reducible rfl⟩
      try simp only [Act.put, List.setIfInBounds_toArray, List.set_cons_zero, List.set_cons_succ]
      refine wpAnyH_take (i := 3) (oi := ?oiz12) (v := ?vz12) ?hiz12 (by kernel_rfl) (by kernel_rfl) (by kernel_rfl) ?hQz12 ?hyz12 (by assumption) ?restz12
      case hiz12 => simp only [List.getElem?_toArray, List.getElem?_cons_zero, List.getElem?_cons_succ]; rfl
      case hQz12 => exact fun _ _ _ h => h
      case hyz12 => exact Or.inl ⟨by rfl, by intro w hSw; (try dsimp only at hSw); go_simp; with_reducible rfl⟩
      try simp only [Act.put, List.setIfInBounds_toArray, List.set_cons_zero, List.set_cons_succ]
      refine wpAnyH_take (i := 4) (oi := ?oiz13) (v := ?vz13) ?hiz13 (by kernel_rfl) (by kernel_rfl) (by kernel_rfl) ?hQz13 ?hyz13 (by assumption) ?restz13
      case hiz13 => simp only [List.getElem?_toArray, List.getElem?_cons_zero, List.getElem?_cons_succ]; rfl
      case hQz13 => exact fun _ _ _ h => h
      case hyz13 => exact Or.inl ⟨by rfl, by intro w hSw; (try dsimp only at hSw); go_simp; with_reducible rfl⟩
      try simp only [Act.put, List.setIfInBounds_toArray, List.set_cons_zero, List.set_cons_succ]
      refine wpAnyH_take (i := 5) (oi := ?oiz14) (v := ?vz14) ?hiz14 (by kernel_rfl) (by kernel_rfl) (by kernel_rfl) ?hQz14 ?hyz14 (by assumption) ?restz14
      case hiz14 => simp only [List.getElem?_toArray, List.getElem?_cons_zero, List.getElem?_cons_succ]; rfl
      case hQz14 => exact fun _ _ _ h => h
      case hyz14 => exact Or.inl ⟨by rfl, by intro w hSw; (try dsimp only at hSw); go_simp; with_reducible rfl⟩
      try simp only [Act.put, List.setIfInBounds_toArray, List.set_cons_zero, List.set_cons_succ]
      refine wpAnyH_ready (rs := [6]) (by kernel_rfl) (by simp) (AllReadyH.cons (o := ?oy156) ?hy156 (fun K hK => ?sy156) AllReadyH.nil)
      case hy156 => simp only [List.getElem?_toArray, List.getElem?_cons_zero, List.getElem?_cons_succ]; rfl
      go_simp
      refine (hmt1 _).mono ?_
      rintro e w9 ⟨rfl, hx⟩
      have hH2 := hHeld.trans hx
      refine hK.out _ _ hH2 (fun _ => ?_)
      clear hHeld hK K
      have hHeld := hH2
      clear hH2
      try simp only [Act.put, List.setIfInBounds_toArray, List.set_cons_zero, List.set_cons_succ]
      refine wpAnyH_take (i := 7) (oi := ?oiz16) (v := ?vz16) ?hiz16 (by kernel_rfl) (by kernel_rfl) (by kernel_rfl) ?hQz16 ?hyz16 (by assumption) ?restz16
      case hiz16 => simp only [List.getElem?_toArray, List.getElem?_cons_zero, List.getElem?_cons_succ]; rfl
      case hQz16 => exact fun _ _ _ h => h
      case hyz16 => exact Or.inl ⟨by rfl, by intro w hSw; (try dsimp only at hSw); go_simp; with_reducible rfl⟩
      try simp only [Act.put, List.setIfInBounds_toArray, List.set_cons_zero, List.set_cons_succ]
      refine wpAnyH_done (by kernel_rfl) ?_ _
      have HX3 := Lib.hid (HX2.out.trans hHeld)
      clear hHeld
      go_wp2
      go_roundw
      case rel => exact ⟨k + 1, by omega, by go_num, by go_num, HX3.out⟩
      case measure => simp [intOf]; omega
    · go_wp2
      go_ret
      obtain rfl : k = n := by omega
      exact ⟨rfl, HX.out⟩
end Go.Proofs.Ytmndkbheehcoaaa
/- Marks laid on lists of changes, and read. No condition. -/
namespace Go.Proofs.Ytmndkbheehcoaaa
open Go.RowKit
set_option linter.unusedVariables false
set_option linter.unusedSimpArgs false

/-- the mark in cell p of a row of changes -/
@[irreducible] def mkC (m : Int) (p : Nat) : Value := if p % 5 = 1 ∨ p % 5 = 3 then .bool ((m + p) % 3 == 0) else .string (mtxt (m + p))
theorem mkC_b (m : Int) (p : Nat) (h : p % 5 = 1 ∨ p % 5 = 3) : mkC m p = .bool ((m + p) % 3 == 0) := by rw [mkC, if_pos h]
theorem mkC_t (m : Int) (p : Nat) (h : ¬ (p % 5 = 1 ∨ p % 5 = 3)) : mkC m p = .string (mtxt (m + p)) := by rw [mkC, if_neg h]
def MkC (cur : Array Value) (o : Nat) (m : Int) (t : Nat) : Prop := ∀ p, p < t → cur[o + p]? = some (mkC m p)
theorem MkC.step {cur : Array Value} {o : Nat} {m : Int} {t q : Nat} {v : Value} (h : MkC cur o m t) (hq : q = o + t) (hin : q < cur.size) (hv : v = mkC m t) : MkC (cur.setIfInBounds q v) o m (t + 1) := by
  subst hq hv
  intro p hp
  by_cases e : p = t
  · subst e
    rw [Array.getElem?_setIfInBounds_self_of_lt hin]
  · rw [Array.getElem?_setIfInBounds_ne (by omega)]
    exact h p (by omega)
/-- the changes of v hold the marks m, m + 1, .. -/
def MarkedC (w : World) (S : Nat → Prop) (v : Value) (n : Nat) (m : Int) : Prop :=
  ∃ A cap, v = .slice A n cap ∧ n ≤ 140737488355328 ∧ (0 < n → ∃ g o, A = some ⟨g, o, none⟩ ∧ S g ∧ ∀ j, j < n * 5 → w.cell? ⟨g, o + j, none⟩ = some (mkC m j))
theorem MarkedC.ext {w w' : World} {S : Nat → Prop} {v : Value} {n : Nat} {m : Int} (h : MarkedC w S v n m) (e : Ext w w') : MarkedC w' S v n m := by
  obtain ⟨A, cap, h1, h2, h3⟩ := h
  refine ⟨A, cap, h1, h2, fun hn => ?_⟩
  obtain ⟨g, o, h4, h5, h6⟩ := h3 hn
  exact ⟨g, o, h4, h5, fun j hj => e.cell (h6 j hj)⟩
set_option maxHeartbeats 2000000 in
set_option maxRecDepth 100000 in
theorem markChangeM_any (v : Value) (n : Nat) (m : Int) (w : World) (lo : Nat) (h : Wr w lo 5 v n) (hm : 0 < m) (hmn : m + n * 5 ≤ 1000000000000000) :
    Calls Try.prog 30 #[v, .int .i64 m] w fun e w' => e = .returned (.int .i64 (m + n * 5)) ∧ MarkedC w' (fun g => lo ≤ g ∧ some g = v.ownBlock) v n m ∧ w.grownBy w' v.ownBlock := by
  obtain ⟨A, cap, rfl, hcap, hlen, hw⟩ := h
  have HW := Lib.hid hw
  clear hw
  by_cases h0 : n = 0
  · subst h0
    go_enter Try.func30, Try.ntmps30
    go_wp2
    go_loopw [1, 5] (fun q i wr => q = .int .i64 m ∧ i = .int .i64 0 ∧ wr = w) (fun _ _ _ => 0)
    case atStart => exact ⟨rfl, rfl, rfl⟩
    case round =>
      obtain ⟨rfl, rfl, rfl⟩ := hrel
      go_wp2
      go_ret
      exact ⟨ret_int (by simp), ⟨A, cap, rfl, by omega, fun h => by omega⟩, grown_refl _ _⟩
  · obtain ⟨g, o, cur, t, rfl, hlo, hB, hsz⟩ := HW.out (by omega)
    have HB := Lib.hid hB
    clear hB
    go_enter Try.func30, Try.ntmps30
    go_wp2
    go_loopw [1, 5] (fun q i wr => ∃ k : Nat, k ≤ n ∧ q = .int .i64 (m + (k : Int) * 5) ∧ i = .int .i64 k ∧ (∃ cur', Blk wr g t cur' ∧ cur'.size = cur.size ∧ MkC cur' o m (k * 5)) ∧ w.grownBy wr (some g))
      (fun _ i _ => n - (intOf i).toNat)
    case atStart => exact ⟨0, by omega, by simp, rfl, ⟨cur, HB.out, rfl, fun j hj => by omega⟩, grown_refl _ _⟩
    case round =>
      obtain ⟨k, hk, rfl, rfl, ⟨cur', hB', hs', hcc⟩, hg⟩ := hrel
      have HC := Lib.hid hcc
      clear hcc
      have HG := Lib.hid hg
      have HS := Lib.hid hs'
      have HB' := Lib.hid hB'
      clear hg hs' hB'
      by_cases hlt : k < n
      · have hmt0 := markText_any (m + (k : Int) * 5) (by omega) (by omega)
        have hmt2 := markText_any (m + (k : Int) * 5 + 1 + 1) (by omega) (by omega)
        have hmt4 := markText_any (m + (k : Int) * 5 + 1 + 1 + 1 + 1) (by omega) (by omega)
        have hi : (0 : Int) ≤ (k : Int) := by omega
        have hi2 : (k : Int) < (n : Int) := by omega
        go_wp2_with fail
        refine (hmt0 _).mono ?_
        rintro e w1 ⟨rfl, hx⟩
        obtain ⟨c1, hs1, hb1, hm1⟩ : ∃ c1 : Array Value, c1.size = cur.size ∧ Blk w1 g t c1 ∧ MkC c1 o m (k * 5) := ⟨_, HS.out, HB'.out.ext hx, HC.out⟩
        have HM1 := Lib.hid hm1
        clear hm1
        have HB1 := Lib.hid hb1
        have HG1 := Lib.hid (grown_ext HG.out hx)
        clear hx HB' HG hb1
        have z0 : o + k * 5 < c1.size := by rw [hs1]; omega
        have z1 : o + k * 5 + 1 < c1.size := by rw [hs1]; omega
        have q0 : w1.cell? ⟨g, o + k * 5, none⟩ = some c1[o + k * 5] := HB1.out.at_ _ (Array.getElem?_eq_getElem z0)
        have f0 := HB1.out.free (o + k * 5)
        have q1 : ∀ u, ∃ x, (w1.setCell ⟨g, o + k * 5, none⟩ u).cell? ⟨g, o + k * 5 + 1, none⟩ = some x := fun u => ⟨_, (HB1.out.set (o + k * 5) u).at_ _ (Array.getElem?_eq_getElem (by rw [Array.size_setIfInBounds]; exact z1))⟩
        obtain ⟨x1, q1⟩ := q1 (.string (mtxt (m + (k : Int) * 5)))
        have f1 := (HB1.out.set (o + k * 5) (.string (mtxt (m + (k : Int) * 5)))).free (o + k * 5 + 1)
        go_wp2_with fail
        refine (hmt2 _).mono ?_
        rintro e w2 ⟨rfl, hx⟩
        obtain ⟨c2, hs2, hb2, hm2⟩ : ∃ c2 : Array Value, c2.size = cur.size ∧ Blk w2 g t c2 ∧ MkC c2 o m (k * 5 + 2) := by
          refine ⟨_, ?_, ((HB1.out.set (o + k * 5) _).set (o + k * 5 + 1) _).ext hx, ?_⟩
          · rw [Array.size_setIfInBounds, Array.size_setIfInBounds, hs1]
          · refine (HM1.out.step (q := o + k * 5) (by omega) z0 ?_).step (q := o + k * 5 + 1) (by omega) (by rw [Array.size_setIfInBounds]; exact z1) ?_
            · rw [mkC_t _ _ (by omega)]; congr 2; (try (push_cast; omega))
            · rw [mkC_b _ _ (by omega)]; congr 2; push_cast; omega
        have HM2 := Lib.hid hm2
        clear hm2
        have HG2 := Lib.hid (grown_ext (grown_set (grown_set HG1.out _) _) hx)
        have HB2 := Lib.hid hb2
        clear hx HB1 HG1 q0 f0 q1 f1 z0 z1 hb2
        have z0 : o + k * 5 + 2 < c2.size := by rw [hs2]; omega
        have z1 : o + k * 5 + 3 < c2.size := by rw [hs2]; omega
        have q0 : w2.cell? ⟨g, o + k * 5 + 2, none⟩ = some c2[o + k * 5 + 2] := HB2.out.at_ _ (Array.getElem?_eq_getElem z0)
        have f0 := HB2.out.free (o + k * 5 + 2)
        have q1 : ∀ u, ∃ x, (w2.setCell ⟨g, o + k * 5 + 2, none⟩ u).cell? ⟨g, o + k * 5 + 3, none⟩ = some x := fun u => ⟨_, (HB2.out.set (o + k * 5 + 2) u).at_ _ (Array.getElem?_eq_getElem (by rw [Array.size_setIfInBounds]; exact z1))⟩
        obtain ⟨x1, q1⟩ := q1 (.string (mtxt (m + (k : Int) * 5 + 1 + 1)))
        have f1 := (HB2.out.set (o + k * 5 + 2) (.string (mtxt (m + (k : Int) * 5 + 1 + 1)))).free (o + k * 5 + 3)
        go_wp2_with fail
        refine (hmt4 _).mono ?_
        rintro e w3 ⟨rfl, hx⟩
        obtain ⟨c3, hs3, hb3, hm3⟩ : ∃ c3 : Array Value, c3.size = cur.size ∧ Blk w3 g t c3 ∧ MkC c3 o m (k * 5 + 4) := by
          refine ⟨_, ?_, ((HB2.out.set (o + k * 5 + 2) _).set (o + k * 5 + 3) _).ext hx, ?_⟩
          · rw [Array.size_setIfInBounds, Array.size_setIfInBounds, hs2]
          · refine (HM2.out.step (q := o + k * 5 + 2) (by omega) z0 ?_).step (q := o + k * 5 + 3) (by omega) (by rw [Array.size_setIfInBounds]; exact z1) ?_
            · rw [mkC_t _ _ (by omega)]; congr 2; (try (push_cast; omega))
            · rw [mkC_b _ _ (by omega)]; congr 2; push_cast; omega
        have HM3 := Lib.hid hm3
        clear hm3
        have HG3 := Lib.hid (grown_ext (grown_set (grown_set HG2.out _) _) hx)
        have HB3 := Lib.hid hb3
        clear hx HB2 HG2 q0 f0 q1 f1 z0 z1 hb3
        have z0 : o + k * 5 + 4 < c3.size := by rw [hs3]; omega
        have q0 : w3.cell? ⟨g, o + k * 5 + 4, none⟩ = some c3[o + k * 5 + 4] := HB3.out.at_ _ (Array.getElem?_eq_getElem z0)
        have f0 := HB3.out.free (o + k * 5 + 4)
        go_wp2
        go_roundw
        case rel => exact ⟨k + 1, by omega, by go_num, by go_num, ⟨_, HB3.out.set (o + k * 5 + 4) _, by rw [Array.size_setIfInBounds, hs3], by
          have := HM3.out.step (q := o + k * 5 + 4) (by omega) z0 (v := .string (mtxt (m + (k : Int) * 5 + 1 + 1 + 1 + 1))) (by rw [mkC_t _ _ (by omega)]; congr 2; push_cast; omega)
          rw [Nat.succ_mul]
          exact this⟩, grown_set HG3.out _⟩
        case measure => simp [intOf]; omega
      · obtain rfl : k = n := by omega
        go_wp2
        go_ret
        exact ⟨rfl, ⟨_, cap, rfl, hlen, fun _ => ⟨g, o, rfl, ⟨hlo, rfl⟩, fun j hj => by rw [HB'.out.cell, HC.out j hj]⟩⟩, HG.out⟩
set_option maxHeartbeats 1000000 in
set_option maxRecDepth 100000 in
theorem heldChangeS_any (v : Value) (n : Nat) (m : Int) (w : World) (S : Nat → Prop) (h : MarkedC w S v n m) (hm : 0 < m) (hmn : m + n * 5 ≤ 1000000000000000) :
    Calls Try.prog 31 #[v, .int .i64 m] w fun e w' => e = .returned (.int .i64 (m + n * 5)) ∧ Ext w w' := by
  obtain ⟨A, cap, rfl, hlen, hw⟩ := h
  have HW := Lib.hid hw
  clear hw
  go_enter Try.func31, Try.ntmps31
  go_wp2
  go_loopw [1, 5] (fun q i wr => ∃ k : Nat, k ≤ n ∧ q = .int .i64 (m + (k : Int) * 5) ∧ i = .int .i64 k ∧ Ext w wr) (fun _ i _ => n - (intOf i).toNat)
  case atStart => exact ⟨0, by omega, by simp, rfl, Ext.refl _⟩
  case round =>
    obtain ⟨k, hk, rfl, rfl, hx⟩ := hrel
    have HX := Lib.hid hx
    clear hx
    by_cases hlt : k < n
    · obtain ⟨g, o, rfl, hs, hc⟩ := HW.out (by omega)
      have HC := Lib.hid hc
      clear hc
      have hmt0 := markText_any (m + (k : Int) * 5) (by omega) (by omega)
      have hmt2 := markText_any (m + (k : Int) * 5 + 1 + 1) (by omega) (by omega)
      have hmt4 := markText_any (m + (k : Int) * 5 + 1 + 1 + 1 + 1) (by omega) (by omega)
      have hi : (0 : Int) ≤ (k : Int) := by omega
      have hi2 : (k : Int) < (n : Int) := by omega
      have hn0 : 0 ≤ m + (k : Int) * 5 + 1 := by omega
      have hn1 : 0 ≤ m + (k : Int) * 5 + 1 + 1 + 1 := by omega
      have d0 : ∀ W, Ext wr W → W.cell? ⟨g, o + k * 5, none⟩ = some (.string (mtxt (m + (k : Int) * 5))) := fun W hW => by
        have := (HX.out.trans hW).cell (HC.out (k * 5) (by omega))
        rw [this, mkC_t _ _ (by omega)]
        congr 3
      have D1 := Lib.hid (show ∀ W, Ext wr W → W.cell? ⟨g, o + k * 5 + 1, none⟩ = some (.bool ((m + (k : Int) * 5 + 1) % 3 == 0)) from fun W hW => by
        have := (HX.out.trans hW).cell (HC.out (k * 5 + 1) (by omega))
        rw [Nat.add_assoc, this, mkC_b _ _ (by omega)]
        congr 3
        push_cast
        omega)
      have D2 := Lib.hid (show ∀ W, Ext wr W → W.cell? ⟨g, o + k * 5 + 2, none⟩ = some (.string (mtxt (m + (k : Int) * 5 + 1 + 1))) from fun W hW => by
        have := (HX.out.trans hW).cell (HC.out (k * 5 + 2) (by omega))
        rw [Nat.add_assoc, this, mkC_t _ _ (by omega)]
        congr 3
        push_cast
        omega)
      have D3 := Lib.hid (show ∀ W, Ext wr W → W.cell? ⟨g, o + k * 5 + 3, none⟩ = some (.bool ((m + (k : Int) * 5 + 1 + 1 + 1) % 3 == 0)) from fun W hW => by
        have := (HX.out.trans hW).cell (HC.out (k * 5 + 3) (by omega))
        rw [Nat.add_assoc, this, mkC_b _ _ (by omega)]
        congr 3
        push_cast
        omega)
      have D4 := Lib.hid (show ∀ W, Ext wr W → W.cell? ⟨g, o + k * 5 + 4, none⟩ = some (.string (mtxt (m + (k : Int) * 5 + 1 + 1 + 1 + 1))) from fun W hW => by
        have := (HX.out.trans hW).cell (HC.out (k * 5 + 4) (by omega))
        rw [Nat.add_assoc, this, mkC_t _ _ (by omega)]
        congr 3
        push_cast
        omega)
      have hne : ((mtxt (m + (k : Int) * 5)).toList != (mtxt (m + (k : Int) * 5)).toList) = false := by simp
      have hne2 : ((mtxt (m + (k : Int) * 5 + 1 + 1)).toList != (mtxt (m + (k : Int) * 5 + 1 + 1)).toList) = false := by simp
      have hne4 : ((mtxt (m + (k : Int) * 5 + 1 + 1 + 1 + 1)).toList != (mtxt (m + (k : Int) * 5 + 1 + 1 + 1 + 1)).toList) = false := by simp
      have hb1 : (((m + (k : Int) * 5 + 1) % 3 == 0) != ((m + (k : Int) * 5 + 1) % 3 == 0)) = false := by simp
      have hb3 : (((m + (k : Int) * 5 + 1 + 1 + 1) % 3 == 0) != ((m + (k : Int) * 5 + 1 + 1 + 1) % 3 == 0)) = false := by simp
      go_wp2_with fail
      refine wp_region_held_drew (S := fun W => Ext wr W) (by kernel_rfl) (Ext.refl _).drew (fun hHeld => ?_)
      refine wpAnyH_take (i := 0) (oi := ?oiz1) (v := ?vz1) ?hiz1 (by kernel_rfl) (by kernel_rfl) (by kernel_rfl) ?hQz1 ?hyz1 (by assumption) ?restz1
      case hiz1 => simp only [List.getElem?_toArray, List.getElem?_cons_zero, List.getElem?_cons_succ]; rfl
      case hQz1 => exact fun _ _ _ h => h
      case hyz1 => exact Or.inl ⟨by rfl, by intro w hSw; (try dsimp only at hSw); go_simp; with_reducible rfl⟩
      try simp only [Act.put, List.setIfInBounds_toArray, List.set_cons_zero, List.set_cons_succ]
      refine wpAnyH_take (i := 1) (oi := ?oiz2) (v := ?vz2) ?hiz2 (by kernel_rfl) (by kernel_rfl) (by kernel_rfl) ?hQz2 ?hyz2 (by assumption) ?restz2
      case hiz2 => simp only [List.getElem?_toArray, List.getElem?_cons_zero, List.getElem?_cons_succ]; rfl
      case hQz2 => exact fun _ _ _ h => h
      case hyz2 => exact Or.inl ⟨by rfl, by intro w hSw; (try dsimp only at hSw); go_simp; with_reducible rfl⟩
      try simp only [Act.put, List.setIfInBounds_toArray, List.set_cons_zero, List.set_cons_succ]
      refine wpAnyH_take (i := 2) (oi := ?oiz3) (v := ?vz3) ?hiz3 (by kernel_rfl) (by kernel_rfl) (by kernel_rfl) ?hQz3 ?hyz3 (by assumption) ?restz3
      case hiz3 => simp only [List.getElem?_toArray, List.getElem?_cons_zero, List.getElem?_cons_succ]; rfl
      case hQz3 => exact fun _ _ _ h => h
      case hyz3 => exact Or.inl ⟨by rfl, by intro w hSw; (try dsimp only at hSw); go_simp; with_reducible rfl⟩
      try simp only [Act.put, List.setIfInBounds_toArray, List.set_cons_zero, List.set_cons_succ]
      refine wpAnyH_take (i := 3) (oi := ?oiz4) (v := ?vz4) ?hiz4 (by kernel_rfl) (by kernel_rfl) (by kernel_rfl) ?hQz4 ?hyz4 (by assumption) ?restz4
      case hiz4 => simp only [List.getElem?_toArray, List.getElem?_cons_zero, List.getElem?_cons_succ]; rfl
      case hQz4 => exact fun _ _ _ h => h
      case hyz4 => exact Or.inl ⟨by rfl, by intro w hSw; (try dsimp only at hSw); go_simp; with_reducible rfl⟩
      try simp only [Act.put, List.setIfInBounds_toArray, List.set_cons_zero, List.set_cons_succ]
      refine wpAnyH_take (i := 4) (oi := ?oiz5) (v := ?vz5) ?hiz5 (by kernel_rfl) (by kernel_rfl) (by kernel_rfl) ?hQz5 ?hyz5 (by assumption) ?restz5
      case hiz5 => simp only [List.getElem?_toArray, List.getElem?_cons_zero, List.getElem?_cons_succ]; rfl
      case hQz5 => exact fun _ _ _ h => h
      case hyz5 => exact Or.inl ⟨by rfl, by intro w hSw; (try dsimp only at hSw); go_simp; with_reducible rfl⟩
      try simp only [Act.put, List.setIfInBounds_toArray, List.set_cons_zero, List.set_cons_succ]
      refine wpAnyH_take (i := 5) (oi := ?oiz6) (v := ?vz6) ?hiz6 (by kernel_rfl) (by kernel_rfl) (by kernel_rfl) ?hQz6 ?hyz6 (by assumption) ?restz6
      case hiz6 => simp only [List.getElem?_toArray, List.getElem?_cons_zero, List.getElem?_cons_succ]; rfl
      case hQz6 => exact fun _ _ _ h => h
      case hyz6 => exact Or.inl ⟨by rfl, by intro w hSw; (try dsimp only at hSw); go_simp; with_reducible rfl⟩
      try simp only [Act.put, List.setIfInBounds_toArray, List.set_cons_zero, List.set_cons_succ]
      refine wpAnyH_ready (rs := [6]) (by kernel_rfl) (by simp) (AllReadyH.cons (o := ?oy76) ?hy76 (fun K hK => ?sy76) AllReadyH.nil)
      case hy76 => simp only [List.getElem?_toArray, List.getElem?_cons_zero, List.getElem?_cons_succ]; rfl
      go_simp
      refine (hmt0 _).mono ?_
      rintro e w1 ⟨rfl, hx⟩
      have hH2 := hHeld.trans hx
      refine hK.out _ _ hH2 (fun _ => ?_)
      clear hHeld hK K
      have hHeld := hH2
      clear hH2
      try simp only [Act.put, List.setIfInBounds_toArray, List.set_cons_zero, List.set_cons_succ]
      refine wpAnyH_take (i := 7) (oi := ?oiz8) (v := ?vz8) ?hiz8 (by kernel_rfl) (by kernel_rfl) (by kernel_rfl) ?hQz8 ?hyz8 (by assumption) ?restz8
      case hiz8 => simp only [List.getElem?_toArray, List.getElem?_cons_zero, List.getElem?_cons_succ]; rfl
      case hQz8 => exact fun _ _ _ h => h
      case hyz8 => exact Or.inl ⟨by rfl, by intro w hSw; (try dsimp only at hSw); go_simp; with_reducible rfl⟩
      try simp only [Act.put, List.setIfInBounds_toArray, List.set_cons_zero, List.set_cons_succ]
      refine wpAnyH_done (by kernel_rfl) ?_ _
      have HE1 := Lib.hid hHeld
      clear hHeld d0
      have d1 := D1.out _ HE1.out
      go_wp2_with fail
      have d2 : ∀ W, Ext w1 W → W.cell? ⟨g, o + k * 5 + 2, none⟩ = some (.string (mtxt (m + (k : Int) * 5 + 1 + 1))) := fun W hW => D2.out _ (HE1.out.trans hW)
      refine wp_region_held_drew (S := fun W => Ext w1 W) (by kernel_rfl) (Ext.refl _).drew (fun hHeld => ?_)
      refine wpAnyH_take (i := 0) (oi := ?oiz9) (v := ?vz9) ?hiz9 (by kernel_rfl) (by kernel_rfl) (by kernel_rfl) ?hQz9 ?hyz9 (by assumption) ?restz9
      case hiz9 => simp only [List.getElem?_toArray, List.getElem?_cons_zero, List.getElem?_cons_succ]; rfl
      case hQz9 => exact fun _ _ _ h => h
      case hyz9 => exact Or.inl ⟨by rfl, by intro w hSw; (try dsimp only at hSw); go_simp; with_reducible rfl⟩
      try simp only [Act.put, List.setIfInBounds_toArray, List.set_cons_zero, List.set_cons_succ]
      refine wpAnyH_take (i := 1) (oi := ?oiz10) (v := ?vz10) ?hiz10 (by kernel_rfl) (by kernel_rfl) (by kernel_rfl) ?hQz10 ?hyz10 (by assumption) ?restz10
      case hiz10 => simp only [List.getElem?_toArray, List.getElem?_cons_zero, List.getElem?_cons_succ]; rfl
      case hQz10 => exact fun _ _ _ h => h
      case hyz10 => exact Or.inl ⟨by rfl, by intro w hSw; (try dsimp only at hSw); go_simp; with_reducible rfl⟩
      try simp only [Act.put, List.setIfInBounds_toArray, List.set_cons_zero, List.set_cons_succ]
      refine wpAnyH_take (i := 2) (oi := ?oiz11) (v := ?vz11) ?hiz11 (by kernel_rfl) (by kernel_rfl) (by kernel_rfl) ?hQz11 ?hyz11 (by assumption) ?restz11
      case hiz11 => simp only [List.getElem?_toArray, List.getElem?_cons_zero, List.getElem?_cons_succ]; rfl
      case hQz11 => exact fun _ _ _ h => h
      case hyz11 => exact Or.inl ⟨by rfl, by intro w hSw; (try dsimp only at hSw); go_simp; with_reducible rfl⟩
      try simp only [Act.put, List.setIfInBounds_toArray, List.set_cons_zero, List.set_cons_succ]
      refine wpAnyH_take (i := 3) (oi := ?oiz12) (v := ?vz12) ?hiz12 (by kernel_rfl) (by kernel_rfl) (by kernel_rfl) ?hQz12 ?hyz12 (by assumption) ?restz12
      case hiz12 => simp only [List.getElem?_toArray, List.getElem?_cons_zero, List.getElem?_cons_succ]; rfl
      case hQz12 => exact fun _ _ _ h => h
      case hyz12 => exact Or.inl ⟨by rfl, by intro w hSw; (try dsimp only at hSw); go_simp; with_reducible rfl⟩
      try simp only [Act.put, List.setIfInBounds_toArray, List.set_cons_zero, List.set_cons_succ]
      refine wpAnyH_take (i := 4) (oi := ?oiz13) (v := ?vz13) ?hiz13 (by kernel_rfl) (by kernel_rfl) (by kernel_rfl) ?hQz13 ?hyz13 (by assumption) ?restz13
      case hiz13 => simp only [List.getElem?_toArray, List.getElem?_cons_zero, List.getElem?_cons_succ]; rfl
      case hQz13 => exact fun _ _ _ h => h
      case hyz13 => exact Or.inl ⟨by rfl, by intro w hSw; (try dsimp only at hSw); go_simp; with_reducible rfl⟩
      try simp only [Act.put, List.setIfInBounds_toArray, List.set_cons_zero, List.set_cons_succ]
      refine wpAnyH_take (i := 5) (oi := ?oiz14) (v := ?vz14) ?hiz14 (by kernel_rfl) (by kernel_rfl) (by kernel_rfl) ?hQz14 ?hyz14 (by assumption) ?restz14
      case hiz14 => simp only [List.getElem?_toArray, List.getElem?_cons_zero, List.getElem?_cons_succ]; rfl
      case hQz14 => exact fun _ _ _ h => h
      case hyz14 => exact Or.inl ⟨by rfl, by intro w hSw; (try dsimp only at hSw); go_simp; with_reducible rfl⟩
      try simp only [Act.put, List.setIfInBounds_toArray, List.set_cons_zero, List.set_cons_succ]
      refine wpAnyH_ready (rs := [6]) (by kernel_rfl) (by simp) (AllReadyH.cons (o := ?oy156) ?hy156 (fun K hK => ?sy156) AllReadyH.nil)
      case hy156 => simp only [List.getElem?_toArray, List.getElem?_cons_zero, List.getElem?_cons_succ]; rfl
      go_simp
      refine (hmt2 _).mono ?_
      rintro e w3 ⟨rfl, hx⟩
      have hH2 := hHeld.trans hx
      refine hK.out _ _ hH2 (fun _ => ?_)
      clear hHeld hK K
      have hHeld := hH2
      clear hH2
      try simp only [Act.put, List.setIfInBounds_toArray, List.set_cons_zero, List.set_cons_succ]
      refine wpAnyH_take (i := 7) (oi := ?oiz16) (v := ?vz16) ?hiz16 (by kernel_rfl) (by kernel_rfl) (by kernel_rfl) ?hQz16 ?hyz16 (by assumption) ?restz16
      case hiz16 => simp only [List.getElem?_toArray, List.getElem?_cons_zero, List.getElem?_cons_succ]; rfl
      case hQz16 => exact fun _ _ _ h => h
      case hyz16 => exact Or.inl ⟨by rfl, by intro w hSw; (try dsimp only at hSw); go_simp; with_reducible rfl⟩
      try simp only [Act.put, List.setIfInBounds_toArray, List.set_cons_zero, List.set_cons_succ]
      refine wpAnyH_done (by kernel_rfl) ?_ _
      have HE3 := Lib.hid (HE1.out.trans hHeld)
      clear hHeld d2 d1
      have d3 := D3.out _ HE3.out
      go_wp2_with fail
      have d4 : ∀ W, Ext w3 W → W.cell? ⟨g, o + k * 5 + 4, none⟩ = some (.string (mtxt (m + (k : Int) * 5 + 1 + 1 + 1 + 1))) := fun W hW => D4.out _ (HE3.out.trans hW)
      refine wp_region_held_drew (S := fun W => Ext w3 W) (by kernel_rfl) (Ext.refl _).drew (fun hHeld => ?_)
      refine wpAnyH_take (i := 0) (oi := ?oiz17) (v := ?vz17) ?hiz17 (by kernel_rfl) (by kernel_rfl) (by kernel_rfl) ?hQz17 ?hyz17 (by assumption) ?restz17
      case hiz17 => simp only [List.getElem?_toArray, List.getElem?_cons_zero, List.getElem?_cons_succ]; rfl
      case hQz17 => exact fun _ _ _ h => h
      case hyz17 => exact Or.inl ⟨by rfl, by intro w hSw; (try dsimp only at hSw); go_simp; with_reducible rfl⟩
      try simp only [Act.put, List.setIfInBounds_toArray, List.set_cons_zero, List.set_cons_succ]
      refine wpAnyH_take (i := 1) (oi := ?oiz18) (v := ?vz18) ?hiz18 (by kernel_rfl) (by kernel_rfl) (by kernel_rfl) ?hQz18 ?hyz18 (by assumption) ?restz18
      case hiz18 => simp only [List.getElem?_toArray, List.getElem?_cons_zero, List.getElem?_cons_succ]; rfl
      case hQz18 => exact fun _ _ _ h => h
      case hyz18 => exact Or.inl ⟨by rfl, by intro w hSw; (try dsimp only at hSw); go_simp; with_reducible rfl⟩
      try simp only [Act.put, List.setIfInBounds_toArray, List.set_cons_zero, List.set_cons_succ]
      refine wpAnyH_take (i := 2) (oi := ?oiz19) (v := ?vz19) ?hiz19 (by kernel_rfl) (by kernel_rfl) (by kernel_rfl) ?hQz19 ?hyz19 (by assumption) ?restz19
      case hiz19 => simp only [List.getElem?_toArray, List.getElem?_cons_zero, List.getElem?_cons_succ]; rfl
      case hQz19 => exact fun _ _ _ h => h
      case hyz19 => exact Or.inl ⟨by rfl, by intro w hSw; (try dsimp only at hSw); go_simp; with_reducible rfl⟩
      try simp only [Act.put, List.setIfInBounds_toArray, List.set_cons_zero, List.set_cons_succ]
      refine wpAnyH_take (i := 3) (oi := ?oiz20) (v := ?vz20) ?hiz20 (by kernel_rfl) (by kernel_rfl) (by kernel_rfl) ?hQz20 ?hyz20 (by assumption) ?restz20
      case hiz20 => simp only [List.getElem?_toArray, List.getElem?_cons_zero, List.getElem?_cons_succ]; rfl
      case hQz20 => exact fun _ _ _ h => h
      case hyz20 => exact Or.inl ⟨by rfl, by intro w hSw; (try dsimp only at hSw); go_simp; with_reducible rfl⟩
      try simp only [Act.put, List.setIfInBounds_toArray, List.set_cons_zero, List.set_cons_succ]
      refine wpAnyH_take (i := 4) (oi := ?oiz21) (v := ?vz21) ?hiz21 (by kernel_rfl) (by kernel_rfl) (by kernel_rfl) ?hQz21 ?hyz21 (by assumption) ?restz21
      case hiz21 => simp only [List.getElem?_toArray, List.getElem?_cons_zero, List.getElem?_cons_succ]; rfl
      case hQz21 => exact fun _ _ _ h => h
      case hyz21 => exact Or.inl ⟨by rfl, by intro w hSw; (try dsimp only at hSw); go_simp; with_reducible rfl⟩
      try simp only [Act.put, List.setIfInBounds_toArray, List.set_cons_zero, List.set_cons_succ]
      refine wpAnyH_take (i := 5) (oi := ?oiz22) (v := ?vz22) ?hiz22 (by kernel_rfl) (by kernel_rfl) (by kernel_rfl) ?hQz22 ?hyz22 (by assumption) ?restz22
      case hiz22 => simp only [List.getElem?_toArray, List.getElem?_cons_zero, List.getElem?_cons_succ]; rfl
      case hQz22 => exact fun _ _ _ h => h
      case hyz22 => exact Or.inl ⟨by rfl, by intro w hSw; (try dsimp only at hSw); go_simp; with_reducible rfl⟩
      try simp only [Act.put, List.setIfInBounds_toArray, List.set_cons_zero, List.set_cons_succ]
      refine wpAnyH_ready (rs := [6]) (by kernel_rfl) (by simp) (AllReadyH.cons (o := ?oy236) ?hy236 (fun K hK => ?sy236) AllReadyH.nil)
      case hy236 => simp only [List.getElem?_toArray, List.getElem?_cons_zero, List.getElem?_cons_succ]; rfl
      go_simp
      refine (hmt4 _).mono ?_
      rintro e w5 ⟨rfl, hx⟩
      have hH2 := hHeld.trans hx
      refine hK.out _ _ hH2 (fun _ => ?_)
      clear hHeld hK K
      have hHeld := hH2
      clear hH2
      try simp only [Act.put, List.setIfInBounds_toArray, List.set_cons_zero, List.set_cons_succ]
      refine wpAnyH_take (i := 7) (oi := ?oiz24) (v := ?vz24) ?hiz24 (by kernel_rfl) (by kernel_rfl) (by kernel_rfl) ?hQz24 ?hyz24 (by assumption) ?restz24
      case hiz24 => simp only [List.getElem?_toArray, List.getElem?_cons_zero, List.getElem?_cons_succ]; rfl
      case hQz24 => exact fun _ _ _ h => h
      case hyz24 => exact Or.inl ⟨by rfl, by intro w hSw; (try dsimp only at hSw); go_simp; with_reducible rfl⟩
      try simp only [Act.put, List.setIfInBounds_toArray, List.set_cons_zero, List.set_cons_succ]
      refine wpAnyH_done (by kernel_rfl) ?_ _
      have HE5 := Lib.hid (HX.out.trans (HE3.out.trans hHeld))
      clear hHeld
      go_wp2
      go_roundw
      case rel => exact ⟨k + 1, by omega, by go_num, by go_num, HE5.out⟩
      case measure => simp [intOf]; omega
    · go_wp2
      go_ret
      obtain rfl : k = n := by omega
      exact ⟨rfl, HX.out⟩
end Go.Proofs.Ytmndkbheehcoaaa
/- Marks laid on lists of keys, and read. No condition. -/
namespace Go.Proofs.Ytmndkbheehcoaaa
open Go.RowKit
set_option linter.unusedVariables false
set_option linter.unusedSimpArgs false

/-- the keys of v hold the marks m, m + 1, .. -/
def MarkedK (w : World) (S : Nat → Prop) (v : Value) (n : Nat) (m : Int) : Prop :=
  ∃ A cap, v = .slice A n cap ∧ n ≤ 140737488355328 ∧ (0 < n → ∃ g o, A = some ⟨g, o, none⟩ ∧ S g ∧ ∀ j, j < n * 32 → w.cell? ⟨g, o + j, none⟩ = some (.int .u8 ((m + j) % 256)))
theorem MarkedK.ext {w w' : World} {S : Nat → Prop} {v : Value} {n : Nat} {m : Int} (h : MarkedK w S v n m) (e : Ext w w') : MarkedK w' S v n m := by
  obtain ⟨A, cap, h1, h2, h3⟩ := h
  refine ⟨A, cap, h1, h2, fun hn => ?_⟩
  obtain ⟨g, o, h4, h5, h6⟩ := h3 hn
  exact ⟨g, o, h4, h5, fun j hj => e.cell (h6 j hj)⟩
theorem Own.far_of_lt {α : Type} {T : Ty α} {e : TypeId} {w : World} {base g : Nat} {v : Value} {xs : List α} (h : Own T e w base v xs) (hg : g < base) : some g ≠ v.ownBlock := fun e => by have := (h.base_le _ e.symm).1; omega
theorem Own.far_of_ge {α : Type} {T : Ty α} {e : TypeId} {w : World} {base g : Nat} {v : Value} {xs : List α} (h : Own T e w base v xs) (hg : w.heap.size ≤ g) : some g ≠ v.ownBlock := fun e => by have := (h.base_le _ e.symm).2; omega
end Go.Proofs.Ytmndkbheehcoaaa
/- The walk of the law FnExactChangesOf. No condition. -/
namespace Go.Proofs.Ytmndkbheehcoaaa
open Go.RowKit
set_option linter.unusedVariables false
set_option linter.unusedSimpArgs false

set_option maxHeartbeats 1000000 in
set_option maxRecDepth 100000 in
theorem FnExactChangesOf_any (w : World) (v0 : Value) (x0 : List En) (S0 : Nat → Prop) (h0 : RdL tEnt w S0 v0 x0) (v1 : Value) (x1 : List En) (S1 : Nat → Prop) (h1 : RdL tEnt w S1 v1 x1) :
    Calls Try.prog 5 #[v0, v1] w fun e w' => e = .returned (.bool true) ∧ Ext w w' := by
  obtain ⟨A0, cap0, rfl, _, hlen0, _⟩ := id h0
  have H0 := Lib.hid h0
  clear h0
  obtain ⟨A1, cap1, rfl, _, hlen1, _⟩ := id h1
  have H1 := Lib.hid h1
  clear h1
  by_cases hz0 : (1048576 - (entsN x0 : Nat) : Int) < 0
  · go_enter Try.func5, Try.ntmps5
    go_wp2_with fail
    refine (szEntryS_u _ x0 (1048576) _ _ (H0.out.ext (by decide) (Ext.refl _)) (by omega) (by omega)).mono ?_
    rintro e w1 ⟨rfl, hx⟩
    rw [if_pos (by omega)]
    have XW := Lib.hid hx
    clear hx
    go_wp2_with fail
    go_ret
    exact ⟨rfl, XW.out⟩
  by_cases hz1 : (1048576 - (entsN x0 : Nat) - (entsN x1 : Nat) : Int) < 0
  · go_enter Try.func5, Try.ntmps5
    go_wp2_with fail
    refine (szEntryS_u _ x0 (1048576) _ _ (H0.out.ext (by decide) (Ext.refl _)) (by omega) (by omega)).mono ?_
    rintro e w1 ⟨rfl, hx⟩
    rw [if_neg (by omega)]
    have XW := Lib.hid hx
    clear hx
    go_wp2_with fail
    refine (szEntryS_u _ x1 (1048576 - (entsN x0 : Nat)) _ _ (H1.out.ext (by decide) XW.out) (by omega) (by omega)).mono ?_
    rintro e w2 ⟨rfl, hx⟩
    rw [if_pos (by omega)]
    replace XW := Lib.hid (XW.out.trans hx)
    clear hx
    go_wp2_with fail
    go_ret
    exact ⟨rfl, XW.out⟩
  have hln0 : x0.length ≤ 1048576 := by have := entsN_eq x0; omega
  have hln1 : x1.length ≤ 1048576 := by have := entsN_eq x1; omega
  obtain ⟨R, c, hR⟩ : ∃ R c, chgsR x0 x1 = (R, c) := ⟨_, _, rfl⟩
  have HR1 := Lib.hid (congrArg Prod.fst hR)
  have HR2 := Lib.hid (congrArg Prod.snd hR)
  clear hR
  have hq : (c != c) = false := by simp
  go_enter Try.func5, Try.ntmps5
  go_wp2_with fail
  refine (szEntryS_u _ x0 (1048576) _ _ (H0.out.ext (by decide) (Ext.refl _)) (by omega) (by omega)).mono ?_
  rintro e w1 ⟨rfl, hx⟩
  rw [if_neg (by omega)]
  have XW := Lib.hid hx
  clear hx
  go_wp2_with fail
  refine (szEntryS_u _ x1 (1048576 - (entsN x0 : Nat)) _ _ (H1.out.ext (by decide) XW.out) (by omega) (by omega)).mono ?_
  rintro e w2 ⟨rfl, hx⟩
  rw [if_neg (by omega)]
  replace XW := Lib.hid (XW.out.trans hx)
  clear hx
  go_wp2_with fail
  refine (toEntryS_u _ x0 _ _ (H0.out.ext (by decide) XW.out) hln0).mono ?_
  rintro e w3 ⟨vs0, rfl, ho, hx⟩
  replace ho := ho.le (base' := w.heap.size) XW.out.size
  replace XW := Lib.hid (XW.out.trans hx)
  obtain ⟨As0, qs0, rfl⟩ := ho.shape
  have Os0 := Lib.hid ho
  clear ho
  clear hx
  go_wp2_with fail
  refine (toEntryS_u _ x1 _ _ (H1.out.ext (by decide) XW.out) hln1).mono ?_
  rintro e w4 ⟨vs1, rfl, ho, hx⟩
  have NOs0_Os1 := Lib.hid (Os0.out.apart ho (by first | exact Nat.le_refl _ | simp))
  have NOs1_Os0 := Lib.hid (Os0.out.apart' ho (by first | exact Nat.le_refl _ | simp))
  replace ho := ho.le (base' := w.heap.size) XW.out.size
  replace Os0 := Lib.hid (Os0.out.ext hx)
  replace XW := Lib.hid (XW.out.trans hx)
  obtain ⟨As1, qs1, rfl⟩ := ho.shape
  have Os1 := Lib.hid ho
  clear ho
  clear hx
  go_wp2_with fail
  refine (specChangesOf_any _ _ x0 x1 _ _ _ Os0.out.rd Os1.out.rd).mono ?_
  rintro e w5 ⟨vW, he, ho, hx⟩
  rw [HR2.out] at he
  subst he
  rw [HR1.out] at ho
  have NOs0_OW := Lib.hid (Os0.out.apart ho (by first | exact Nat.le_refl _ | simp))
  have NOW_Os0 := Lib.hid (Os0.out.apart' ho (by first | exact Nat.le_refl _ | simp))
  have NOs1_OW := Lib.hid (Os1.out.apart ho (by first | exact Nat.le_refl _ | simp))
  have NOW_Os1 := Lib.hid (Os1.out.apart' ho (by first | exact Nat.le_refl _ | simp))
  replace ho := ho.le (base' := w.heap.size) XW.out.size
  replace Os0 := Lib.hid (Os0.out.ext hx)
  replace Os1 := Lib.hid (Os1.out.ext hx)
  replace XW := Lib.hid (XW.out.trans hx)
  obtain ⟨AW, qW, rfl⟩ := ho.shape
  have OW := Lib.hid ho
  clear ho
  clear hx
  clear Os0
  clear Os1
  go_wp2_with fail
  refine (toEntryS_u _ x0 _ _ (H0.out.ext (by decide) XW.out) hln0).mono ?_
  rintro e w6 ⟨vx0, rfl, ho, hx⟩
  have NOW_Ox0 := Lib.hid (OW.out.apart ho (by first | exact Nat.le_refl _ | simp))
  have NOx0_OW := Lib.hid (OW.out.apart' ho (by first | exact Nat.le_refl _ | simp))
  replace ho := ho.le (base' := w.heap.size) XW.out.size
  replace OW := Lib.hid (OW.out.ext hx)
  replace XW := Lib.hid (XW.out.trans hx)
  obtain ⟨Ax0, qx0, rfl⟩ := ho.shape
  have Ox0 := Lib.hid ho
  clear ho
  clear hx
  go_wp2_with fail
  refine (toEntryS_u _ x1 _ _ (H1.out.ext (by decide) XW.out) hln1).mono ?_
  rintro e w7 ⟨vx1, rfl, ho, hx⟩
  have NOW_Ox1 := Lib.hid (OW.out.apart ho (by first | exact Nat.le_refl _ | simp))
  have NOx1_OW := Lib.hid (OW.out.apart' ho (by first | exact Nat.le_refl _ | simp))
  have NOx0_Ox1 := Lib.hid (Ox0.out.apart ho (by first | exact Nat.le_refl _ | simp))
  have NOx1_Ox0 := Lib.hid (Ox0.out.apart' ho (by first | exact Nat.le_refl _ | simp))
  replace ho := ho.le (base' := w.heap.size) XW.out.size
  replace OW := Lib.hid (OW.out.ext hx)
  replace Ox0 := Lib.hid (Ox0.out.ext hx)
  replace XW := Lib.hid (XW.out.trans hx)
  obtain ⟨Ax1, qx1, rfl⟩ := ho.shape
  have Ox1 := Lib.hid ho
  clear ho
  clear hx
  go_wp2_with fail
  refine (implChangesOf_any _ _ x0 x1 _ _ _ Ox0.out.rd Ox1.out.rd).mono ?_
  rintro e w8 ⟨vG, he, ho, hx⟩
  rw [HR2.out] at he
  subst he
  rw [HR1.out] at ho
  have NOW_OG := Lib.hid (OW.out.apart ho (by first | exact Nat.le_refl _ | simp))
  have NOG_OW := Lib.hid (OW.out.apart' ho (by first | exact Nat.le_refl _ | simp))
  have NOx0_OG := Lib.hid (Ox0.out.apart ho (by first | exact Nat.le_refl _ | simp))
  have NOG_Ox0 := Lib.hid (Ox0.out.apart' ho (by first | exact Nat.le_refl _ | simp))
  have NOx1_OG := Lib.hid (Ox1.out.apart ho (by first | exact Nat.le_refl _ | simp))
  have NOG_Ox1 := Lib.hid (Ox1.out.apart' ho (by first | exact Nat.le_refl _ | simp))
  replace ho := ho.le (base' := w.heap.size) XW.out.size
  replace OW := Lib.hid (OW.out.ext hx)
  replace Ox0 := Lib.hid (Ox0.out.ext hx)
  replace Ox1 := Lib.hid (Ox1.out.ext hx)
  replace XW := Lib.hid (XW.out.trans hx)
  obtain ⟨AG, qG, rfl⟩ := ho.shape
  have OG := Lib.hid ho
  clear ho
  clear hx
  go_wp2_with fail
  refine (eqChangeS_u _ _ R _ _ _ OG.out.rd OW.out.rd).mono ?_
  rintro e w9 ⟨rfl, hx⟩
  replace OW := Lib.hid (OW.out.ext hx)
  replace Ox0 := Lib.hid (Ox0.out.ext hx)
  replace Ox1 := Lib.hid (Ox1.out.ext hx)
  replace OG := Lib.hid (OG.out.ext hx)
  replace XW := Lib.hid (XW.out.trans hx)
  clear hx
  go_wp2_with fail
  refine (toEntryS_u _ x0 _ _ (H0.out.ext (by decide) XW.out) hln0).mono ?_
  rintro e w10 ⟨vy0, rfl, ho, hx⟩
  have NOW_Oy0 := Lib.hid (OW.out.apart ho (by first | exact Nat.le_refl _ | simp))
  have NOy0_OW := Lib.hid (OW.out.apart' ho (by first | exact Nat.le_refl _ | simp))
  have NOx0_Oy0 := Lib.hid (Ox0.out.apart ho (by first | exact Nat.le_refl _ | simp))
  have NOy0_Ox0 := Lib.hid (Ox0.out.apart' ho (by first | exact Nat.le_refl _ | simp))
  have NOx1_Oy0 := Lib.hid (Ox1.out.apart ho (by first | exact Nat.le_refl _ | simp))
  have NOy0_Ox1 := Lib.hid (Ox1.out.apart' ho (by first | exact Nat.le_refl _ | simp))
  have NOG_Oy0 := Lib.hid (OG.out.apart ho (by first | exact Nat.le_refl _ | simp))
  have NOy0_OG := Lib.hid (OG.out.apart' ho (by first | exact Nat.le_refl _ | simp))
  replace ho := ho.le (base' := w.heap.size) XW.out.size
  replace OW := Lib.hid (OW.out.ext hx)
  replace Ox0 := Lib.hid (Ox0.out.ext hx)
  replace Ox1 := Lib.hid (Ox1.out.ext hx)
  replace OG := Lib.hid (OG.out.ext hx)
  replace XW := Lib.hid (XW.out.trans hx)
  obtain ⟨Ay0, qy0, rfl⟩ := ho.shape
  have Oy0 := Lib.hid ho
  clear ho
  clear hx
  go_wp2_with fail
  refine (eqEntryS_u _ _ x0 _ _ _ Ox0.out.rd Oy0.out.rd).mono ?_
  rintro e w11 ⟨rfl, hx⟩
  replace OW := Lib.hid (OW.out.ext hx)
  replace Ox0 := Lib.hid (Ox0.out.ext hx)
  replace Ox1 := Lib.hid (Ox1.out.ext hx)
  replace OG := Lib.hid (OG.out.ext hx)
  replace Oy0 := Lib.hid (Oy0.out.ext hx)
  replace XW := Lib.hid (XW.out.trans hx)
  clear hx
  clear Oy0
  go_wp2_with fail
  refine (toEntryS_u _ x1 _ _ (H1.out.ext (by decide) XW.out) hln1).mono ?_
  rintro e w12 ⟨vy1, rfl, ho, hx⟩
  have NOW_Oy1 := Lib.hid (OW.out.apart ho (by first | exact Nat.le_refl _ | simp))
  have NOy1_OW := Lib.hid (OW.out.apart' ho (by first | exact Nat.le_refl _ | simp))
  have NOx0_Oy1 := Lib.hid (Ox0.out.apart ho (by first | exact Nat.le_refl _ | simp))
  have NOy1_Ox0 := Lib.hid (Ox0.out.apart' ho (by first | exact Nat.le_refl _ | simp))
  have NOx1_Oy1 := Lib.hid (Ox1.out.apart ho (by first | exact Nat.le_refl _ | simp))
  have NOy1_Ox1 := Lib.hid (Ox1.out.apart' ho (by first | exact Nat.le_refl _ | simp))
  have NOG_Oy1 := Lib.hid (OG.out.apart ho (by first | exact Nat.le_refl _ | simp))
  have NOy1_OG := Lib.hid (OG.out.apart' ho (by first | exact Nat.le_refl _ | simp))
  replace ho := ho.le (base' := w.heap.size) XW.out.size
  replace OW := Lib.hid (OW.out.ext hx)
  replace Ox0 := Lib.hid (Ox0.out.ext hx)
  replace Ox1 := Lib.hid (Ox1.out.ext hx)
  replace OG := Lib.hid (OG.out.ext hx)
  replace XW := Lib.hid (XW.out.trans hx)
  obtain ⟨Ay1, qy1, rfl⟩ := ho.shape
  have Oy1 := Lib.hid ho
  clear ho
  clear hx
  go_wp2_with fail
  refine (eqEntryS_u _ _ x1 _ _ _ Ox1.out.rd Oy1.out.rd).mono ?_
  rintro e w13 ⟨rfl, hx⟩
  replace OW := Lib.hid (OW.out.ext hx)
  replace Ox0 := Lib.hid (Ox0.out.ext hx)
  replace Ox1 := Lib.hid (Ox1.out.ext hx)
  replace OG := Lib.hid (OG.out.ext hx)
  replace Oy1 := Lib.hid (Oy1.out.ext hx)
  replace XW := Lib.hid (XW.out.trans hx)
  clear hx
  clear Oy1
  go_wp2_with fail
  refine (markEntryS_any _ _ (1) _ _ Ox0.out.wr (by omega) (by omega)).mono ?_
  rintro e w14 ⟨rfl, hr, hg⟩
  replace XW := Lib.hid (XW.out.grown hg (fun k hk => (Ox0.out.base_le k hk).1))
  replace OW := Lib.hid (OW.out.kept hg NOW_Ox0.out)
  replace Ox1 := Lib.hid (Ox1.out.kept hg NOx1_Ox0.out)
  replace OG := Lib.hid (OG.out.kept hg NOG_Ox0.out)
  clear Ox0 hg
  clear hr
  go_wp2_with fail
  refine (markEntryS_any _ _ (1 + (x0.length : Int) * 2) _ _ Ox1.out.wr (by omega) (by omega)).mono ?_
  rintro e w15 ⟨rfl, hr, hg⟩
  replace XW := Lib.hid (XW.out.grown hg (fun k hk => (Ox1.out.base_le k hk).1))
  replace OW := Lib.hid (OW.out.kept hg NOW_Ox1.out)
  replace OG := Lib.hid (OG.out.kept hg NOG_Ox1.out)
  clear Ox1 hg
  clear hr
  go_wp2_with fail
  refine (eqChangeS_u _ _ R _ _ _ OG.out.rd OW.out.rd).mono ?_
  rintro e w16 ⟨rfl, hx⟩
  replace OW := Lib.hid (OW.out.ext hx)
  replace OG := Lib.hid (OG.out.ext hx)
  replace XW := Lib.hid (XW.out.trans hx)
  clear hx
  have hRl := (show R.length ≤ 128 from HR1.out ▸ chgsR_len x0 x1)
  go_wp2_with fail
  refine (markChangeM_any _ _ 1 _ _ OG.out.wr (by omega) (by omega)).mono ?_
  rintro e w17 ⟨rfl, hr, hg⟩
  replace XW := Lib.hid (XW.out.grown hg (fun k hk => (OG.out.base_le k hk).1))
  replace OW := Lib.hid (OW.out.kept hg NOW_OG.out)
  clear OG hg
  have M := Lib.hid hr
  clear hr
  go_wp2_with fail
  refine (heldChangeS_any _ _ 1 _ _ M.out (by omega) (by omega)).mono ?_
  rintro e w18 ⟨rfl, hx⟩
  replace OW := Lib.hid (OW.out.ext hx)
  replace M := Lib.hid (M.out.ext hx)
  replace XW := Lib.hid (XW.out.trans hx)
  clear hx
  have hqm : ((1 + (R.length : Int) * 5) != 1 + (R.length : Int) * 5) = false := by simp
  go_wp2_with fail
  refine (toEntryS_u _ x0 _ _ (H0.out.ext (by decide) XW.out) hln0).mono ?_
  rintro e w19 ⟨vz0, rfl, ho, hx⟩
  have NOW_Oz0 := Lib.hid (OW.out.apart ho (by first | exact Nat.le_refl _ | simp))
  have NOz0_OW := Lib.hid (OW.out.apart' ho (by first | exact Nat.le_refl _ | simp))
  replace ho := ho.le (base' := w.heap.size) XW.out.size
  replace OW := Lib.hid (OW.out.ext hx)
  replace M := Lib.hid (M.out.ext hx)
  replace XW := Lib.hid (XW.out.trans hx)
  obtain ⟨Az0, qz0, rfl⟩ := ho.shape
  have Oz0 := Lib.hid ho
  clear ho
  clear hx
  go_wp2_with fail
  refine (toEntryS_u _ x1 _ _ (H1.out.ext (by decide) XW.out) hln1).mono ?_
  rintro e w20 ⟨vz1, rfl, ho, hx⟩
  have NOW_Oz1 := Lib.hid (OW.out.apart ho (by first | exact Nat.le_refl _ | simp))
  have NOz1_OW := Lib.hid (OW.out.apart' ho (by first | exact Nat.le_refl _ | simp))
  have NOz0_Oz1 := Lib.hid (Oz0.out.apart ho (by first | exact Nat.le_refl _ | simp))
  have NOz1_Oz0 := Lib.hid (Oz0.out.apart' ho (by first | exact Nat.le_refl _ | simp))
  replace ho := ho.le (base' := w.heap.size) XW.out.size
  replace OW := Lib.hid (OW.out.ext hx)
  replace M := Lib.hid (M.out.ext hx)
  replace Oz0 := Lib.hid (Oz0.out.ext hx)
  replace XW := Lib.hid (XW.out.trans hx)
  obtain ⟨Az1, qz1, rfl⟩ := ho.shape
  have Oz1 := Lib.hid ho
  clear ho
  clear hx
  go_wp2_with fail
  refine (implChangesOf_any _ _ x0 x1 _ _ _ Oz0.out.rd Oz1.out.rd).mono ?_
  rintro e w21 ⟨vH, he, ho, hx⟩
  rw [HR2.out] at he
  subst he
  rw [HR1.out] at ho
  have NOW_OH := Lib.hid (OW.out.apart ho (by first | exact Nat.le_refl _ | simp))
  have NOH_OW := Lib.hid (OW.out.apart' ho (by first | exact Nat.le_refl _ | simp))
  have NOz0_OH := Lib.hid (Oz0.out.apart ho (by first | exact Nat.le_refl _ | simp))
  have NOH_Oz0 := Lib.hid (Oz0.out.apart' ho (by first | exact Nat.le_refl _ | simp))
  have NOz1_OH := Lib.hid (Oz1.out.apart ho (by first | exact Nat.le_refl _ | simp))
  have NOH_Oz1 := Lib.hid (Oz1.out.apart' ho (by first | exact Nat.le_refl _ | simp))
  replace ho := ho.le (base' := w.heap.size) XW.out.size
  replace OW := Lib.hid (OW.out.ext hx)
  replace M := Lib.hid (M.out.ext hx)
  replace Oz0 := Lib.hid (Oz0.out.ext hx)
  replace Oz1 := Lib.hid (Oz1.out.ext hx)
  replace XW := Lib.hid (XW.out.trans hx)
  obtain ⟨AH, qH, rfl⟩ := ho.shape
  have OH := Lib.hid ho
  clear ho
  clear hx
  go_wp2_with fail
  refine (eqChangeS_u _ _ R _ _ _ OH.out.rd OW.out.rd).mono ?_
  rintro e w22 ⟨rfl, hx⟩
  replace OW := Lib.hid (OW.out.ext hx)
  replace M := Lib.hid (M.out.ext hx)
  replace Oz0 := Lib.hid (Oz0.out.ext hx)
  replace Oz1 := Lib.hid (Oz1.out.ext hx)
  replace OH := Lib.hid (OH.out.ext hx)
  replace XW := Lib.hid (XW.out.trans hx)
  clear hx
  go_wp2_with fail
  refine (heldChangeS_any _ _ 1 _ _ M.out (by omega) (by omega)).mono ?_
  rintro e w23 ⟨rfl, hx⟩
  replace OW := Lib.hid (OW.out.ext hx)
  replace M := Lib.hid (M.out.ext hx)
  replace Oz0 := Lib.hid (Oz0.out.ext hx)
  replace Oz1 := Lib.hid (Oz1.out.ext hx)
  replace OH := Lib.hid (OH.out.ext hx)
  replace XW := Lib.hid (XW.out.trans hx)
  clear hx
  go_wp2_with fail
  go_ret
  exact ⟨rfl, XW.out⟩
end Go.Proofs.Ytmndkbheehcoaaa
