/- What the walk of the law FnChanges needs, part 3 of 7. No condition. -/
import Derived.Test.YtmndkbheehcoaaaPFnChanges2
/- An entry put into a map: the reference. No condition. -/
namespace Go.Proofs.Ytmndkbheehcoaaa
open Go.RowKit
set_option linter.unusedVariables false
set_option linter.unusedSimpArgs false

theorem put_next (e : En) (L : List En) (k : Nat) (h : k < L.length) : (L.take (k + 1)).foldl (putStep e) ([], false) = putStep e ((L.take k).foldl (putStep e) ([], false)) L[k] := by
  rw [List.take_succ_eq_append_getElem h, List.foldl_append]; rfl
set_option maxHeartbeats 1000000 in
set_option maxRecDepth 100000 in
theorem l04Put_any (v : Value) (L : List En) (e : En) (he : tEnt.ok e) (w : World) (S : Nat → Prop) (h : RdL tEnt w S v L) (h64 : L.length ≤ 64) :
    Calls Try.prog 128 #[v, .agg #[.string e.1, .string e.2]] w fun q w' => ∃ v', q = .returned v' ∧ Own tEnt 29 w' w.heap.size v' (putEnd e (putF e L)) ∧ Ext w w' := by
  obtain ⟨A, cap, rfl, hcap, hlen, hrd, hok⟩ := h
  have Hok := Lib.hid hok
  have Hrd := Lib.hid hrd
  have HE := Lib.hid he
  clear hrd hok he
  have hwx : ∃ wx, wx = w.alloc (.cells #[.string e.1, .string e.2] 29) ∧ wx.heap.size = w.heap.size + 1 := ⟨_, rfl, by simp⟩
  obtain ⟨wx, hwx, hsx⟩ := hwx
  have HWX := Lib.hid hwx
  have HB := Lib.hid (show ∀ W, Ext wx W → W.cell? ⟨w.heap.size, 0, none⟩ = some (.string e.1) ∧ W.cell? ⟨w.heap.size, 1, none⟩ = some (.string e.2) from fun W hW => by
    subst hwx
    exact ⟨hW.cell (by rw [(Blk.new w _ _).cell]; rfl), hW.cell (by rw [(Blk.new w _ _).cell]; rfl)⟩)
  have HXX := Lib.hid (show Ext w wx by subst hwx; exact ext_alloc _ _)
  go_enter Try.func128, Try.ntmps128
  go_wp2_with fail
  rw [← hwx]
  clear hwx
  go_loopw [5, 6, 7] (fun a f i wr => ∃ (k : Nat) (st : List En × Bool), k ≤ L.length ∧ i = .int .i64 k ∧ f = .bool st.2 ∧ (L.take k).foldl (putStep e) ([], false) = st ∧ Own tEnt 29 wr wx.heap.size a st.1 ∧ st.1.length ≤ 2 * k ∧ Ext wx wr) (fun _ _ i _ => L.length - (intOf i).toNat)
  case atStart => exact ⟨0, ([], false), by omega, rfl, rfl, by rw [List.take_zero]; rfl, by have := Own.empty tEnt wx 29 wx.heap.size (Nat.le_refl _); simpa only [hsx] using this, by simp, ext_alloc _ _⟩
  case round =>
    obtain ⟨k, ⟨R, fl⟩, hk, rfl, rfl, hst, ho, hRl, hx⟩ := hrel
    simp only at ho hRl
    obtain ⟨C, cn, cc, rfl⟩ := ho.shape3
    have HO := Lib.hid ho
    have HX := Lib.hid hx
    have HST := Lib.hid hst
    clear ho hx hst
    by_cases hlt : k < L.length
    · obtain ⟨g, o, rfl, hs0, hc⟩ := Hrd.out.elem Hok.out k hlt
      have HX0 := Lib.hid (show tEnt.ok L[k] from Hok.out _ (List.getElem_mem hlt))
      have HC := Lib.hid (show ∀ W, Ext wx W → W.cell? ⟨g, o + k * 2, none⟩ = some (.string L[k].1) ∧ W.cell? ⟨g, o + k * 2 + 1, none⟩ = some (.string L[k].2) from fun W hW => ⟨(HXX.out.trans hW).cell (hc 0 _ rfl), (HXX.out.trans hW).cell (hc 1 _ rfl)⟩)
      have HN := Lib.hid (put_next e L k hlt)
      have hk0 : (0 : Int) ≤ (k : Int) := by omega
      have hk2 : (k : Int) < (L.length : Int) := by omega
      clear hc
      cases fl with
      | true =>
        cases h1 : ltB L[k].1 e.1 with
        | true =>
          cases h2 : (L[k].1.toList == e.1.toList) with
          | true =>
            exact absurd (toList_inj (by simpa using h2)) (ltB_ne h1)
          | false =>
            have h1' : Op.bytesLess L[k].1.toList e.1.toList = true := by rw [ltB_eq]; exact h1
            have hnm : L[k].1 ≠ e.1 := fun q => by rw [q] at h2; simp at h2
            have HQ := Lib.hid (show putStep e (R, true) L[k] = (R ++ [L[k]], true) by simp [putStep, h1, hnm, ltB_irrefl])
            clear h1 hnm
            have d0 : ∀ W, Ext wr W → W.cell? ⟨g, o + k * 2, none⟩ = some (.string L[k].1) := fun W hW => (HC.out W (HX.out.trans hW)).1
            have b0 : ∀ W, Ext wr W → W.cell? ⟨w.heap.size, 0, none⟩ = some (.string e.1) := fun W hW => (HB.out W (HX.out.trans hW)).1
            go_wp2_with fail
            refine wp_region_held_drew (S := fun W => Ext wr W) (by kernel_rfl) (Ext.refl _).drew (fun hHeld => ?_)
            refine wpAnyH_take (i := 0) (oi := ?oiz1) (v := ?vz1) ?hiz1 (by kernel_rfl) (by kernel_rfl) (by kernel_rfl) ?hQz1 ?hyz1 (by assumption) ?restz1
            case hiz1 => simp only [List.getElem?_toArray, List.getElem?_cons_zero, List.getElem?_cons_succ]; rfl
            case hQz1 => exact fun _ _ _ h => h
            case hyz1 => exact Or.inl ⟨by rfl, by intro w hSw; (try dsimp only at hSw); go_simp; with_reducible rfl⟩
            try simp only [Act.put, List.setIfInBounds_toArray, List.set_cons_zero, List.set_cons_succ]
            refine wpAnyH_take (i := 1) (oi := ?oiz2) (v := ?vz2) ?hiz2 (by kernel_rfl) (by kernel_rfl) (by kernel_rfl) ?hQz2 ?hyz2 (by assumption) ?restz2
            case hiz2 => simp only [List.getElem?_toArray, List.getElem?_cons_zero, List.getElem?_cons_succ]; rfl
            case hQz2 => exact fun _ _ _ h => h
            case hyz2 => exact Or.inl ⟨by rfl, by intro w hSw; (try dsimp only at hSw); go_simp; with_reducible rfl⟩
            try simp only [Act.put, List.setIfInBounds_toArray, List.set_cons_zero, List.set_cons_succ]
            refine wpAnyH_take (i := 2) (oi := ?oiz3) (v := ?vz3) ?hiz3 (by kernel_rfl) (by kernel_rfl) (by kernel_rfl) ?hQz3 ?hyz3 (by assumption) ?restz3
            case hiz3 => simp only [List.getElem?_toArray, List.getElem?_cons_zero, List.getElem?_cons_succ]; rfl
            case hQz3 => exact fun _ _ _ h => h
            case hyz3 => exact Or.inl ⟨by rfl, by intro w hSw; (try dsimp only at hSw); go_simp; with_reducible rfl⟩
            try simp only [Act.put, List.setIfInBounds_toArray, List.set_cons_zero, List.set_cons_succ]
            refine wpAnyH_take (i := 3) (oi := ?oiz4) (v := undef) ?hiz4 (by kernel_rfl) (by kernel_rfl) (by kernel_rfl) ?hQz4 ?hyz4 (by assumption) ?restz4
            case hiz4 => simp only [List.getElem?_toArray, List.getElem?_cons_zero, List.getElem?_cons_succ]; rfl
            case hQz4 => exact fun _ _ _ h => h
            case hyz4 => exact Or.inr ⟨by rfl, rfl⟩
            try simp only [Act.put, List.setIfInBounds_toArray, List.set_cons_zero, List.set_cons_succ]
            refine wpAnyH_take (i := 4) (oi := ?oiz5) (v := undef) ?hiz5 (by kernel_rfl) (by kernel_rfl) (by kernel_rfl) ?hQz5 ?hyz5 (by assumption) ?restz5
            case hiz5 => simp only [List.getElem?_toArray, List.getElem?_cons_zero, List.getElem?_cons_succ]; rfl
            case hQz5 => exact fun _ _ _ h => h
            case hyz5 => exact Or.inr ⟨by rfl, rfl⟩
            try simp only [Act.put, List.setIfInBounds_toArray, List.set_cons_zero, List.set_cons_succ]
            refine wpAnyH_take (i := 5) (oi := ?oiz6) (v := undef) ?hiz6 (by kernel_rfl) (by kernel_rfl) (by kernel_rfl) ?hQz6 ?hyz6 (by assumption) ?restz6
            case hiz6 => simp only [List.getElem?_toArray, List.getElem?_cons_zero, List.getElem?_cons_succ]; rfl
            case hQz6 => exact fun _ _ _ h => h
            case hyz6 => exact Or.inr ⟨by rfl, rfl⟩
            try simp only [Act.put, List.setIfInBounds_toArray, List.set_cons_zero, List.set_cons_succ]
            refine wpAnyH_take (i := 6) (oi := ?oiz7) (v := undef) ?hiz7 (by kernel_rfl) (by kernel_rfl) (by kernel_rfl) ?hQz7 ?hyz7 (by assumption) ?restz7
            case hiz7 => simp only [List.getElem?_toArray, List.getElem?_cons_zero, List.getElem?_cons_succ]; rfl
            case hQz7 => exact fun _ _ _ h => h
            case hyz7 => exact Or.inr ⟨by rfl, rfl⟩
            try simp only [Act.put, List.setIfInBounds_toArray, List.set_cons_zero, List.set_cons_succ]
            refine wpAnyH_take (i := 7) (oi := ?oiz8) (v := undef) ?hiz8 (by kernel_rfl) (by kernel_rfl) (by kernel_rfl) ?hQz8 ?hyz8 (by assumption) ?restz8
            case hiz8 => simp only [List.getElem?_toArray, List.getElem?_cons_zero, List.getElem?_cons_succ]; rfl
            case hQz8 => exact fun _ _ _ h => h
            case hyz8 => exact Or.inr ⟨by rfl, rfl⟩
            try simp only [Act.put, List.setIfInBounds_toArray, List.set_cons_zero, List.set_cons_succ]
            refine wpAnyH_take (i := 8) (oi := ?oiz9) (v := undef) ?hiz9 (by kernel_rfl) (by kernel_rfl) (by kernel_rfl) ?hQz9 ?hyz9 (by assumption) ?restz9
            case hiz9 => simp only [List.getElem?_toArray, List.getElem?_cons_zero, List.getElem?_cons_succ]; rfl
            case hQz9 => exact fun _ _ _ h => h
            case hyz9 => exact Or.inr ⟨by rfl, rfl⟩
            try simp only [Act.put, List.setIfInBounds_toArray, List.set_cons_zero, List.set_cons_succ]
            refine wpAnyH_take (i := 9) (oi := ?oiz10) (v := undef) ?hiz10 (by kernel_rfl) (by kernel_rfl) (by kernel_rfl) ?hQz10 ?hyz10 (by assumption) ?restz10
            case hiz10 => simp only [List.getElem?_toArray, List.getElem?_cons_zero, List.getElem?_cons_succ]; rfl
            case hQz10 => exact fun _ _ _ h => h
            case hyz10 => exact Or.inr ⟨by rfl, rfl⟩
            try simp only [Act.put, List.setIfInBounds_toArray, List.set_cons_zero, List.set_cons_succ]
            refine wpAnyH_take (i := 10) (oi := ?oiz11) (v := undef) ?hiz11 (by kernel_rfl) (by kernel_rfl) (by kernel_rfl) ?hQz11 ?hyz11 (by assumption) ?restz11
            case hiz11 => simp only [List.getElem?_toArray, List.getElem?_cons_zero, List.getElem?_cons_succ]; rfl
            case hQz11 => exact fun _ _ _ h => h
            case hyz11 => exact Or.inr ⟨by rfl, rfl⟩
            try simp only [Act.put, List.setIfInBounds_toArray, List.set_cons_zero, List.set_cons_succ]
            refine wpAnyH_take (i := 11) (oi := ?oiz12) (v := ?vz12) ?hiz12 (by kernel_rfl) (by kernel_rfl) (by kernel_rfl) ?hQz12 ?hyz12 (by assumption) ?restz12
            case hiz12 => simp only [List.getElem?_toArray, List.getElem?_cons_zero, List.getElem?_cons_succ]; rfl
            case hQz12 => exact fun _ _ _ h => h
            case hyz12 => exact Or.inl ⟨by rfl, by intro w hSw; (try dsimp only at hSw); go_simp; with_reducible rfl⟩
            try simp only [Act.put, List.setIfInBounds_toArray, List.set_cons_zero, List.set_cons_succ]
            refine wpAnyH_done (by kernel_rfl) ?_ _
            clear d0 b0
            generalize wr.drew = w0 at *
            have HXa := Lib.hid (HX.out.trans hHeld)
            have HOa := Lib.hid (HO.out.ext hHeld)
            clear hHeld HX HO
            go_wp2_with fail
            have d0 : ∀ W, Ext w0 W → W.cell? ⟨g, o + k * 2, none⟩ = some (.string L[k].1) := fun W hW => (HC.out W (HXa.out.trans hW)).1
            have b0 : ∀ W, Ext w0 W → W.cell? ⟨w.heap.size, 0, none⟩ = some (.string e.1) := fun W hW => (HB.out W (HXa.out.trans hW)).1
            refine wp_region_held_drew (S := fun W => Ext w0 W) (by kernel_rfl) (Ext.refl _).drew (fun hHeld => ?_)
            refine wpAnyH_take (i := 0) (oi := ?oiz13) (v := ?vz13) ?hiz13 (by kernel_rfl) (by kernel_rfl) (by kernel_rfl) ?hQz13 ?hyz13 (by assumption) ?restz13
            case hiz13 => simp only [List.getElem?_toArray, List.getElem?_cons_zero, List.getElem?_cons_succ]; rfl
            case hQz13 => exact fun _ _ _ h => h
            case hyz13 => exact Or.inl ⟨by rfl, by intro w hSw; (try dsimp only at hSw); go_simp; with_reducible rfl⟩
            try simp only [Act.put, List.setIfInBounds_toArray, List.set_cons_zero, List.set_cons_succ]
            refine wpAnyH_take (i := 1) (oi := ?oiz14) (v := ?vz14) ?hiz14 (by kernel_rfl) (by kernel_rfl) (by kernel_rfl) ?hQz14 ?hyz14 (by assumption) ?restz14
            case hiz14 => simp only [List.getElem?_toArray, List.getElem?_cons_zero, List.getElem?_cons_succ]; rfl
            case hQz14 => exact fun _ _ _ h => h
            case hyz14 => exact Or.inl ⟨by rfl, by intro w hSw; (try dsimp only at hSw); go_simp; with_reducible rfl⟩
            try simp only [Act.put, List.setIfInBounds_toArray, List.set_cons_zero, List.set_cons_succ]
            refine wpAnyH_take (i := 2) (oi := ?oiz15) (v := ?vz15) ?hiz15 (by kernel_rfl) (by kernel_rfl) (by kernel_rfl) ?hQz15 ?hyz15 (by assumption) ?restz15
            case hiz15 => simp only [List.getElem?_toArray, List.getElem?_cons_zero, List.getElem?_cons_succ]; rfl
            case hQz15 => exact fun _ _ _ h => h
            case hyz15 => exact Or.inl ⟨by rfl, by intro w hSw; (try dsimp only at hSw); go_simp; with_reducible rfl⟩
            try simp only [Act.put, List.setIfInBounds_toArray, List.set_cons_zero, List.set_cons_succ]
            refine wpAnyH_take (i := 3) (oi := ?oiz16) (v := ?vz16) ?hiz16 (by kernel_rfl) (by kernel_rfl) (by kernel_rfl) ?hQz16 ?hyz16 (by assumption) ?restz16
            case hiz16 => simp only [List.getElem?_toArray, List.getElem?_cons_zero, List.getElem?_cons_succ]; rfl
            case hQz16 => exact fun _ _ _ h => h
            case hyz16 => exact Or.inl ⟨by rfl, by intro w hSw; (try dsimp only at hSw); go_simp; with_reducible rfl⟩
            try simp only [Act.put, List.setIfInBounds_toArray, List.set_cons_zero, List.set_cons_succ]
            refine wpAnyH_take (i := 4) (oi := ?oiz17) (v := ?vz17) ?hiz17 (by kernel_rfl) (by kernel_rfl) (by kernel_rfl) ?hQz17 ?hyz17 (by assumption) ?restz17
            case hiz17 => simp only [List.getElem?_toArray, List.getElem?_cons_zero, List.getElem?_cons_succ]; rfl
            case hQz17 => exact fun _ _ _ h => h
            case hyz17 => exact Or.inl ⟨by rfl, by intro w hSw; (try dsimp only at hSw); go_simp; with_reducible rfl⟩
            try simp only [Act.put, List.setIfInBounds_toArray, List.set_cons_zero, List.set_cons_succ]
            refine wpAnyH_take (i := 5) (oi := ?oiz18) (v := ?vz18) ?hiz18 (by kernel_rfl) (by kernel_rfl) (by kernel_rfl) ?hQz18 ?hyz18 (by assumption) ?restz18
            case hiz18 => simp only [List.getElem?_toArray, List.getElem?_cons_zero, List.getElem?_cons_succ]; rfl
            case hQz18 => exact fun _ _ _ h => h
            case hyz18 => exact Or.inl ⟨by rfl, by intro w hSw; (try dsimp only at hSw); go_simp; with_reducible rfl⟩
            try simp only [Act.put, List.setIfInBounds_toArray, List.set_cons_zero, List.set_cons_succ]
            refine wpAnyH_take (i := 6) (oi := ?oiz19) (v := ?vz19) ?hiz19 (by kernel_rfl) (by kernel_rfl) (by kernel_rfl) ?hQz19 ?hyz19 (by assumption) ?restz19
            case hiz19 => simp only [List.getElem?_toArray, List.getElem?_cons_zero, List.getElem?_cons_succ]; rfl
            case hQz19 => exact fun _ _ _ h => h
            case hyz19 => exact Or.inl ⟨by rfl, by intro w hSw; (try dsimp only at hSw); go_simp; with_reducible rfl⟩
            try simp only [Act.put, List.setIfInBounds_toArray, List.set_cons_zero, List.set_cons_succ]
            refine wpAnyH_take (i := 7) (oi := ?oiz20) (v := ?vz20) ?hiz20 (by kernel_rfl) (by kernel_rfl) (by kernel_rfl) ?hQz20 ?hyz20 (by assumption) ?restz20
            case hiz20 => simp only [List.getElem?_toArray, List.getElem?_cons_zero, List.getElem?_cons_succ]; rfl
            case hQz20 => exact fun _ _ _ h => h
            case hyz20 => exact Or.inl ⟨by rfl, by intro w hSw; (try dsimp only at hSw); go_simp; with_reducible rfl⟩
            try simp only [Act.put, List.setIfInBounds_toArray, List.set_cons_zero, List.set_cons_succ]
            refine wpAnyH_done (by kernel_rfl) ?_ _
            clear d0 b0
            generalize w0.drew = wb at *
            have HXb := Lib.hid (HXa.out.trans hHeld)
            have HOb := Lib.hid (HOa.out.ext hHeld)
            clear hHeld
            have d0 := (HC.out wb HXb.out).1
            have d1 := (HC.out wb HXb.out).2
            go_wp2_with (first | (refine wpl_load ⟨g, o + k * 2, none⟩ [.string L[k].1, .string L[k].2] aggEntryI rfl _ rfl rfl (fun j u hu => by rw [Addr.add_lit]; match j, hu with | 0, hu => rw [Nat.add_zero, d0]; simpa using hu | 1, hu => rw [d1]; simpa using hu) ?_) | (at_builtin; refine wpl_append rowEnt rfl _ _ rfl (v := .slice C cn cc) rfl (HOb.out.alloc _) _ _ rfl (A := some ⟨wb.heap.size, 0, none⟩) (ys := [L[k]]) rfl (rd_ent wb L[k] _) (by intro y hy; obtain rfl := List.mem_singleton.1 hy; exact HX0.out) (by simp only [List.length_append, List.length_singleton]; omega) (HXb.out.alloc _).size ?_; intro vz wz ho1 hg1 hat1; obtain ⟨Cz, nz, cz, rfl⟩ := ho1.shape3; have HOz := Lib.hid ho1; have HXz := Lib.hid ((HOb.out.alloc (Obj.cells #[.string L[k].1, .string L[k].2] 29)).ext_app (HXb.out.alloc _) hg1); clear ho1 hg1 hat1))
            go_roundw
            case rel => exact ⟨k + 1, (R ++ [L[k]], true), by omega, by go_num, rfl, by rw [HN.out, HST.out, HQ.out], HOz.out, by simp; omega, HXz.out⟩
            case measure => simp [intOf]; omega
        | false =>
          cases h2 : (L[k].1.toList == e.1.toList) with
          | true =>
            have h1' : Op.bytesLess L[k].1.toList e.1.toList = false := by rw [ltB_eq]; exact h1
            have hnm : L[k].1 = e.1 := toList_inj (by simpa using h2)
            have HQ := Lib.hid (show putStep e (R, true) L[k] = (R, true) by simp [putStep, h1, hnm, ltB_irrefl])
            clear h1 hnm
            have d0 : ∀ W, Ext wr W → W.cell? ⟨g, o + k * 2, none⟩ = some (.string L[k].1) := fun W hW => (HC.out W (HX.out.trans hW)).1
            have b0 : ∀ W, Ext wr W → W.cell? ⟨w.heap.size, 0, none⟩ = some (.string e.1) := fun W hW => (HB.out W (HX.out.trans hW)).1
            go_wp2_with fail
            refine wp_region_held_drew (S := fun W => Ext wr W) (by kernel_rfl) (Ext.refl _).drew (fun hHeld => ?_)
            refine wpAnyH_take (i := 0) (oi := ?oiz21) (v := ?vz21) ?hiz21 (by kernel_rfl) (by kernel_rfl) (by kernel_rfl) ?hQz21 ?hyz21 (by assumption) ?restz21
            case hiz21 => simp only [List.getElem?_toArray, List.getElem?_cons_zero, List.getElem?_cons_succ]; rfl
            case hQz21 => exact fun _ _ _ h => h
            case hyz21 => exact Or.inl ⟨by rfl, by intro w hSw; (try dsimp only at hSw); go_simp; with_reducible rfl⟩
            try simp only [Act.put, List.setIfInBounds_toArray, List.set_cons_zero, List.set_cons_succ]
            refine wpAnyH_take (i := 1) (oi := ?oiz22) (v := ?vz22) ?hiz22 (by kernel_rfl) (by kernel_rfl) (by kernel_rfl) ?hQz22 ?hyz22 (by assumption) ?restz22
            case hiz22 => simp only [List.getElem?_toArray, List.getElem?_cons_zero, List.getElem?_cons_succ]; rfl
            case hQz22 => exact fun _ _ _ h => h
            case hyz22 => exact Or.inl ⟨by rfl, by intro w hSw; (try dsimp only at hSw); go_simp; with_reducible rfl⟩
            try simp only [Act.put, List.setIfInBounds_toArray, List.set_cons_zero, List.set_cons_succ]
            refine wpAnyH_take (i := 2) (oi := ?oiz23) (v := ?vz23) ?hiz23 (by kernel_rfl) (by kernel_rfl) (by kernel_rfl) ?hQz23 ?hyz23 (by assumption) ?restz23
            case hiz23 => simp only [List.getElem?_toArray, List.getElem?_cons_zero, List.getElem?_cons_succ]; rfl
            case hQz23 => exact fun _ _ _ h => h
            case hyz23 => exact Or.inl ⟨by rfl, by intro w hSw; (try dsimp only at hSw); go_simp; with_reducible rfl⟩
            try simp only [Act.put, List.setIfInBounds_toArray, List.set_cons_zero, List.set_cons_succ]
            refine wpAnyH_take (i := 3) (oi := ?oiz24) (v := undef) ?hiz24 (by kernel_rfl) (by kernel_rfl) (by kernel_rfl) ?hQz24 ?hyz24 (by assumption) ?restz24
            case hiz24 => simp only [List.getElem?_toArray, List.getElem?_cons_zero, List.getElem?_cons_succ]; rfl
            case hQz24 => exact fun _ _ _ h => h
            case hyz24 => exact Or.inr ⟨by rfl, rfl⟩
            try simp only [Act.put, List.setIfInBounds_toArray, List.set_cons_zero, List.set_cons_succ]
            refine wpAnyH_take (i := 4) (oi := ?oiz25) (v := undef) ?hiz25 (by kernel_rfl) (by kernel_rfl) (by kernel_rfl) ?hQz25 ?hyz25 (by assumption) ?restz25
            case hiz25 => simp only [List.getElem?_toArray, List.getElem?_cons_zero, List.getElem?_cons_succ]; rfl
            case hQz25 => exact fun _ _ _ h => h
            case hyz25 => exact Or.inr ⟨by rfl, rfl⟩
            try simp only [Act.put, List.setIfInBounds_toArray, List.set_cons_zero, List.set_cons_succ]
            refine wpAnyH_take (i := 5) (oi := ?oiz26) (v := undef) ?hiz26 (by kernel_rfl) (by kernel_rfl) (by kernel_rfl) ?hQz26 ?hyz26 (by assumption) ?restz26
            case hiz26 => simp only [List.getElem?_toArray, List.getElem?_cons_zero, List.getElem?_cons_succ]; rfl
            case hQz26 => exact fun _ _ _ h => h
            case hyz26 => exact Or.inr ⟨by rfl, rfl⟩
            try simp only [Act.put, List.setIfInBounds_toArray, List.set_cons_zero, List.set_cons_succ]
            refine wpAnyH_take (i := 6) (oi := ?oiz27) (v := undef) ?hiz27 (by kernel_rfl) (by kernel_rfl) (by kernel_rfl) ?hQz27 ?hyz27 (by assumption) ?restz27
            case hiz27 => simp only [List.getElem?_toArray, List.getElem?_cons_zero, List.getElem?_cons_succ]; rfl
            case hQz27 => exact fun _ _ _ h => h
            case hyz27 => exact Or.inr ⟨by rfl, rfl⟩
            try simp only [Act.put, List.setIfInBounds_toArray, List.set_cons_zero, List.set_cons_succ]
            refine wpAnyH_take (i := 7) (oi := ?oiz28) (v := undef) ?hiz28 (by kernel_rfl) (by kernel_rfl) (by kernel_rfl) ?hQz28 ?hyz28 (by assumption) ?restz28
            case hiz28 => simp only [List.getElem?_toArray, List.getElem?_cons_zero, List.getElem?_cons_succ]; rfl
            case hQz28 => exact fun _ _ _ h => h
            case hyz28 => exact Or.inr ⟨by rfl, rfl⟩
            try simp only [Act.put, List.setIfInBounds_toArray, List.set_cons_zero, List.set_cons_succ]
            refine wpAnyH_take (i := 8) (oi := ?oiz29) (v := undef) ?hiz29 (by kernel_rfl) (by kernel_rfl) (by kernel_rfl) ?hQz29 ?hyz29 (by assumption) ?restz29
            case hiz29 => simp only [List.getElem?_toArray, List.getElem?_cons_zero, List.getElem?_cons_succ]; rfl
            case hQz29 => exact fun _ _ _ h => h
            case hyz29 => exact Or.inr ⟨by rfl, rfl⟩
            try simp only [Act.put, List.setIfInBounds_toArray, List.set_cons_zero, List.set_cons_succ]
            refine wpAnyH_take (i := 9) (oi := ?oiz30) (v := undef) ?hiz30 (by kernel_rfl) (by kernel_rfl) (by kernel_rfl) ?hQz30 ?hyz30 (by assumption) ?restz30
            case hiz30 => simp only [List.getElem?_toArray, List.getElem?_cons_zero, List.getElem?_cons_succ]; rfl
            case hQz30 => exact fun _ _ _ h => h
            case hyz30 => exact Or.inr ⟨by rfl, rfl⟩
            try simp only [Act.put, List.setIfInBounds_toArray, List.set_cons_zero, List.set_cons_succ]
            refine wpAnyH_take (i := 10) (oi := ?oiz31) (v := undef) ?hiz31 (by kernel_rfl) (by kernel_rfl) (by kernel_rfl) ?hQz31 ?hyz31 (by assumption) ?restz31
            case hiz31 => simp only [List.getElem?_toArray, List.getElem?_cons_zero, List.getElem?_cons_succ]; rfl
            case hQz31 => exact fun _ _ _ h => h
            case hyz31 => exact Or.inr ⟨by rfl, rfl⟩
            try simp only [Act.put, List.setIfInBounds_toArray, List.set_cons_zero, List.set_cons_succ]
            refine wpAnyH_take (i := 11) (oi := ?oiz32) (v := ?vz32) ?hiz32 (by kernel_rfl) (by kernel_rfl) (by kernel_rfl) ?hQz32 ?hyz32 (by assumption) ?restz32
            case hiz32 => simp only [List.getElem?_toArray, List.getElem?_cons_zero, List.getElem?_cons_succ]; rfl
            case hQz32 => exact fun _ _ _ h => h
            case hyz32 => exact Or.inl ⟨by rfl, by intro w hSw; (try dsimp only at hSw); go_simp; with_reducible rfl⟩
            try simp only [Act.put, List.setIfInBounds_toArray, List.set_cons_zero, List.set_cons_succ]
            refine wpAnyH_done (by kernel_rfl) ?_ _
            clear d0 b0
            generalize wr.drew = w0 at *
            have HXa := Lib.hid (HX.out.trans hHeld)
            have HOa := Lib.hid (HO.out.ext hHeld)
            clear hHeld HX HO
            go_wp2_with fail
            have d0 : ∀ W, Ext w0 W → W.cell? ⟨g, o + k * 2, none⟩ = some (.string L[k].1) := fun W hW => (HC.out W (HXa.out.trans hW)).1
            have b0 : ∀ W, Ext w0 W → W.cell? ⟨w.heap.size, 0, none⟩ = some (.string e.1) := fun W hW => (HB.out W (HXa.out.trans hW)).1
            refine wp_region_held_drew (S := fun W => Ext w0 W) (by kernel_rfl) (Ext.refl _).drew (fun hHeld => ?_)
            refine wpAnyH_take (i := 0) (oi := ?oiz33) (v := ?vz33) ?hiz33 (by kernel_rfl) (by kernel_rfl) (by kernel_rfl) ?hQz33 ?hyz33 (by assumption) ?restz33
            case hiz33 => simp only [List.getElem?_toArray, List.getElem?_cons_zero, List.getElem?_cons_succ]; rfl
            case hQz33 => exact fun _ _ _ h => h
            case hyz33 => exact Or.inl ⟨by rfl, by intro w hSw; (try dsimp only at hSw); go_simp; with_reducible rfl⟩
            try simp only [Act.put, List.setIfInBounds_toArray, List.set_cons_zero, List.set_cons_succ]
            refine wpAnyH_take (i := 1) (oi := ?oiz34) (v := ?vz34) ?hiz34 (by kernel_rfl) (by kernel_rfl) (by kernel_rfl) ?hQz34 ?hyz34 (by assumption) ?restz34
            case hiz34 => simp only [List.getElem?_toArray, List.getElem?_cons_zero, List.getElem?_cons_succ]; rfl
            case hQz34 => exact fun _ _ _ h => h
            case hyz34 => exact Or.inl ⟨by rfl, by intro w hSw; (try dsimp only at hSw); go_simp; with_reducible rfl⟩
            try simp only [Act.put, List.setIfInBounds_toArray, List.set_cons_zero, List.set_cons_succ]
            refine wpAnyH_take (i := 2) (oi := ?oiz35) (v := ?vz35) ?hiz35 (by kernel_rfl) (by kernel_rfl) (by kernel_rfl) ?hQz35 ?hyz35 (by assumption) ?restz35
            case hiz35 => simp only [List.getElem?_toArray, List.getElem?_cons_zero, List.getElem?_cons_succ]; rfl
            case hQz35 => exact fun _ _ _ h => h
            case hyz35 => exact Or.inl ⟨by rfl, by intro w hSw; (try dsimp only at hSw); go_simp; with_reducible rfl⟩
            try simp only [Act.put, List.setIfInBounds_toArray, List.set_cons_zero, List.set_cons_succ]
            refine wpAnyH_take (i := 3) (oi := ?oiz36) (v := ?vz36) ?hiz36 (by kernel_rfl) (by kernel_rfl) (by kernel_rfl) ?hQz36 ?hyz36 (by assumption) ?restz36
            case hiz36 => simp only [List.getElem?_toArray, List.getElem?_cons_zero, List.getElem?_cons_succ]; rfl
            case hQz36 => exact fun _ _ _ h => h
            case hyz36 => exact Or.inl ⟨by rfl, by intro w hSw; (try dsimp only at hSw); go_simp; with_reducible rfl⟩
            try simp only [Act.put, List.setIfInBounds_toArray, List.set_cons_zero, List.set_cons_succ]
            refine wpAnyH_take (i := 4) (oi := ?oiz37) (v := ?vz37) ?hiz37 (by kernel_rfl) (by kernel_rfl) (by kernel_rfl) ?hQz37 ?hyz37 (by assumption) ?restz37
            case hiz37 => simp only [List.getElem?_toArray, List.getElem?_cons_zero, List.getElem?_cons_succ]; rfl
            case hQz37 => exact fun _ _ _ h => h
            case hyz37 => exact Or.inl ⟨by rfl, by intro w hSw; (try dsimp only at hSw); go_simp; with_reducible rfl⟩
            try simp only [Act.put, List.setIfInBounds_toArray, List.set_cons_zero, List.set_cons_succ]
            refine wpAnyH_take (i := 5) (oi := ?oiz38) (v := ?vz38) ?hiz38 (by kernel_rfl) (by kernel_rfl) (by kernel_rfl) ?hQz38 ?hyz38 (by assumption) ?restz38
            case hiz38 => simp only [List.getElem?_toArray, List.getElem?_cons_zero, List.getElem?_cons_succ]; rfl
            case hQz38 => exact fun _ _ _ h => h
            case hyz38 => exact Or.inl ⟨by rfl, by intro w hSw; (try dsimp only at hSw); go_simp; with_reducible rfl⟩
            try simp only [Act.put, List.setIfInBounds_toArray, List.set_cons_zero, List.set_cons_succ]
            refine wpAnyH_take (i := 6) (oi := ?oiz39) (v := ?vz39) ?hiz39 (by kernel_rfl) (by kernel_rfl) (by kernel_rfl) ?hQz39 ?hyz39 (by assumption) ?restz39
            case hiz39 => simp only [List.getElem?_toArray, List.getElem?_cons_zero, List.getElem?_cons_succ]; rfl
            case hQz39 => exact fun _ _ _ h => h
            case hyz39 => exact Or.inl ⟨by rfl, by intro w hSw; (try dsimp only at hSw); go_simp; with_reducible rfl⟩
            try simp only [Act.put, List.setIfInBounds_toArray, List.set_cons_zero, List.set_cons_succ]
            refine wpAnyH_take (i := 7) (oi := ?oiz40) (v := ?vz40) ?hiz40 (by kernel_rfl) (by kernel_rfl) (by kernel_rfl) ?hQz40 ?hyz40 (by assumption) ?restz40
            case hiz40 => simp only [List.getElem?_toArray, List.getElem?_cons_zero, List.getElem?_cons_succ]; rfl
            case hQz40 => exact fun _ _ _ h => h
            case hyz40 => exact Or.inl ⟨by rfl, by intro w hSw; (try dsimp only at hSw); go_simp; with_reducible rfl⟩
            try simp only [Act.put, List.setIfInBounds_toArray, List.set_cons_zero, List.set_cons_succ]
            refine wpAnyH_done (by kernel_rfl) ?_ _
            clear d0 b0
            generalize w0.drew = wb at *
            have HXb := Lib.hid (HXa.out.trans hHeld)
            have HOb := Lib.hid (HOa.out.ext hHeld)
            clear hHeld
            go_wp2
            go_roundw
            case rel => exact ⟨k + 1, (R, true), by omega, by go_num, rfl, by rw [HN.out, HST.out, HQ.out], HOb.out, by simp; omega, HXb.out⟩
            case measure => simp [intOf]; omega
          | false =>
            have h1' : Op.bytesLess L[k].1.toList e.1.toList = false := by rw [ltB_eq]; exact h1
            have hnm : L[k].1 ≠ e.1 := fun q => by rw [q] at h2; simp at h2
            have HQ := Lib.hid (show putStep e (R, true) L[k] = (R ++ [L[k]], true) by simp [putStep, h1, hnm, ltB_irrefl])
            clear h1 hnm
            have d0 : ∀ W, Ext wr W → W.cell? ⟨g, o + k * 2, none⟩ = some (.string L[k].1) := fun W hW => (HC.out W (HX.out.trans hW)).1
            have b0 : ∀ W, Ext wr W → W.cell? ⟨w.heap.size, 0, none⟩ = some (.string e.1) := fun W hW => (HB.out W (HX.out.trans hW)).1
            go_wp2_with fail
            refine wp_region_held_drew (S := fun W => Ext wr W) (by kernel_rfl) (Ext.refl _).drew (fun hHeld => ?_)
            refine wpAnyH_take (i := 0) (oi := ?oiz41) (v := ?vz41) ?hiz41 (by kernel_rfl) (by kernel_rfl) (by kernel_rfl) ?hQz41 ?hyz41 (by assumption) ?restz41
            case hiz41 => simp only [List.getElem?_toArray, List.getElem?_cons_zero, List.getElem?_cons_succ]; rfl
            case hQz41 => exact fun _ _ _ h => h
            case hyz41 => exact Or.inl ⟨by rfl, by intro w hSw; (try dsimp only at hSw); go_simp; with_reducible rfl⟩
            try simp only [Act.put, List.setIfInBounds_toArray, List.set_cons_zero, List.set_cons_succ]
            refine wpAnyH_take (i := 1) (oi := ?oiz42) (v := ?vz42) ?hiz42 (by kernel_rfl) (by kernel_rfl) (by kernel_rfl) ?hQz42 ?hyz42 (by assumption) ?restz42
            case hiz42 => simp only [List.getElem?_toArray, List.getElem?_cons_zero, List.getElem?_cons_succ]; rfl
            case hQz42 => exact fun _ _ _ h => h
            case hyz42 => exact Or.inl ⟨by rfl, by intro w hSw; (try dsimp only at hSw); go_simp; with_reducible rfl⟩
            try simp only [Act.put, List.setIfInBounds_toArray, List.set_cons_zero, List.set_cons_succ]
            refine wpAnyH_take (i := 2) (oi := ?oiz43) (v := ?vz43) ?hiz43 (by kernel_rfl) (by kernel_rfl) (by kernel_rfl) ?hQz43 ?hyz43 (by assumption) ?restz43
            case hiz43 => simp only [List.getElem?_toArray, List.getElem?_cons_zero, List.getElem?_cons_succ]; rfl
            case hQz43 => exact fun _ _ _ h => h
            case hyz43 => exact Or.inl ⟨by rfl, by intro w hSw; (try dsimp only at hSw); go_simp; with_reducible rfl⟩
            try simp only [Act.put, List.setIfInBounds_toArray, List.set_cons_zero, List.set_cons_succ]
            refine wpAnyH_take (i := 3) (oi := ?oiz44) (v := undef) ?hiz44 (by kernel_rfl) (by kernel_rfl) (by kernel_rfl) ?hQz44 ?hyz44 (by assumption) ?restz44
            case hiz44 => simp only [List.getElem?_toArray, List.getElem?_cons_zero, List.getElem?_cons_succ]; rfl
            case hQz44 => exact fun _ _ _ h => h
            case hyz44 => exact Or.inr ⟨by rfl, rfl⟩
            try simp only [Act.put, List.setIfInBounds_toArray, List.set_cons_zero, List.set_cons_succ]
            refine wpAnyH_take (i := 4) (oi := ?oiz45) (v := undef) ?hiz45 (by kernel_rfl) (by kernel_rfl) (by kernel_rfl) ?hQz45 ?hyz45 (by assumption) ?restz45
            case hiz45 => simp only [List.getElem?_toArray, List.getElem?_cons_zero, List.getElem?_cons_succ]; rfl
            case hQz45 => exact fun _ _ _ h => h
            case hyz45 => exact Or.inr ⟨by rfl, rfl⟩
            try simp only [Act.put, List.setIfInBounds_toArray, List.set_cons_zero, List.set_cons_succ]
            refine wpAnyH_take (i := 5) (oi := ?oiz46) (v := undef) ?hiz46 (by kernel_rfl) (by kernel_rfl) (by kernel_rfl) ?hQz46 ?hyz46 (by assumption) ?restz46
            case hiz46 => simp only [List.getElem?_toArray, List.getElem?_cons_zero, List.getElem?_cons_succ]; rfl
            case hQz46 => exact fun _ _ _ h => h
            case hyz46 => exact Or.inr ⟨by rfl, rfl⟩
            try simp only [Act.put, List.setIfInBounds_toArray, List.set_cons_zero, List.set_cons_succ]
            refine wpAnyH_take (i := 6) (oi := ?oiz47) (v := undef) ?hiz47 (by kernel_rfl) (by kernel_rfl) (by kernel_rfl) ?hQz47 ?hyz47 (by assumption) ?restz47
            case hiz47 => simp only [List.getElem?_toArray, List.getElem?_cons_zero, List.getElem?_cons_succ]; rfl
            case hQz47 => exact fun _ _ _ h => h
            case hyz47 => exact Or.inr ⟨by rfl, rfl⟩
            try simp only [Act.put, List.setIfInBounds_toArray, List.set_cons_zero, List.set_cons_succ]
            refine wpAnyH_take (i := 7) (oi := ?oiz48) (v := undef) ?hiz48 (by kernel_rfl) (by kernel_rfl) (by kernel_rfl) ?hQz48 ?hyz48 (by assumption) ?restz48
            case hiz48 => simp only [List.getElem?_toArray, List.getElem?_cons_zero, List.getElem?_cons_succ]; rfl
            case hQz48 => exact fun _ _ _ h => h
            case hyz48 => exact Or.inr ⟨by rfl, rfl⟩
            try simp only [Act.put, List.setIfInBounds_toArray, List.set_cons_zero, List.set_cons_succ]
            refine wpAnyH_take (i := 8) (oi := ?oiz49) (v := undef) ?hiz49 (by kernel_rfl) (by kernel_rfl) (by kernel_rfl) ?hQz49 ?hyz49 (by assumption) ?restz49
            case hiz49 => simp only [List.getElem?_toArray, List.getElem?_cons_zero, List.getElem?_cons_succ]; rfl
            case hQz49 => exact fun _ _ _ h => h
            case hyz49 => exact Or.inr ⟨by rfl, rfl⟩
            try simp only [Act.put, List.setIfInBounds_toArray, List.set_cons_zero, List.set_cons_succ]
            refine wpAnyH_take (i := 9) (oi := ?oiz50) (v := undef) ?hiz50 (by kernel_rfl) (by kernel_rfl) (by kernel_rfl) ?hQz50 ?hyz50 (by assumption) ?restz50
            case hiz50 => simp only [List.getElem?_toArray, List.getElem?_cons_zero, List.getElem?_cons_succ]; rfl
            case hQz50 => exact fun _ _ _ h => h
            case hyz50 => exact Or.inr ⟨by rfl, rfl⟩
            try simp only [Act.put, List.setIfInBounds_toArray, List.set_cons_zero, List.set_cons_succ]
            refine wpAnyH_take (i := 10) (oi := ?oiz51) (v := undef) ?hiz51 (by kernel_rfl) (by kernel_rfl) (by kernel_rfl) ?hQz51 ?hyz51 (by assumption) ?restz51
            case hiz51 => simp only [List.getElem?_toArray, List.getElem?_cons_zero, List.getElem?_cons_succ]; rfl
            case hQz51 => exact fun _ _ _ h => h
            case hyz51 => exact Or.inr ⟨by rfl, rfl⟩
            try simp only [Act.put, List.setIfInBounds_toArray, List.set_cons_zero, List.set_cons_succ]
            refine wpAnyH_take (i := 11) (oi := ?oiz52) (v := ?vz52) ?hiz52 (by kernel_rfl) (by kernel_rfl) (by kernel_rfl) ?hQz52 ?hyz52 (by assumption) ?restz52
            case hiz52 => simp only [List.getElem?_toArray, List.getElem?_cons_zero, List.getElem?_cons_succ]; rfl
            case hQz52 => exact fun _ _ _ h => h
            case hyz52 => exact Or.inl ⟨by rfl, by intro w hSw; (try dsimp only at hSw); go_simp; with_reducible rfl⟩
            try simp only [Act.put, List.setIfInBounds_toArray, List.set_cons_zero, List.set_cons_succ]
            refine wpAnyH_done (by kernel_rfl) ?_ _
            clear d0 b0
            generalize wr.drew = w0 at *
            have HXa := Lib.hid (HX.out.trans hHeld)
            have HOa := Lib.hid (HO.out.ext hHeld)
            clear hHeld HX HO
            go_wp2_with fail
            have d0 : ∀ W, Ext w0 W → W.cell? ⟨g, o + k * 2, none⟩ = some (.string L[k].1) := fun W hW => (HC.out W (HXa.out.trans hW)).1
            have b0 : ∀ W, Ext w0 W → W.cell? ⟨w.heap.size, 0, none⟩ = some (.string e.1) := fun W hW => (HB.out W (HXa.out.trans hW)).1
            refine wp_region_held_drew (S := fun W => Ext w0 W) (by kernel_rfl) (Ext.refl _).drew (fun hHeld => ?_)
            refine wpAnyH_take (i := 0) (oi := ?oiz53) (v := ?vz53) ?hiz53 (by kernel_rfl) (by kernel_rfl) (by kernel_rfl) ?hQz53 ?hyz53 (by assumption) ?restz53
            case hiz53 => simp only [List.getElem?_toArray, List.getElem?_cons_zero, List.getElem?_cons_succ]; rfl
            case hQz53 => exact fun _ _ _ h => h
            case hyz53 => exact Or.inl ⟨by rfl, by intro w hSw; (try dsimp only at hSw); go_simp; with_reducible rfl⟩
            try simp only [Act.put, List.setIfInBounds_toArray, List.set_cons_zero, List.set_cons_succ]
            refine wpAnyH_take (i := 1) (oi := ?oiz54) (v := ?vz54) ?hiz54 (by kernel_rfl) (by kernel_rfl) (by kernel_rfl) ?hQz54 ?hyz54 (by assumption) ?restz54
            case hiz54 => simp only [List.getElem?_toArray, List.getElem?_cons_zero, List.getElem?_cons_succ]; rfl
            case hQz54 => exact fun _ _ _ h => h
            case hyz54 => exact Or.inl ⟨by rfl, by intro w hSw; (try dsimp only at hSw); go_simp; with_reducible rfl⟩
            try simp only [Act.put, List.setIfInBounds_toArray, List.set_cons_zero, List.set_cons_succ]
            refine wpAnyH_take (i := 2) (oi := ?oiz55) (v := ?vz55) ?hiz55 (by kernel_rfl) (by kernel_rfl) (by kernel_rfl) ?hQz55 ?hyz55 (by assumption) ?restz55
            case hiz55 => simp only [List.getElem?_toArray, List.getElem?_cons_zero, List.getElem?_cons_succ]; rfl
            case hQz55 => exact fun _ _ _ h => h
            case hyz55 => exact Or.inl ⟨by rfl, by intro w hSw; (try dsimp only at hSw); go_simp; with_reducible rfl⟩
            try simp only [Act.put, List.setIfInBounds_toArray, List.set_cons_zero, List.set_cons_succ]
            refine wpAnyH_take (i := 3) (oi := ?oiz56) (v := ?vz56) ?hiz56 (by kernel_rfl) (by kernel_rfl) (by kernel_rfl) ?hQz56 ?hyz56 (by assumption) ?restz56
            case hiz56 => simp only [List.getElem?_toArray, List.getElem?_cons_zero, List.getElem?_cons_succ]; rfl
            case hQz56 => exact fun _ _ _ h => h
            case hyz56 => exact Or.inl ⟨by rfl, by intro w hSw; (try dsimp only at hSw); go_simp; with_reducible rfl⟩
            try simp only [Act.put, List.setIfInBounds_toArray, List.set_cons_zero, List.set_cons_succ]
            refine wpAnyH_take (i := 4) (oi := ?oiz57) (v := ?vz57) ?hiz57 (by kernel_rfl) (by kernel_rfl) (by kernel_rfl) ?hQz57 ?hyz57 (by assumption) ?restz57
            case hiz57 => simp only [List.getElem?_toArray, List.getElem?_cons_zero, List.getElem?_cons_succ]; rfl
            case hQz57 => exact fun _ _ _ h => h
            case hyz57 => exact Or.inl ⟨by rfl, by intro w hSw; (try dsimp only at hSw); go_simp; with_reducible rfl⟩
            try simp only [Act.put, List.setIfInBounds_toArray, List.set_cons_zero, List.set_cons_succ]
            refine wpAnyH_take (i := 5) (oi := ?oiz58) (v := ?vz58) ?hiz58 (by kernel_rfl) (by kernel_rfl) (by kernel_rfl) ?hQz58 ?hyz58 (by assumption) ?restz58
            case hiz58 => simp only [List.getElem?_toArray, List.getElem?_cons_zero, List.getElem?_cons_succ]; rfl
            case hQz58 => exact fun _ _ _ h => h
            case hyz58 => exact Or.inl ⟨by rfl, by intro w hSw; (try dsimp only at hSw); go_simp; with_reducible rfl⟩
            try simp only [Act.put, List.setIfInBounds_toArray, List.set_cons_zero, List.set_cons_succ]
            refine wpAnyH_take (i := 6) (oi := ?oiz59) (v := ?vz59) ?hiz59 (by kernel_rfl) (by kernel_rfl) (by kernel_rfl) ?hQz59 ?hyz59 (by assumption) ?restz59
            case hiz59 => simp only [List.getElem?_toArray, List.getElem?_cons_zero, List.getElem?_cons_succ]; rfl
            case hQz59 => exact fun _ _ _ h => h
            case hyz59 => exact Or.inl ⟨by rfl, by intro w hSw; (try dsimp only at hSw); go_simp; with_reducible rfl⟩
            try simp only [Act.put, List.setIfInBounds_toArray, List.set_cons_zero, List.set_cons_succ]
            refine wpAnyH_take (i := 7) (oi := ?oiz60) (v := ?vz60) ?hiz60 (by kernel_rfl) (by kernel_rfl) (by kernel_rfl) ?hQz60 ?hyz60 (by assumption) ?restz60
            case hiz60 => simp only [List.getElem?_toArray, List.getElem?_cons_zero, List.getElem?_cons_succ]; rfl
            case hQz60 => exact fun _ _ _ h => h
            case hyz60 => exact Or.inl ⟨by rfl, by intro w hSw; (try dsimp only at hSw); go_simp; with_reducible rfl⟩
            try simp only [Act.put, List.setIfInBounds_toArray, List.set_cons_zero, List.set_cons_succ]
            refine wpAnyH_done (by kernel_rfl) ?_ _
            clear d0 b0
            generalize w0.drew = wb at *
            have HXb := Lib.hid (HXa.out.trans hHeld)
            have HOb := Lib.hid (HOa.out.ext hHeld)
            clear hHeld
            have d0 := (HC.out wb HXb.out).1
            have d1 := (HC.out wb HXb.out).2
            go_wp2_with (first | (refine wpl_load ⟨g, o + k * 2, none⟩ [.string L[k].1, .string L[k].2] aggEntryI rfl _ rfl rfl (fun j u hu => by rw [Addr.add_lit]; match j, hu with | 0, hu => rw [Nat.add_zero, d0]; simpa using hu | 1, hu => rw [d1]; simpa using hu) ?_) | (at_builtin; refine wpl_append rowEnt rfl _ _ rfl (v := .slice C cn cc) rfl (HOb.out.alloc _) _ _ rfl (A := some ⟨wb.heap.size, 0, none⟩) (ys := [L[k]]) rfl (rd_ent wb L[k] _) (by intro y hy; obtain rfl := List.mem_singleton.1 hy; exact HX0.out) (by simp only [List.length_append, List.length_singleton]; omega) (HXb.out.alloc _).size ?_; intro vz wz ho1 hg1 hat1; obtain ⟨Cz, nz, cz, rfl⟩ := ho1.shape3; have HOz := Lib.hid ho1; have HXz := Lib.hid ((HOb.out.alloc (Obj.cells #[.string L[k].1, .string L[k].2] 29)).ext_app (HXb.out.alloc _) hg1); clear ho1 hg1 hat1))
            go_roundw
            case rel => exact ⟨k + 1, (R ++ [L[k]], true), by omega, by go_num, rfl, by rw [HN.out, HST.out, HQ.out], HOz.out, by simp; omega, HXz.out⟩
            case measure => simp [intOf]; omega
      | false =>
        cases h1 : ltB L[k].1 e.1 with
        | true =>
          cases h2 : (L[k].1.toList == e.1.toList) with
          | true =>
            exact absurd (toList_inj (by simpa using h2)) (ltB_ne h1)
          | false =>
            have h1' : Op.bytesLess L[k].1.toList e.1.toList = true := by rw [ltB_eq]; exact h1
            have hnm : L[k].1 ≠ e.1 := fun q => by rw [q] at h2; simp at h2
            have HQ := Lib.hid (show putStep e (R, false) L[k] = (R ++ [L[k]], false) by simp [putStep, h1, hnm, ltB_irrefl])
            clear h1 hnm
            have d0 : ∀ W, Ext wr W → W.cell? ⟨g, o + k * 2, none⟩ = some (.string L[k].1) := fun W hW => (HC.out W (HX.out.trans hW)).1
            have b0 : ∀ W, Ext wr W → W.cell? ⟨w.heap.size, 0, none⟩ = some (.string e.1) := fun W hW => (HB.out W (HX.out.trans hW)).1
            go_wp2_with fail
            refine wp_region_held_drew (S := fun W => Ext wr W) (by kernel_rfl) (Ext.refl _).drew (fun hHeld => ?_)
            refine wpAnyH_take (i := 0) (oi := ?oiz61) (v := ?vz61) ?hiz61 (by kernel_rfl) (by kernel_rfl) (by kernel_rfl) ?hQz61 ?hyz61 (by assumption) ?restz61
            case hiz61 => simp only [List.getElem?_toArray, List.getElem?_cons_zero, List.getElem?_cons_succ]; rfl
            case hQz61 => exact fun _ _ _ h => h
            case hyz61 => exact Or.inl ⟨by rfl, by intro w hSw; (try dsimp only at hSw); go_simp; with_reducible rfl⟩
            try simp only [Act.put, List.setIfInBounds_toArray, List.set_cons_zero, List.set_cons_succ]
            refine wpAnyH_take (i := 1) (oi := ?oiz62) (v := ?vz62) ?hiz62 (by kernel_rfl) (by kernel_rfl) (by kernel_rfl) ?hQz62 ?hyz62 (by assumption) ?restz62
            case hiz62 => simp only [List.getElem?_toArray, List.getElem?_cons_zero, List.getElem?_cons_succ]; rfl
            case hQz62 => exact fun _ _ _ h => h
            case hyz62 => exact Or.inl ⟨by rfl, by intro w hSw; (try dsimp only at hSw); go_simp; with_reducible rfl⟩
            try simp only [Act.put, List.setIfInBounds_toArray, List.set_cons_zero, List.set_cons_succ]
            refine wpAnyH_take (i := 2) (oi := ?oiz63) (v := ?vz63) ?hiz63 (by kernel_rfl) (by kernel_rfl) (by kernel_rfl) ?hQz63 ?hyz63 (by assumption) ?restz63
            case hiz63 => simp only [List.getElem?_toArray, List.getElem?_cons_zero, List.getElem?_cons_succ]; rfl
            case hQz63 => exact fun _ _ _ h => h
            case hyz63 => exact Or.inl ⟨by rfl, by intro w hSw; (try dsimp only at hSw); go_simp; with_reducible rfl⟩
            try simp only [Act.put, List.setIfInBounds_toArray, List.set_cons_zero, List.set_cons_succ]
            refine wpAnyH_take (i := 3) (oi := ?oiz64) (v := ?vz64) ?hiz64 (by kernel_rfl) (by kernel_rfl) (by kernel_rfl) ?hQz64 ?hyz64 (by assumption) ?restz64
            case hiz64 => simp only [List.getElem?_toArray, List.getElem?_cons_zero, List.getElem?_cons_succ]; rfl
            case hQz64 => exact fun _ _ _ h => h
            case hyz64 => exact Or.inl ⟨by rfl, by intro w hSw; (try dsimp only at hSw); go_simp; with_reducible rfl⟩
            try simp only [Act.put, List.setIfInBounds_toArray, List.set_cons_zero, List.set_cons_succ]
            refine wpAnyH_take (i := 4) (oi := ?oiz65) (v := ?vz65) ?hiz65 (by kernel_rfl) (by kernel_rfl) (by kernel_rfl) ?hQz65 ?hyz65 (by assumption) ?restz65
            case hiz65 => simp only [List.getElem?_toArray, List.getElem?_cons_zero, List.getElem?_cons_succ]; rfl
            case hQz65 => exact fun _ _ _ h => h
            case hyz65 => exact Or.inl ⟨by rfl, by intro w hSw; (try dsimp only at hSw); go_simp; with_reducible rfl⟩
            try simp only [Act.put, List.setIfInBounds_toArray, List.set_cons_zero, List.set_cons_succ]
            refine wpAnyH_take (i := 5) (oi := ?oiz66) (v := ?vz66) ?hiz66 (by kernel_rfl) (by kernel_rfl) (by kernel_rfl) ?hQz66 ?hyz66 (by assumption) ?restz66
            case hiz66 => simp only [List.getElem?_toArray, List.getElem?_cons_zero, List.getElem?_cons_succ]; rfl
            case hQz66 => exact fun _ _ _ h => h
            case hyz66 => exact Or.inl ⟨by rfl, by intro w hSw; (try dsimp only at hSw); go_simp; with_reducible rfl⟩
            try simp only [Act.put, List.setIfInBounds_toArray, List.set_cons_zero, List.set_cons_succ]
            refine wpAnyH_take (i := 6) (oi := ?oiz67) (v := ?vz67) ?hiz67 (by kernel_rfl) (by kernel_rfl) (by kernel_rfl) ?hQz67 ?hyz67 (by assumption) ?restz67
            case hiz67 => simp only [List.getElem?_toArray, List.getElem?_cons_zero, List.getElem?_cons_succ]; rfl
            case hQz67 => exact fun _ _ _ h => h
            case hyz67 => exact Or.inl ⟨by rfl, by intro w hSw; (try dsimp only at hSw); go_simp; with_reducible rfl⟩
            try simp only [Act.put, List.setIfInBounds_toArray, List.set_cons_zero, List.set_cons_succ]
            refine wpAnyH_take (i := 7) (oi := ?oiz68) (v := ?vz68) ?hiz68 (by kernel_rfl) (by kernel_rfl) (by kernel_rfl) ?hQz68 ?hyz68 (by assumption) ?restz68
            case hiz68 => simp only [List.getElem?_toArray, List.getElem?_cons_zero, List.getElem?_cons_succ]; rfl
            case hQz68 => exact fun _ _ _ h => h
            case hyz68 => exact Or.inl ⟨by rfl, by intro w hSw; (try dsimp only at hSw); go_simp; with_reducible rfl⟩
            try simp only [Act.put, List.setIfInBounds_toArray, List.set_cons_zero, List.set_cons_succ]
            refine wpAnyH_take (i := 8) (oi := ?oiz69) (v := ?vz69) ?hiz69 (by kernel_rfl) (by kernel_rfl) (by kernel_rfl) ?hQz69 ?hyz69 (by assumption) ?restz69
            case hiz69 => simp only [List.getElem?_toArray, List.getElem?_cons_zero, List.getElem?_cons_succ]; rfl
            case hQz69 => exact fun _ _ _ h => h
            case hyz69 => exact Or.inl ⟨by rfl, by intro w hSw; (try dsimp only at hSw); go_simp; with_reducible rfl⟩
            try simp only [Act.put, List.setIfInBounds_toArray, List.set_cons_zero, List.set_cons_succ]
            refine wpAnyH_take (i := 9) (oi := ?oiz70) (v := ?vz70) ?hiz70 (by kernel_rfl) (by kernel_rfl) (by kernel_rfl) ?hQz70 ?hyz70 (by assumption) ?restz70
            case hiz70 => simp only [List.getElem?_toArray, List.getElem?_cons_zero, List.getElem?_cons_succ]; rfl
            case hQz70 => exact fun _ _ _ h => h
            case hyz70 => exact Or.inl ⟨by rfl, by intro w hSw; (try dsimp only at hSw); go_simp; with_reducible rfl⟩
            try simp only [Act.put, List.setIfInBounds_toArray, List.set_cons_zero, List.set_cons_succ]
            refine wpAnyH_take (i := 10) (oi := ?oiz71) (v := ?vz71) ?hiz71 (by kernel_rfl) (by kernel_rfl) (by kernel_rfl) ?hQz71 ?hyz71 (by assumption) ?restz71
            case hiz71 => simp only [List.getElem?_toArray, List.getElem?_cons_zero, List.getElem?_cons_succ]; rfl
            case hQz71 => exact fun _ _ _ h => h
            case hyz71 => exact Or.inl ⟨by rfl, by intro w hSw; (try dsimp only at hSw); go_simp; with_reducible rfl⟩
            try simp only [Act.put, List.setIfInBounds_toArray, List.set_cons_zero, List.set_cons_succ]
            refine wpAnyH_take (i := 11) (oi := ?oiz72) (v := ?vz72) ?hiz72 (by kernel_rfl) (by kernel_rfl) (by kernel_rfl) ?hQz72 ?hyz72 (by assumption) ?restz72
            case hiz72 => simp only [List.getElem?_toArray, List.getElem?_cons_zero, List.getElem?_cons_succ]; rfl
            case hQz72 => exact fun _ _ _ h => h
            case hyz72 => exact Or.inl ⟨by rfl, by intro w hSw; (try dsimp only at hSw); go_simp; with_reducible rfl⟩
            try simp only [Act.put, List.setIfInBounds_toArray, List.set_cons_zero, List.set_cons_succ]
            refine wpAnyH_done (by kernel_rfl) ?_ _
            clear d0 b0
            generalize wr.drew = w0 at *
            have HXa := Lib.hid (HX.out.trans hHeld)
            have HOa := Lib.hid (HO.out.ext hHeld)
            clear hHeld HX HO
            go_wp2_with fail
            have d0 : ∀ W, Ext w0 W → W.cell? ⟨g, o + k * 2, none⟩ = some (.string L[k].1) := fun W hW => (HC.out W (HXa.out.trans hW)).1
            have b0 : ∀ W, Ext w0 W → W.cell? ⟨w.heap.size, 0, none⟩ = some (.string e.1) := fun W hW => (HB.out W (HXa.out.trans hW)).1
            refine wp_region_held_drew (S := fun W => Ext w0 W) (by kernel_rfl) (Ext.refl _).drew (fun hHeld => ?_)
            refine wpAnyH_take (i := 0) (oi := ?oiz73) (v := ?vz73) ?hiz73 (by kernel_rfl) (by kernel_rfl) (by kernel_rfl) ?hQz73 ?hyz73 (by assumption) ?restz73
            case hiz73 => simp only [List.getElem?_toArray, List.getElem?_cons_zero, List.getElem?_cons_succ]; rfl
            case hQz73 => exact fun _ _ _ h => h
            case hyz73 => exact Or.inl ⟨by rfl, by intro w hSw; (try dsimp only at hSw); go_simp; with_reducible rfl⟩
            try simp only [Act.put, List.setIfInBounds_toArray, List.set_cons_zero, List.set_cons_succ]
            refine wpAnyH_take (i := 1) (oi := ?oiz74) (v := ?vz74) ?hiz74 (by kernel_rfl) (by kernel_rfl) (by kernel_rfl) ?hQz74 ?hyz74 (by assumption) ?restz74
            case hiz74 => simp only [List.getElem?_toArray, List.getElem?_cons_zero, List.getElem?_cons_succ]; rfl
            case hQz74 => exact fun _ _ _ h => h
            case hyz74 => exact Or.inl ⟨by rfl, by intro w hSw; (try dsimp only at hSw); go_simp; with_reducible rfl⟩
            try simp only [Act.put, List.setIfInBounds_toArray, List.set_cons_zero, List.set_cons_succ]
            refine wpAnyH_take (i := 2) (oi := ?oiz75) (v := ?vz75) ?hiz75 (by kernel_rfl) (by kernel_rfl) (by kernel_rfl) ?hQz75 ?hyz75 (by assumption) ?restz75
            case hiz75 => simp only [List.getElem?_toArray, List.getElem?_cons_zero, List.getElem?_cons_succ]; rfl
            case hQz75 => exact fun _ _ _ h => h
            case hyz75 => exact Or.inl ⟨by rfl, by intro w hSw; (try dsimp only at hSw); go_simp; with_reducible rfl⟩
            try simp only [Act.put, List.setIfInBounds_toArray, List.set_cons_zero, List.set_cons_succ]
            refine wpAnyH_take (i := 3) (oi := ?oiz76) (v := ?vz76) ?hiz76 (by kernel_rfl) (by kernel_rfl) (by kernel_rfl) ?hQz76 ?hyz76 (by assumption) ?restz76
            case hiz76 => simp only [List.getElem?_toArray, List.getElem?_cons_zero, List.getElem?_cons_succ]; rfl
            case hQz76 => exact fun _ _ _ h => h
            case hyz76 => exact Or.inl ⟨by rfl, by intro w hSw; (try dsimp only at hSw); go_simp; with_reducible rfl⟩
            try simp only [Act.put, List.setIfInBounds_toArray, List.set_cons_zero, List.set_cons_succ]
            refine wpAnyH_take (i := 4) (oi := ?oiz77) (v := ?vz77) ?hiz77 (by kernel_rfl) (by kernel_rfl) (by kernel_rfl) ?hQz77 ?hyz77 (by assumption) ?restz77
            case hiz77 => simp only [List.getElem?_toArray, List.getElem?_cons_zero, List.getElem?_cons_succ]; rfl
            case hQz77 => exact fun _ _ _ h => h
            case hyz77 => exact Or.inl ⟨by rfl, by intro w hSw; (try dsimp only at hSw); go_simp; with_reducible rfl⟩
            try simp only [Act.put, List.setIfInBounds_toArray, List.set_cons_zero, List.set_cons_succ]
            refine wpAnyH_take (i := 5) (oi := ?oiz78) (v := ?vz78) ?hiz78 (by kernel_rfl) (by kernel_rfl) (by kernel_rfl) ?hQz78 ?hyz78 (by assumption) ?restz78
            case hiz78 => simp only [List.getElem?_toArray, List.getElem?_cons_zero, List.getElem?_cons_succ]; rfl
            case hQz78 => exact fun _ _ _ h => h
            case hyz78 => exact Or.inl ⟨by rfl, by intro w hSw; (try dsimp only at hSw); go_simp; with_reducible rfl⟩
            try simp only [Act.put, List.setIfInBounds_toArray, List.set_cons_zero, List.set_cons_succ]
            refine wpAnyH_take (i := 6) (oi := ?oiz79) (v := ?vz79) ?hiz79 (by kernel_rfl) (by kernel_rfl) (by kernel_rfl) ?hQz79 ?hyz79 (by assumption) ?restz79
            case hiz79 => simp only [List.getElem?_toArray, List.getElem?_cons_zero, List.getElem?_cons_succ]; rfl
            case hQz79 => exact fun _ _ _ h => h
            case hyz79 => exact Or.inl ⟨by rfl, by intro w hSw; (try dsimp only at hSw); go_simp; with_reducible rfl⟩
            try simp only [Act.put, List.setIfInBounds_toArray, List.set_cons_zero, List.set_cons_succ]
            refine wpAnyH_take (i := 7) (oi := ?oiz80) (v := ?vz80) ?hiz80 (by kernel_rfl) (by kernel_rfl) (by kernel_rfl) ?hQz80 ?hyz80 (by assumption) ?restz80
            case hiz80 => simp only [List.getElem?_toArray, List.getElem?_cons_zero, List.getElem?_cons_succ]; rfl
            case hQz80 => exact fun _ _ _ h => h
            case hyz80 => exact Or.inl ⟨by rfl, by intro w hSw; (try dsimp only at hSw); go_simp; with_reducible rfl⟩
            try simp only [Act.put, List.setIfInBounds_toArray, List.set_cons_zero, List.set_cons_succ]
            refine wpAnyH_done (by kernel_rfl) ?_ _
            clear d0 b0
            generalize w0.drew = wb at *
            have HXb := Lib.hid (HXa.out.trans hHeld)
            have HOb := Lib.hid (HOa.out.ext hHeld)
            clear hHeld
            have d0 := (HC.out wb HXb.out).1
            have d1 := (HC.out wb HXb.out).2
            go_wp2_with (first | (refine wpl_load ⟨g, o + k * 2, none⟩ [.string L[k].1, .string L[k].2] aggEntryI rfl _ rfl rfl (fun j u hu => by rw [Addr.add_lit]; match j, hu with | 0, hu => rw [Nat.add_zero, d0]; simpa using hu | 1, hu => rw [d1]; simpa using hu) ?_) | (at_builtin; refine wpl_append rowEnt rfl _ _ rfl (v := .slice C cn cc) rfl (HOb.out.alloc _) _ _ rfl (A := some ⟨wb.heap.size, 0, none⟩) (ys := [L[k]]) rfl (rd_ent wb L[k] _) (by intro y hy; obtain rfl := List.mem_singleton.1 hy; exact HX0.out) (by simp only [List.length_append, List.length_singleton]; omega) (HXb.out.alloc _).size ?_; intro vz wz ho1 hg1 hat1; obtain ⟨Cz, nz, cz, rfl⟩ := ho1.shape3; have HOz := Lib.hid ho1; have HXz := Lib.hid ((HOb.out.alloc (Obj.cells #[.string L[k].1, .string L[k].2] 29)).ext_app (HXb.out.alloc _) hg1); clear ho1 hg1 hat1))
            go_roundw
            case rel => exact ⟨k + 1, (R ++ [L[k]], false), by omega, by go_num, rfl, by rw [HN.out, HST.out, HQ.out], HOz.out, by simp; omega, HXz.out⟩
            case measure => simp [intOf]; omega
        | false =>
          cases h2 : (L[k].1.toList == e.1.toList) with
          | true =>
            have h1' : Op.bytesLess L[k].1.toList e.1.toList = false := by rw [ltB_eq]; exact h1
            have hnm : L[k].1 = e.1 := toList_inj (by simpa using h2)
            have HQ := Lib.hid (show putStep e (R, false) L[k] = (R ++ [e], true) by simp [putStep, h1, hnm, ltB_irrefl])
            clear h1 hnm
            have d0 : ∀ W, Ext wr W → W.cell? ⟨g, o + k * 2, none⟩ = some (.string L[k].1) := fun W hW => (HC.out W (HX.out.trans hW)).1
            have b0 : ∀ W, Ext wr W → W.cell? ⟨w.heap.size, 0, none⟩ = some (.string e.1) := fun W hW => (HB.out W (HX.out.trans hW)).1
            go_wp2_with fail
            refine wp_region_held_drew (S := fun W => Ext wr W) (by kernel_rfl) (Ext.refl _).drew (fun hHeld => ?_)
            refine wpAnyH_take (i := 0) (oi := ?oiz81) (v := ?vz81) ?hiz81 (by kernel_rfl) (by kernel_rfl) (by kernel_rfl) ?hQz81 ?hyz81 (by assumption) ?restz81
            case hiz81 => simp only [List.getElem?_toArray, List.getElem?_cons_zero, List.getElem?_cons_succ]; rfl
            case hQz81 => exact fun _ _ _ h => h
            case hyz81 => exact Or.inl ⟨by rfl, by intro w hSw; (try dsimp only at hSw); go_simp; with_reducible rfl⟩
            try simp only [Act.put, List.setIfInBounds_toArray, List.set_cons_zero, List.set_cons_succ]
            refine wpAnyH_take (i := 1) (oi := ?oiz82) (v := ?vz82) ?hiz82 (by kernel_rfl) (by kernel_rfl) (by kernel_rfl) ?hQz82 ?hyz82 (by assumption) ?restz82
            case hiz82 => simp only [List.getElem?_toArray, List.getElem?_cons_zero, List.getElem?_cons_succ]; rfl
            case hQz82 => exact fun _ _ _ h => h
            case hyz82 => exact Or.inl ⟨by rfl, by intro w hSw; (try dsimp only at hSw); go_simp; with_reducible rfl⟩
            try simp only [Act.put, List.setIfInBounds_toArray, List.set_cons_zero, List.set_cons_succ]
            refine wpAnyH_take (i := 2) (oi := ?oiz83) (v := ?vz83) ?hiz83 (by kernel_rfl) (by kernel_rfl) (by kernel_rfl) ?hQz83 ?hyz83 (by assumption) ?restz83
            case hiz83 => simp only [List.getElem?_toArray, List.getElem?_cons_zero, List.getElem?_cons_succ]; rfl
            case hQz83 => exact fun _ _ _ h => h
            case hyz83 => exact Or.inl ⟨by rfl, by intro w hSw; (try dsimp only at hSw); go_simp; with_reducible rfl⟩
            try simp only [Act.put, List.setIfInBounds_toArray, List.set_cons_zero, List.set_cons_succ]
            refine wpAnyH_take (i := 3) (oi := ?oiz84) (v := ?vz84) ?hiz84 (by kernel_rfl) (by kernel_rfl) (by kernel_rfl) ?hQz84 ?hyz84 (by assumption) ?restz84
            case hiz84 => simp only [List.getElem?_toArray, List.getElem?_cons_zero, List.getElem?_cons_succ]; rfl
            case hQz84 => exact fun _ _ _ h => h
            case hyz84 => exact Or.inl ⟨by rfl, by intro w hSw; (try dsimp only at hSw); go_simp; with_reducible rfl⟩
            try simp only [Act.put, List.setIfInBounds_toArray, List.set_cons_zero, List.set_cons_succ]
            refine wpAnyH_take (i := 4) (oi := ?oiz85) (v := ?vz85) ?hiz85 (by kernel_rfl) (by kernel_rfl) (by kernel_rfl) ?hQz85 ?hyz85 (by assumption) ?restz85
            case hiz85 => simp only [List.getElem?_toArray, List.getElem?_cons_zero, List.getElem?_cons_succ]; rfl
            case hQz85 => exact fun _ _ _ h => h
            case hyz85 => exact Or.inl ⟨by rfl, by intro w hSw; (try dsimp only at hSw); go_simp; with_reducible rfl⟩
            try simp only [Act.put, List.setIfInBounds_toArray, List.set_cons_zero, List.set_cons_succ]
            refine wpAnyH_take (i := 5) (oi := ?oiz86) (v := ?vz86) ?hiz86 (by kernel_rfl) (by kernel_rfl) (by kernel_rfl) ?hQz86 ?hyz86 (by assumption) ?restz86
            case hiz86 => simp only [List.getElem?_toArray, List.getElem?_cons_zero, List.getElem?_cons_succ]; rfl
            case hQz86 => exact fun _ _ _ h => h
            case hyz86 => exact Or.inl ⟨by rfl, by intro w hSw; (try dsimp only at hSw); go_simp; with_reducible rfl⟩
            try simp only [Act.put, List.setIfInBounds_toArray, List.set_cons_zero, List.set_cons_succ]
            refine wpAnyH_take (i := 6) (oi := ?oiz87) (v := ?vz87) ?hiz87 (by kernel_rfl) (by kernel_rfl) (by kernel_rfl) ?hQz87 ?hyz87 (by assumption) ?restz87
            case hiz87 => simp only [List.getElem?_toArray, List.getElem?_cons_zero, List.getElem?_cons_succ]; rfl
            case hQz87 => exact fun _ _ _ h => h
            case hyz87 => exact Or.inl ⟨by rfl, by intro w hSw; (try dsimp only at hSw); go_simp; with_reducible rfl⟩
            try simp only [Act.put, List.setIfInBounds_toArray, List.set_cons_zero, List.set_cons_succ]
            refine wpAnyH_take (i := 7) (oi := ?oiz88) (v := ?vz88) ?hiz88 (by kernel_rfl) (by kernel_rfl) (by kernel_rfl) ?hQz88 ?hyz88 (by assumption) ?restz88
            case hiz88 => simp only [List.getElem?_toArray, List.getElem?_cons_zero, List.getElem?_cons_succ]; rfl
            case hQz88 => exact fun _ _ _ h => h
            case hyz88 => exact Or.inl ⟨by rfl, by intro w hSw; (try dsimp only at hSw); go_simp; with_reducible rfl⟩
            try simp only [Act.put, List.setIfInBounds_toArray, List.set_cons_zero, List.set_cons_succ]
            refine wpAnyH_take (i := 8) (oi := ?oiz89) (v := ?vz89) ?hiz89 (by kernel_rfl) (by kernel_rfl) (by kernel_rfl) ?hQz89 ?hyz89 (by assumption) ?restz89
            case hiz89 => simp only [List.getElem?_toArray, List.getElem?_cons_zero, List.getElem?_cons_succ]; rfl
            case hQz89 => exact fun _ _ _ h => h
            case hyz89 => exact Or.inl ⟨by rfl, by intro w hSw; (try dsimp only at hSw); go_simp; with_reducible rfl⟩
            try simp only [Act.put, List.setIfInBounds_toArray, List.set_cons_zero, List.set_cons_succ]
            refine wpAnyH_take (i := 9) (oi := ?oiz90) (v := ?vz90) ?hiz90 (by kernel_rfl) (by kernel_rfl) (by kernel_rfl) ?hQz90 ?hyz90 (by assumption) ?restz90
            case hiz90 => simp only [List.getElem?_toArray, List.getElem?_cons_zero, List.getElem?_cons_succ]; rfl
            case hQz90 => exact fun _ _ _ h => h
            case hyz90 => exact Or.inl ⟨by rfl, by intro w hSw; (try dsimp only at hSw); go_simp; with_reducible rfl⟩
            try simp only [Act.put, List.setIfInBounds_toArray, List.set_cons_zero, List.set_cons_succ]
            refine wpAnyH_take (i := 10) (oi := ?oiz91) (v := ?vz91) ?hiz91 (by kernel_rfl) (by kernel_rfl) (by kernel_rfl) ?hQz91 ?hyz91 (by assumption) ?restz91
            case hiz91 => simp only [List.getElem?_toArray, List.getElem?_cons_zero, List.getElem?_cons_succ]; rfl
            case hQz91 => exact fun _ _ _ h => h
            case hyz91 => exact Or.inl ⟨by rfl, by intro w hSw; (try dsimp only at hSw); go_simp; with_reducible rfl⟩
            try simp only [Act.put, List.setIfInBounds_toArray, List.set_cons_zero, List.set_cons_succ]
            refine wpAnyH_take (i := 11) (oi := ?oiz92) (v := ?vz92) ?hiz92 (by kernel_rfl) (by kernel_rfl) (by kernel_rfl) ?hQz92 ?hyz92 (by assumption) ?restz92
            case hiz92 => simp only [List.getElem?_toArray, List.getElem?_cons_zero, List.getElem?_cons_succ]; rfl
            case hQz92 => exact fun _ _ _ h => h
            case hyz92 => exact Or.inl ⟨by rfl, by intro w hSw; (try dsimp only at hSw); go_simp; with_reducible rfl⟩
            try simp only [Act.put, List.setIfInBounds_toArray, List.set_cons_zero, List.set_cons_succ]
            refine wpAnyH_done (by kernel_rfl) ?_ _
            clear d0 b0
            generalize wr.drew = w0 at *
            have HXa := Lib.hid (HX.out.trans hHeld)
            have HOa := Lib.hid (HO.out.ext hHeld)
            clear hHeld HX HO
            have b0 := (HB.out w0 HXa.out).1
            have b1 := (HB.out w0 HXa.out).2
            go_wp2_with (first | (refine wpl_load ⟨w.heap.size, 0, none⟩ [.string e.1, .string e.2] aggEntryI rfl _ rfl rfl (fun j u hu => by rw [Addr.add_lit, Nat.zero_add]; match j, hu with | 0, hu => rw [b0]; simpa using hu | 1, hu => rw [b1]; simpa using hu) ?_) | (at_builtin; refine wpl_append rowEnt rfl _ _ rfl (v := .slice C cn cc) rfl (HOa.out.alloc _) _ _ rfl (A := some ⟨w0.heap.size, 0, none⟩) (ys := [e]) rfl (rd_ent w0 e _) (by intro y hy; obtain rfl := List.mem_singleton.1 hy; exact HE.out) (by simp only [List.length_append, List.length_singleton]; omega) (HXa.out.alloc _).size ?_; intro v9 w9 ho1 hg1 hat1; obtain ⟨C9, n9, c9, rfl⟩ := ho1.shape3; have HO9 := Lib.hid ho1; have HX9 := Lib.hid ((HOa.out.alloc (Obj.cells #[.string e.1, .string e.2] 29)).ext_app (HXa.out.alloc _) hg1); clear ho1 hg1 hat1))
            clear b0 b1
            have d0 : ∀ W, Ext w9 W → W.cell? ⟨g, o + k * 2, none⟩ = some (.string L[k].1) := fun W hW => (HC.out W (HX9.out.trans hW)).1
            have b0 : ∀ W, Ext w9 W → W.cell? ⟨w.heap.size, 0, none⟩ = some (.string e.1) := fun W hW => (HB.out W (HX9.out.trans hW)).1
            refine wp_region_held_drew (S := fun W => Ext w9 W) (by kernel_rfl) (Ext.refl _).drew (fun hHeld => ?_)
            refine wpAnyH_take (i := 0) (oi := ?oiz93) (v := ?vz93) ?hiz93 (by kernel_rfl) (by kernel_rfl) (by kernel_rfl) ?hQz93 ?hyz93 (by assumption) ?restz93
            case hiz93 => simp only [List.getElem?_toArray, List.getElem?_cons_zero, List.getElem?_cons_succ]; rfl
            case hQz93 => exact fun _ _ _ h => h
            case hyz93 => exact Or.inl ⟨by rfl, by intro w hSw; (try dsimp only at hSw); go_simp; with_reducible rfl⟩
            try simp only [Act.put, List.setIfInBounds_toArray, List.set_cons_zero, List.set_cons_succ]
            refine wpAnyH_take (i := 1) (oi := ?oiz94) (v := ?vz94) ?hiz94 (by kernel_rfl) (by kernel_rfl) (by kernel_rfl) ?hQz94 ?hyz94 (by assumption) ?restz94
            case hiz94 => simp only [List.getElem?_toArray, List.getElem?_cons_zero, List.getElem?_cons_succ]; rfl
            case hQz94 => exact fun _ _ _ h => h
            case hyz94 => exact Or.inl ⟨by rfl, by intro w hSw; (try dsimp only at hSw); go_simp; with_reducible rfl⟩
            try simp only [Act.put, List.setIfInBounds_toArray, List.set_cons_zero, List.set_cons_succ]
            refine wpAnyH_take (i := 2) (oi := ?oiz95) (v := ?vz95) ?hiz95 (by kernel_rfl) (by kernel_rfl) (by kernel_rfl) ?hQz95 ?hyz95 (by assumption) ?restz95
            case hiz95 => simp only [List.getElem?_toArray, List.getElem?_cons_zero, List.getElem?_cons_succ]; rfl
            case hQz95 => exact fun _ _ _ h => h
            case hyz95 => exact Or.inl ⟨by rfl, by intro w hSw; (try dsimp only at hSw); go_simp; with_reducible rfl⟩
            try simp only [Act.put, List.setIfInBounds_toArray, List.set_cons_zero, List.set_cons_succ]
            refine wpAnyH_take (i := 3) (oi := ?oiz96) (v := ?vz96) ?hiz96 (by kernel_rfl) (by kernel_rfl) (by kernel_rfl) ?hQz96 ?hyz96 (by assumption) ?restz96
            case hiz96 => simp only [List.getElem?_toArray, List.getElem?_cons_zero, List.getElem?_cons_succ]; rfl
            case hQz96 => exact fun _ _ _ h => h
            case hyz96 => exact Or.inl ⟨by rfl, by intro w hSw; (try dsimp only at hSw); go_simp; with_reducible rfl⟩
            try simp only [Act.put, List.setIfInBounds_toArray, List.set_cons_zero, List.set_cons_succ]
            refine wpAnyH_take (i := 4) (oi := ?oiz97) (v := ?vz97) ?hiz97 (by kernel_rfl) (by kernel_rfl) (by kernel_rfl) ?hQz97 ?hyz97 (by assumption) ?restz97
            case hiz97 => simp only [List.getElem?_toArray, List.getElem?_cons_zero, List.getElem?_cons_succ]; rfl
            case hQz97 => exact fun _ _ _ h => h
            case hyz97 => exact Or.inl ⟨by rfl, by intro w hSw; (try dsimp only at hSw); go_simp; with_reducible rfl⟩
            try simp only [Act.put, List.setIfInBounds_toArray, List.set_cons_zero, List.set_cons_succ]
            refine wpAnyH_take (i := 5) (oi := ?oiz98) (v := ?vz98) ?hiz98 (by kernel_rfl) (by kernel_rfl) (by kernel_rfl) ?hQz98 ?hyz98 (by assumption) ?restz98
            case hiz98 => simp only [List.getElem?_toArray, List.getElem?_cons_zero, List.getElem?_cons_succ]; rfl
            case hQz98 => exact fun _ _ _ h => h
            case hyz98 => exact Or.inl ⟨by rfl, by intro w hSw; (try dsimp only at hSw); go_simp; with_reducible rfl⟩
            try simp only [Act.put, List.setIfInBounds_toArray, List.set_cons_zero, List.set_cons_succ]
            refine wpAnyH_take (i := 6) (oi := ?oiz99) (v := ?vz99) ?hiz99 (by kernel_rfl) (by kernel_rfl) (by kernel_rfl) ?hQz99 ?hyz99 (by assumption) ?restz99
            case hiz99 => simp only [List.getElem?_toArray, List.getElem?_cons_zero, List.getElem?_cons_succ]; rfl
            case hQz99 => exact fun _ _ _ h => h
            case hyz99 => exact Or.inl ⟨by rfl, by intro w hSw; (try dsimp only at hSw); go_simp; with_reducible rfl⟩
            try simp only [Act.put, List.setIfInBounds_toArray, List.set_cons_zero, List.set_cons_succ]
            refine wpAnyH_take (i := 7) (oi := ?oiz100) (v := ?vz100) ?hiz100 (by kernel_rfl) (by kernel_rfl) (by kernel_rfl) ?hQz100 ?hyz100 (by assumption) ?restz100
            case hiz100 => simp only [List.getElem?_toArray, List.getElem?_cons_zero, List.getElem?_cons_succ]; rfl
            case hQz100 => exact fun _ _ _ h => h
            case hyz100 => exact Or.inl ⟨by rfl, by intro w hSw; (try dsimp only at hSw); go_simp; with_reducible rfl⟩
            try simp only [Act.put, List.setIfInBounds_toArray, List.set_cons_zero, List.set_cons_succ]
            refine wpAnyH_done (by kernel_rfl) ?_ _
            clear d0 b0
            generalize w9.drew = wb at *
            have HXb := Lib.hid (HX9.out.trans hHeld)
            have HOb := Lib.hid (HO9.out.ext hHeld)
            clear hHeld
            go_wp2
            go_roundw
            case rel => exact ⟨k + 1, (R ++ [e], true), by omega, by go_num, rfl, by rw [HN.out, HST.out, HQ.out], HOb.out, by simp; omega, HXb.out⟩
            case measure => simp [intOf]; omega
          | false =>
            have h1' : Op.bytesLess L[k].1.toList e.1.toList = false := by rw [ltB_eq]; exact h1
            have hnm : L[k].1 ≠ e.1 := fun q => by rw [q] at h2; simp at h2
            have HQ := Lib.hid (show putStep e (R, false) L[k] = (R ++ [e] ++ [L[k]], true) by simp [putStep, h1, hnm, ltB_irrefl])
            clear h1 hnm
            have d0 : ∀ W, Ext wr W → W.cell? ⟨g, o + k * 2, none⟩ = some (.string L[k].1) := fun W hW => (HC.out W (HX.out.trans hW)).1
            have b0 : ∀ W, Ext wr W → W.cell? ⟨w.heap.size, 0, none⟩ = some (.string e.1) := fun W hW => (HB.out W (HX.out.trans hW)).1
            go_wp2_with fail
            refine wp_region_held_drew (S := fun W => Ext wr W) (by kernel_rfl) (Ext.refl _).drew (fun hHeld => ?_)
            refine wpAnyH_take (i := 0) (oi := ?oiz101) (v := ?vz101) ?hiz101 (by kernel_rfl) (by kernel_rfl) (by kernel_rfl) ?hQz101 ?hyz101 (by assumption) ?restz101
            case hiz101 => simp only [List.getElem?_toArray, List.getElem?_cons_zero, List.getElem?_cons_succ]; rfl
            case hQz101 => exact fun _ _ _ h => h
            case hyz101 => exact Or.inl ⟨by rfl, by intro w hSw; (try dsimp only at hSw); go_simp; with_reducible rfl⟩
            try simp only [Act.put, List.setIfInBounds_toArray, List.set_cons_zero, List.set_cons_succ]
            refine wpAnyH_take (i := 1) (oi := ?oiz102) (v := ?vz102) ?hiz102 (by kernel_rfl) (by kernel_rfl) (by kernel_rfl) ?hQz102 ?hyz102 (by assumption) ?restz102
            case hiz102 => simp only [List.getElem?_toArray, List.getElem?_cons_zero, List.getElem?_cons_succ]; rfl
            case hQz102 => exact fun _ _ _ h => h
            case hyz102 => exact Or.inl ⟨by rfl, by intro w hSw; (try dsimp only at hSw); go_simp; with_reducible rfl⟩
            try simp only [Act.put, List.setIfInBounds_toArray, List.set_cons_zero, List.set_cons_succ]
            refine wpAnyH_take (i := 2) (oi := ?oiz103) (v := ?vz103) ?hiz103 (by kernel_rfl) (by kernel_rfl) (by kernel_rfl) ?hQz103 ?hyz103 (by assumption) ?restz103
            case hiz103 => simp only [List.getElem?_toArray, List.getElem?_cons_zero, List.getElem?_cons_succ]; rfl
            case hQz103 => exact fun _ _ _ h => h
            case hyz103 => exact Or.inl ⟨by rfl, by intro w hSw; (try dsimp only at hSw); go_simp; with_reducible rfl⟩
            try simp only [Act.put, List.setIfInBounds_toArray, List.set_cons_zero, List.set_cons_succ]
            refine wpAnyH_take (i := 3) (oi := ?oiz104) (v := ?vz104) ?hiz104 (by kernel_rfl) (by kernel_rfl) (by kernel_rfl) ?hQz104 ?hyz104 (by assumption) ?restz104
            case hiz104 => simp only [List.getElem?_toArray, List.getElem?_cons_zero, List.getElem?_cons_succ]; rfl
            case hQz104 => exact fun _ _ _ h => h
            case hyz104 => exact Or.inl ⟨by rfl, by intro w hSw; (try dsimp only at hSw); go_simp; with_reducible rfl⟩
            try simp only [Act.put, List.setIfInBounds_toArray, List.set_cons_zero, List.set_cons_succ]
            refine wpAnyH_take (i := 4) (oi := ?oiz105) (v := ?vz105) ?hiz105 (by kernel_rfl) (by kernel_rfl) (by kernel_rfl) ?hQz105 ?hyz105 (by assumption) ?restz105
            case hiz105 => simp only [List.getElem?_toArray, List.getElem?_cons_zero, List.getElem?_cons_succ]; rfl
            case hQz105 => exact fun _ _ _ h => h
            case hyz105 => exact Or.inl ⟨by rfl, by intro w hSw; (try dsimp only at hSw); go_simp; with_reducible rfl⟩
            try simp only [Act.put, List.setIfInBounds_toArray, List.set_cons_zero, List.set_cons_succ]
            refine wpAnyH_take (i := 5) (oi := ?oiz106) (v := ?vz106) ?hiz106 (by kernel_rfl) (by kernel_rfl) (by kernel_rfl) ?hQz106 ?hyz106 (by assumption) ?restz106
            case hiz106 => simp only [List.getElem?_toArray, List.getElem?_cons_zero, List.getElem?_cons_succ]; rfl
            case hQz106 => exact fun _ _ _ h => h
            case hyz106 => exact Or.inl ⟨by rfl, by intro w hSw; (try dsimp only at hSw); go_simp; with_reducible rfl⟩
            try simp only [Act.put, List.setIfInBounds_toArray, List.set_cons_zero, List.set_cons_succ]
            refine wpAnyH_take (i := 6) (oi := ?oiz107) (v := ?vz107) ?hiz107 (by kernel_rfl) (by kernel_rfl) (by kernel_rfl) ?hQz107 ?hyz107 (by assumption) ?restz107
            case hiz107 => simp only [List.getElem?_toArray, List.getElem?_cons_zero, List.getElem?_cons_succ]; rfl
            case hQz107 => exact fun _ _ _ h => h
            case hyz107 => exact Or.inl ⟨by rfl, by intro w hSw; (try dsimp only at hSw); go_simp; with_reducible rfl⟩
            try simp only [Act.put, List.setIfInBounds_toArray, List.set_cons_zero, List.set_cons_succ]
            refine wpAnyH_take (i := 7) (oi := ?oiz108) (v := ?vz108) ?hiz108 (by kernel_rfl) (by kernel_rfl) (by kernel_rfl) ?hQz108 ?hyz108 (by assumption) ?restz108
            case hiz108 => simp only [List.getElem?_toArray, List.getElem?_cons_zero, List.getElem?_cons_succ]; rfl
            case hQz108 => exact fun _ _ _ h => h
            case hyz108 => exact Or.inl ⟨by rfl, by intro w hSw; (try dsimp only at hSw); go_simp; with_reducible rfl⟩
            try simp only [Act.put, List.setIfInBounds_toArray, List.set_cons_zero, List.set_cons_succ]
            refine wpAnyH_take (i := 8) (oi := ?oiz109) (v := ?vz109) ?hiz109 (by kernel_rfl) (by kernel_rfl) (by kernel_rfl) ?hQz109 ?hyz109 (by assumption) ?restz109
            case hiz109 => simp only [List.getElem?_toArray, List.getElem?_cons_zero, List.getElem?_cons_succ]; rfl
            case hQz109 => exact fun _ _ _ h => h
            case hyz109 => exact Or.inl ⟨by rfl, by intro w hSw; (try dsimp only at hSw); go_simp; with_reducible rfl⟩
            try simp only [Act.put, List.setIfInBounds_toArray, List.set_cons_zero, List.set_cons_succ]
            refine wpAnyH_take (i := 9) (oi := ?oiz110) (v := ?vz110) ?hiz110 (by kernel_rfl) (by kernel_rfl) (by kernel_rfl) ?hQz110 ?hyz110 (by assumption) ?restz110
            case hiz110 => simp only [List.getElem?_toArray, List.getElem?_cons_zero, List.getElem?_cons_succ]; rfl
            case hQz110 => exact fun _ _ _ h => h
            case hyz110 => exact Or.inl ⟨by rfl, by intro w hSw; (try dsimp only at hSw); go_simp; with_reducible rfl⟩
            try simp only [Act.put, List.setIfInBounds_toArray, List.set_cons_zero, List.set_cons_succ]
            refine wpAnyH_take (i := 10) (oi := ?oiz111) (v := ?vz111) ?hiz111 (by kernel_rfl) (by kernel_rfl) (by kernel_rfl) ?hQz111 ?hyz111 (by assumption) ?restz111
            case hiz111 => simp only [List.getElem?_toArray, List.getElem?_cons_zero, List.getElem?_cons_succ]; rfl
            case hQz111 => exact fun _ _ _ h => h
            case hyz111 => exact Or.inl ⟨by rfl, by intro w hSw; (try dsimp only at hSw); go_simp; with_reducible rfl⟩
            try simp only [Act.put, List.setIfInBounds_toArray, List.set_cons_zero, List.set_cons_succ]
            refine wpAnyH_take (i := 11) (oi := ?oiz112) (v := ?vz112) ?hiz112 (by kernel_rfl) (by kernel_rfl) (by kernel_rfl) ?hQz112 ?hyz112 (by assumption) ?restz112
            case hiz112 => simp only [List.getElem?_toArray, List.getElem?_cons_zero, List.getElem?_cons_succ]; rfl
            case hQz112 => exact fun _ _ _ h => h
            case hyz112 => exact Or.inl ⟨by rfl, by intro w hSw; (try dsimp only at hSw); go_simp; with_reducible rfl⟩
            try simp only [Act.put, List.setIfInBounds_toArray, List.set_cons_zero, List.set_cons_succ]
            refine wpAnyH_done (by kernel_rfl) ?_ _
            clear d0 b0
            generalize wr.drew = w0 at *
            have HXa := Lib.hid (HX.out.trans hHeld)
            have HOa := Lib.hid (HO.out.ext hHeld)
            clear hHeld HX HO
            have b0 := (HB.out w0 HXa.out).1
            have b1 := (HB.out w0 HXa.out).2
            go_wp2_with (first | (refine wpl_load ⟨w.heap.size, 0, none⟩ [.string e.1, .string e.2] aggEntryI rfl _ rfl rfl (fun j u hu => by rw [Addr.add_lit, Nat.zero_add]; match j, hu with | 0, hu => rw [b0]; simpa using hu | 1, hu => rw [b1]; simpa using hu) ?_) | (at_builtin; refine wpl_append rowEnt rfl _ _ rfl (v := .slice C cn cc) rfl (HOa.out.alloc _) _ _ rfl (A := some ⟨w0.heap.size, 0, none⟩) (ys := [e]) rfl (rd_ent w0 e _) (by intro y hy; obtain rfl := List.mem_singleton.1 hy; exact HE.out) (by simp only [List.length_append, List.length_singleton]; omega) (HXa.out.alloc _).size ?_; intro v9 w9 ho1 hg1 hat1; obtain ⟨C9, n9, c9, rfl⟩ := ho1.shape3; have HO9 := Lib.hid ho1; have HX9 := Lib.hid ((HOa.out.alloc (Obj.cells #[.string e.1, .string e.2] 29)).ext_app (HXa.out.alloc _) hg1); clear ho1 hg1 hat1))
            clear b0 b1
            have d0 : ∀ W, Ext w9 W → W.cell? ⟨g, o + k * 2, none⟩ = some (.string L[k].1) := fun W hW => (HC.out W (HX9.out.trans hW)).1
            have b0 : ∀ W, Ext w9 W → W.cell? ⟨w.heap.size, 0, none⟩ = some (.string e.1) := fun W hW => (HB.out W (HX9.out.trans hW)).1
            refine wp_region_held_drew (S := fun W => Ext w9 W) (by kernel_rfl) (Ext.refl _).drew (fun hHeld => ?_)
            refine wpAnyH_take (i := 0) (oi := ?oiz113) (v := ?vz113) ?hiz113 (by kernel_rfl) (by kernel_rfl) (by kernel_rfl) ?hQz113 ?hyz113 (by assumption) ?restz113
            case hiz113 => simp only [List.getElem?_toArray, List.getElem?_cons_zero, List.getElem?_cons_succ]; rfl
            case hQz113 => exact fun _ _ _ h => h
            case hyz113 => exact Or.inl ⟨by rfl, by intro w hSw; (try dsimp only at hSw); go_simp; with_reducible rfl⟩
            try simp only [Act.put, List.setIfInBounds_toArray, List.set_cons_zero, List.set_cons_succ]
            refine wpAnyH_take (i := 1) (oi := ?oiz114) (v := ?vz114) ?hiz114 (by kernel_rfl) (by kernel_rfl) (by kernel_rfl) ?hQz114 ?hyz114 (by assumption) ?restz114
            case hiz114 => simp only [List.getElem?_toArray, List.getElem?_cons_zero, List.getElem?_cons_succ]; rfl
            case hQz114 => exact fun _ _ _ h => h
            case hyz114 => exact Or.inl ⟨by rfl, by intro w hSw; (try dsimp only at hSw); go_simp; with_reducible rfl⟩
            try simp only [Act.put, List.setIfInBounds_toArray, List.set_cons_zero, List.set_cons_succ]
            refine wpAnyH_take (i := 2) (oi := ?oiz115) (v := ?vz115) ?hiz115 (by kernel_rfl) (by kernel_rfl) (by kernel_rfl) ?hQz115 ?hyz115 (by assumption) ?restz115
            case hiz115 => simp only [List.getElem?_toArray, List.getElem?_cons_zero, List.getElem?_cons_succ]; rfl
            case hQz115 => exact fun _ _ _ h => h
            case hyz115 => exact Or.inl ⟨by rfl, by intro w hSw; (try dsimp only at hSw); go_simp; with_reducible rfl⟩
            try simp only [Act.put, List.setIfInBounds_toArray, List.set_cons_zero, List.set_cons_succ]
            refine wpAnyH_take (i := 3) (oi := ?oiz116) (v := ?vz116) ?hiz116 (by kernel_rfl) (by kernel_rfl) (by kernel_rfl) ?hQz116 ?hyz116 (by assumption) ?restz116
            case hiz116 => simp only [List.getElem?_toArray, List.getElem?_cons_zero, List.getElem?_cons_succ]; rfl
            case hQz116 => exact fun _ _ _ h => h
            case hyz116 => exact Or.inl ⟨by rfl, by intro w hSw; (try dsimp only at hSw); go_simp; with_reducible rfl⟩
            try simp only [Act.put, List.setIfInBounds_toArray, List.set_cons_zero, List.set_cons_succ]
            refine wpAnyH_take (i := 4) (oi := ?oiz117) (v := ?vz117) ?hiz117 (by kernel_rfl) (by kernel_rfl) (by kernel_rfl) ?hQz117 ?hyz117 (by assumption) ?restz117
            case hiz117 => simp only [List.getElem?_toArray, List.getElem?_cons_zero, List.getElem?_cons_succ]; rfl
            case hQz117 => exact fun _ _ _ h => h
            case hyz117 => exact Or.inl ⟨by rfl, by intro w hSw; (try dsimp only at hSw); go_simp; with_reducible rfl⟩
            try simp only [Act.put, List.setIfInBounds_toArray, List.set_cons_zero, List.set_cons_succ]
            refine wpAnyH_take (i := 5) (oi := ?oiz118) (v := ?vz118) ?hiz118 (by kernel_rfl) (by kernel_rfl) (by kernel_rfl) ?hQz118 ?hyz118 (by assumption) ?restz118
            case hiz118 => simp only [List.getElem?_toArray, List.getElem?_cons_zero, List.getElem?_cons_succ]; rfl
            case hQz118 => exact fun _ _ _ h => h
            case hyz118 => exact Or.inl ⟨by rfl, by intro w hSw; (try dsimp only at hSw); go_simp; with_reducible rfl⟩
            try simp only [Act.put, List.setIfInBounds_toArray, List.set_cons_zero, List.set_cons_succ]
            refine wpAnyH_take (i := 6) (oi := ?oiz119) (v := ?vz119) ?hiz119 (by kernel_rfl) (by kernel_rfl) (by kernel_rfl) ?hQz119 ?hyz119 (by assumption) ?restz119
            case hiz119 => simp only [List.getElem?_toArray, List.getElem?_cons_zero, List.getElem?_cons_succ]; rfl
            case hQz119 => exact fun _ _ _ h => h
            case hyz119 => exact Or.inl ⟨by rfl, by intro w hSw; (try dsimp only at hSw); go_simp; with_reducible rfl⟩
            try simp only [Act.put, List.setIfInBounds_toArray, List.set_cons_zero, List.set_cons_succ]
            refine wpAnyH_take (i := 7) (oi := ?oiz120) (v := ?vz120) ?hiz120 (by kernel_rfl) (by kernel_rfl) (by kernel_rfl) ?hQz120 ?hyz120 (by assumption) ?restz120
            case hiz120 => simp only [List.getElem?_toArray, List.getElem?_cons_zero, List.getElem?_cons_succ]; rfl
            case hQz120 => exact fun _ _ _ h => h
            case hyz120 => exact Or.inl ⟨by rfl, by intro w hSw; (try dsimp only at hSw); go_simp; with_reducible rfl⟩
            try simp only [Act.put, List.setIfInBounds_toArray, List.set_cons_zero, List.set_cons_succ]
            refine wpAnyH_done (by kernel_rfl) ?_ _
            clear d0 b0
            generalize w9.drew = wb at *
            have HXb := Lib.hid (HX9.out.trans hHeld)
            have HOb := Lib.hid (HO9.out.ext hHeld)
            clear hHeld
            have d0 := (HC.out wb HXb.out).1
            have d1 := (HC.out wb HXb.out).2
            go_wp2_with (first | (refine wpl_load ⟨g, o + k * 2, none⟩ [.string L[k].1, .string L[k].2] aggEntryI rfl _ rfl rfl (fun j u hu => by rw [Addr.add_lit]; match j, hu with | 0, hu => rw [Nat.add_zero, d0]; simpa using hu | 1, hu => rw [d1]; simpa using hu) ?_) | (at_builtin; refine wpl_append rowEnt rfl _ _ rfl (v := .slice C9 n9 c9) rfl (HOb.out.alloc _) _ _ rfl (A := some ⟨wb.heap.size, 0, none⟩) (ys := [L[k]]) rfl (rd_ent wb L[k] _) (by intro y hy; obtain rfl := List.mem_singleton.1 hy; exact HX0.out) (by simp only [List.length_append, List.length_singleton]; omega) (HXb.out.alloc _).size ?_; intro vz wz ho1 hg1 hat1; obtain ⟨Cz, nz, cz, rfl⟩ := ho1.shape3; have HOz := Lib.hid ho1; have HXz := Lib.hid ((HOb.out.alloc (Obj.cells #[.string L[k].1, .string L[k].2] 29)).ext_app (HXb.out.alloc _) hg1); clear ho1 hg1 hat1))
            go_roundw
            case rel => exact ⟨k + 1, (R ++ [e] ++ [L[k]], true), by omega, by go_num, rfl, by rw [HN.out, HST.out, HQ.out], HOz.out, by simp; omega, HXz.out⟩
            case measure => simp [intOf]; omega
    · obtain rfl : k = L.length := by omega
      rw [List.take_length] at HST
      have HF := Lib.hid (show putF e L = (R, fl) from HST.out)
      cases fl with
      | true =>
        go_wp2
        go_ret
        exact ⟨_, rfl, by rw [HF.out]; exact HO.out.le HXX.out.size, HXX.out.trans HX.out⟩
      | false =>
        have b0 := (HB.out wr HX.out).1
        have b1 := (HB.out wr HX.out).2
        go_wp2_with (first
          | (refine wpl_load ⟨w.heap.size, 0, none⟩ [.string e.1, .string e.2] aggEntryI rfl _ rfl rfl (fun j u hu => by rw [Addr.add_lit, Nat.zero_add]; match j, hu with | 0, hu => rw [b0]; simpa using hu | 1, hu => rw [b1]; simpa using hu) ?_)
          | (at_builtin; refine wpl_append rowEnt rfl _ _ rfl (v := .slice C cn cc) rfl (HO.out.alloc _) _ _ rfl (A := some ⟨wr.heap.size, 0, none⟩) (ys := [e]) rfl (rd_ent wr e _) (by intro y hy; obtain rfl := List.mem_singleton.1 hy; exact HE.out) (by simp only [List.length_append, List.length_singleton]; omega) (HX.out.alloc _).size ?_; intro v9 w9 ho1 hg1 hat1; obtain ⟨C9, n9, c9, rfl⟩ := ho1.shape3; have HO9 := Lib.hid ho1; have HX9 := Lib.hid ((HO.out.alloc (Obj.cells #[.string e.1, .string e.2] 29)).ext_app (HX.out.alloc _) hg1); clear ho1 hg1 hat1))
        go_ret
        exact ⟨_, rfl, by rw [HF.out]; exact HO9.out.le HXX.out.size, HXX.out.trans HX9.out⟩
end Go.Proofs.Ytmndkbheehcoaaa
/- An entry put into a map: the reference. No condition. -/
namespace Go.Proofs.Ytmndkbheehcoaaa
open Go.RowKit
set_option linter.unusedVariables false
set_option linter.unusedSimpArgs false

def putR (L : List En) (e : En) : List En × Int := if okE L && entB e.1 e.2 then (if 64 < (putEnd e (putF e L)).length then ([], 3) else (putEnd e (putF e L), 0)) else ([], 1)
set_option maxHeartbeats 1000000 in
set_option maxRecDepth 100000 in
theorem specPutEntry_any (v : Value) (L : List En) (e : En) (he : tEnt.ok e) (w : World) (S : Nat → Prop) (h : RdL tEnt w S v L) :
    Calls Try.prog 66 #[v, .agg #[.string e.1, .string e.2]] w fun q w' => ∃ v', q = .returned (.tuple #[v', .int .i64 (putR L e).2]) ∧ Own tEnt 29 w' w.heap.size v' (putR L e).1 ∧ Ext w w' := by
  have hwx : ∃ wx, wx = w.alloc (.cells #[.string e.1, .string e.2] 29) := ⟨_, rfl⟩
  obtain ⟨wx, hwx⟩ := hwx
  have HB := Lib.hid (show ∀ W, Ext wx W → W.cell? ⟨w.heap.size, 0, none⟩ = some (.string e.1) ∧ W.cell? ⟨w.heap.size, 1, none⟩ = some (.string e.2) from fun W hW => by
    subst hwx
    exact ⟨hW.cell (by rw [(Blk.new w _ _).cell]; rfl), hW.cell (by rw [(Blk.new w _ _).cell]; rfl)⟩)
  have HXX := Lib.hid (show Ext w wx by subst hwx; exact ext_alloc _ _)
  have H := Lib.hid h
  have hc := l04Ok_any v L wx S (h.ext (by decide) HXX.out)
  have hn := fun W hW => l04Entry_any e.1 e.2 he.1 he.2 w.heap.size 0 W (HB.out W hW).1 (HB.out W hW).2
  have hp := fun W hW h64 => l04Put_any v L e he W S (h.ext (by decide) hW) h64
  obtain ⟨A, cap, rfl, hcap, hlen, _⟩ := h
  cases hb : okE L with
  | false =>
    simp only [putR, hb, Bool.false_and, Bool.false_eq_true, if_false]
    simp only [hb] at hc
    clear hb
    go_enter Try.func66, Try.ntmps66
    go_wp2_with fail
    rw [← hwx]
    refine hc.mono ?_
    rintro q w1 ⟨rfl, hx⟩
    have HX := Lib.hid (HXX.out.trans hx)
    clear hx hwx
    go_wp2
    go_ret2
    exact ⟨_, rfl, Own.empty tEnt _ 29 _ HX.out.size, HX.out.alloc _⟩
  | true =>
    obtain ⟨hinc, h64⟩ := okE_incs' hb
    simp only [hb] at hc
    cases hb2 : entB e.1 e.2 with
    | false =>
      simp only [putR, hb, hb2, Bool.and_false, Bool.false_eq_true, if_false]
      simp only [hb2] at hn
      clear hb hb2
      go_enter Try.func66, Try.ntmps66
      go_wp2_with fail
      rw [← hwx]
      refine hc.mono ?_
      rintro q w1 ⟨rfl, hx⟩
      have HX := Lib.hid hx
      have HX2 := Lib.hid (HXX.out.trans hx)
      clear hx hwx
      go_wp2_with fail
      refine (hn _ HX.out).mono ?_
      rintro q w' ⟨rfl, rfl⟩
      go_wp2
      go_ret2
      exact ⟨_, rfl, Own.empty tEnt _ 29 _ HX2.out.size, HX2.out.alloc _⟩
    | true =>
      simp only [putR, hb, hb2, Bool.and_true, if_true]
      simp only [hb2] at hn
      clear hb hb2
      obtain ⟨Z, hZ⟩ : ∃ Z, putEnd e (putF e L) = Z := ⟨_, rfl⟩
      simp only [hZ] at hp ⊢
      go_enter Try.func66, Try.ntmps66
      go_wp2_with fail
      rw [← hwx]
      refine hc.mono ?_
      rintro q w1 ⟨rfl, hx⟩
      have HX := Lib.hid hx
      have HX2 := Lib.hid (HXX.out.trans hx)
      clear hx hwx
      go_wp2_with fail
      refine (hn _ HX.out).mono ?_
      rintro q w' ⟨rfl, rfl⟩
      have b0 := (HB.out _ HX.out).1
      have b1 := (HB.out _ HX.out).2
      go_wp2_with (refine wpl_load ⟨w.heap.size, 0, none⟩ [.string e.1, .string e.2] aggEntryI rfl _ rfl rfl (fun j u hu => by rw [Addr.add_lit, Nat.zero_add]; match j, hu with | 0, hu => rw [b0]; simpa using hu | 1, hu => rw [b1]; simpa using hu) ?_)
      refine (hp _ HX2.out h64).mono ?_
      rintro q w2 ⟨v2, rfl, ho, hx⟩
      have HO := Lib.hid (ho.le (base' := w.heap.size) HX2.out.size)
      have HX3 := Lib.hid (HX2.out.trans hx)
      obtain ⟨A2, c2, rfl⟩ := ho.shape
      clear ho hx
      by_cases hl : 64 < Z.length
      · have hif := Lib.hid (show (if 64 < Z.length then (([], 3) : List En × Int) else (Z, 0)) = ([], 3) from if_pos hl)
        have hl2 : (64 : Int) < (Z.length : Int) := by omega
        go_wp2
        go_ret2
        exact ⟨_, by (try simp only [if_pos hl]); (try rw [if_pos hl]); rfl, by (try simp only [if_pos hl]); (try rw [if_pos hl]); exact Own.empty tEnt _ 29 _ HX3.out.size, HX3.out.alloc _⟩
      · have hif := Lib.hid (show (if 64 < Z.length then (([], 3) : List En × Int) else (Z, 0)) = (Z, 0) from if_neg hl)
        have hl2 : ¬ (64 : Int) < (Z.length : Int) := by omega
        go_wp2
        go_ret2
        exact ⟨_, by (try simp only [if_neg hl]); (try rw [if_neg hl]); rfl, by (try simp only [if_neg hl]); (try rw [if_neg hl]); exact HO.out, HX3.out⟩
end Go.Proofs.Ytmndkbheehcoaaa
/- The entries of a range: the program's predicate; the first entry outside. No condition. -/
namespace Go.Proofs.Ytmndkbheehcoaaa
open Go.RowKit
set_option linter.unusedVariables false
set_option linter.unusedSimpArgs false

set_option maxHeartbeats 400000 in
theorem cloneE_any (v : Value) (xs : List En) (w : World) (S : Nat → Prop) (h : RdL tEnt w S v xs) (hl : xs.length * 32 ≤ 140737488351232) :
    Calls Try.prog 120 #[v] w fun e w' => ∃ v', e = .returned v' ∧ Own tEnt 29 w' w.heap.size v' xs ∧ Ext w w' := by
  obtain ⟨A, cap, rfl, hcap, hlen, hrd, hok⟩ := h
  have Hrd := Lib.hid hrd
  have Hok := Lib.hid hok
  clear hrd hok
  rcases A with _ | ad
  · have h0 : xs.length = 0 := by
      rcases Nat.eq_zero_or_pos xs.length with h0 | h0
      · exact h0
      · obtain ⟨g, o, h, _⟩ := Hrd.out.2 h0
        cases h
    obtain rfl : xs = [] := List.eq_nil_of_length_eq_zero h0
    have he : ∀ W : World, (binOp .eql 34 (.slice none 0 cap) (.slice none 0 0)).run Try.prog W = .ok (.bool true) W := fun W => Lib.run_eql_slice_nil W 34 _ none 0 cap 0 0 Try.underlying34
    go_enter Try.func120, Try.ntmps120
    go_wp2_with fail
    go_ret
    exact ⟨_, rfl, Own.nil _ _ _ _, Ext.refl _⟩
  · have he : ∀ W : World, (binOp .eql 34 (.slice (some ad) xs.length cap) (.slice none 0 0)).run Try.prog W = .ok (.bool false) W := fun W => Lib.run_eql_slice_nil W 34 _ (some ad) xs.length cap 0 0 Try.underlying34
    go_enter Try.func120, Try.ntmps120
    go_wp2_with (at_builtin; refine wpl_append rowEnt rfl _ _ rfl rfl (Own.empty tEnt _ 29 w.heap.size (Nat.le_refl _)) _ _ rfl rfl (Hrd.out.ext (by decide) (ext_alloc _ _)) Hok.out (by simp; omega) (by simp) ?_; intro v1 w1 ho1 hg1 hat1; obtain ⟨A1, c1, rfl⟩ := ho1.shape; have HO := Lib.hid ho1; have HG := Lib.hid hg1; clear ho1 hg1 hat1)
    go_ret
    exact ⟨_, rfl, HO.out, (ext_alloc _ _).grown HG.out (fun k hk => Nat.le_of_eq (Option.some.inj hk))⟩


set_option maxHeartbeats 1000000 in
set_option maxRecDepth 100000 in
theorem rangeFn_any (e : En) (lo hi : ByteArray) (p r : Nat) (w : World) (hp : w.cell? ⟨p, 0, none⟩ = some (.string lo)) (hr : w.cell? ⟨r, 0, none⟩ = some (.string hi)) :
    Calls Try.prog 121 #[.agg #[.string e.1, .string e.2], .pointer (some ⟨p, 0, none⟩), .pointer (some ⟨r, 0, none⟩)] w fun q w' => q = .returned (.bool (!inR lo hi e)) ∧ Ext w w' := by
  have hp2 : ∀ o, (w.alloc o).cell? ⟨p, 0, none⟩ = some (.string lo) := fun o => (ext_alloc w o).cell hp
  have hr2 : ∀ o, (w.alloc o).cell? ⟨r, 0, none⟩ = some (.string hi) := fun o => (ext_alloc w o).cell hr
  cases h1 : ltB e.1 lo with
  | true =>
    have h1' : Op.bytesLess e.1.toList lo.toList = true := by rw [ltB_eq]; exact h1
    have HQ := Lib.hid (show inR lo hi e = false by rw [inR_eq, h1]; rfl)
    clear h1
    go_enter Try.func121, Try.ntmps121
    go_wp2
    go_ret
    exact ⟨by rw [HQ.out]; rfl, ext_alloc _ _⟩
  | false =>
    have h1' : Op.bytesLess e.1.toList lo.toList = false := by rw [ltB_eq]; exact h1
    have h2' : Op.bytesLess e.1.toList hi.toList = ltB e.1 hi := ltB_eq _ _
    have HQ := Lib.hid (show inR lo hi e = ltB e.1 hi by rw [inR_eq, h1]; rfl)
    clear h1
    go_enter Try.func121, Try.ntmps121
    go_wp2
    go_ret
    exact ⟨by rw [HQ.out]; rfl, ext_alloc _ _⟩
set_option maxHeartbeats 1000000 in
set_option maxRecDepth 100000 in
theorem rangeIdx_any (v : Value) (xs : List En) (lo hi : ByteArray) (p r : Nat) (w : World) (S : Nat → Prop) (h : RdL tEnt w S v xs) (hp : w.cell? ⟨p, 0, none⟩ = some (.string lo)) (hr : w.cell? ⟨r, 0, none⟩ = some (.string hi)) :
    Calls Try.prog 157 #[v, .func (.func 121) #[] #[.pointer (some ⟨p, 0, none⟩), .pointer (some ⟨r, 0, none⟩)]] w fun q w' => (∃ k : Nat, k ≤ xs.length ∧ (∀ j (hj : j < xs.length), j < k → inR lo hi xs[j] = true) ∧ ((k = xs.length ∧ q = .returned (.int .i64 (-1))) ∨ (∃ hk : k < xs.length, inR lo hi xs[k] = false ∧ q = .returned (.int .i64 k)))) ∧ Ext w w' := by
  obtain ⟨A, cap, rfl, hcap, hlen, hrd, hok⟩ := h
  have Hrd := Lib.hid hrd
  have Hok := Lib.hid hok
  have HP := Lib.hid hp
  have HR := Lib.hid hr
  clear hrd hok hp hr
  go_enter Try.func157, Try.ntmps157
  go_wp2
  go_loopw [8] (fun i wr => ∃ k : Nat, k ≤ xs.length ∧ i = .int .i64 k ∧ (∀ j (hj : j < xs.length), j < k → inR lo hi xs[j] = true) ∧ Ext w wr) (fun i _ => xs.length - (intOf i).toNat)
  case atStart => exact ⟨0, by omega, rfl, fun j hj h => by omega, Ext.refl _⟩
  case round =>
    obtain ⟨k, hk, rfl, hm, hx⟩ := hrel
    have HX := Lib.hid hx
    have HM := Lib.hid hm
    clear hx hm
    by_cases hlt : k < xs.length
    · obtain ⟨g, o, rfl, hs0, hc⟩ := Hrd.out.elem Hok.out k hlt
      have HD0 := Lib.hid (show ∀ j u, (tEnt.enc xs[k])[j]? = some u → wr.cell? ⟨g, o + k * 2 + j, none⟩ = some u from fun j u hu => HX.out.cell (hc j u hu))
      have hf := rangeFn_any xs[k] lo hi p r wr (HX.out.cell HP.out) (HX.out.cell HR.out)
      have hk0 : (0 : Int) ≤ (k : Int) := by omega
      have hk2 : (k : Int) < (xs.length : Int) := by omega
      clear hc
      cases hq : inR lo hi xs[k] with
      | true =>
        simp only [hq] at hf
        go_wp2_with (refine wpl_load ⟨g, o + k * 2, none⟩ [.string xs[k].1, .string xs[k].2] aggEntryI rfl _ rfl rfl (fun j u hu => by rw [Addr.add_lit]; exact HD0.out j u hu) ?_)
        refine hf.mono ?_
        rintro e w1 ⟨rfl, hx⟩
        have HX1 := Lib.hid (HX.out.trans hx)
        clear hx hf
        go_wp2
        go_roundw
        case rel => exact ⟨k + 1, by omega, by go_num, fun j hj h => by
          by_cases e : j = k
          · subst e; exact hq
          · exact HM.out j hj (by omega), HX1.out⟩
        case measure => simp [intOf]; omega
      | false =>
        simp only [hq] at hf
        go_wp2_with (refine wpl_load ⟨g, o + k * 2, none⟩ [.string xs[k].1, .string xs[k].2] aggEntryI rfl _ rfl rfl (fun j u hu => by rw [Addr.add_lit]; exact HD0.out j u hu) ?_)
        refine hf.mono ?_
        rintro e w1 ⟨rfl, hx⟩
        have HX1 := Lib.hid (HX.out.trans hx)
        clear hx hf
        go_wp2
        go_ret
        exact ⟨⟨k, hk, HM.out, .inr ⟨hlt, hq, rfl⟩⟩, HX1.out⟩
    · obtain rfl : k = xs.length := by omega
      go_wp2
      go_ret
      exact ⟨⟨xs.length, hk, HM.out, .inl ⟨rfl, rfl⟩⟩, HX.out⟩
end Go.Proofs.Ytmndkbheehcoaaa
/- An entry put into a map: the program. No condition. -/
namespace Go.Proofs.Ytmndkbheehcoaaa
open Go.RowKit
set_option linter.unusedVariables false
set_option linter.unusedSimpArgs false

def putI (L : List En) (e : En) : List En × Int := if hasE L e.1 then (L.set (posE L e.1) e, 0) else if L.length = 64 then ([], 3) else (insR L (posE L e.1) e, 0)
/-- both make the same -/
theorem putI_eq {L : List En} {e : En} (hb : okE L = true) (hb2 : entB e.1 e.2 = true) : putR L e = putI L e := by
  obtain ⟨hinc, h64⟩ := okE_incs' hb
  have hp := (posE_facts L e.1).1
  simp only [putR, hb, hb2, Bool.and_true, if_true, putF_eq hinc, putI]
  cases hh : hasE L e.1 with
  | true =>
    have hlt := hasE_lt' hh
    have e1 : L.set (posE L e.1) e = L.take (posE L e.1) ++ [e] ++ L.drop (posE L e.1 + 1) := by
      rw [List.set_eq_take_append_cons_drop, if_pos hlt, List.append_assoc, List.singleton_append]
    have e2 : (L.take (posE L e.1) ++ [e] ++ L.drop (posE L e.1 + 1)).length = L.length := by rw [← e1, List.length_set]
    simp only [if_true]
    rw [e2, if_neg (by omega), e1]
  | false =>
    have e1 : (L.take (posE L e.1) ++ [e] ++ L.drop (posE L e.1)).length = L.length + 1 := insR_length e hp
    simp only [Bool.false_eq_true, if_false]
    rw [e1]
    by_cases h : L.length = 64
    · rw [if_pos (by omega), if_pos h]
    · rw [if_neg (by omega), if_neg h]; rfl
set_option maxHeartbeats 1000000 in
set_option maxRecDepth 100000 in
theorem put_any (v : Value) (L : List En) (e : En) (he : tEnt.ok e) (hinc : incs L L.length = true) (h64 : L.length ≤ 64) (w : World) (S : Nat → Prop) (h : RdL tEnt w S v L) :
    Calls Try.prog 127 #[v, .agg #[.string e.1, .string e.2]] w fun q w' => ∃ v', q = .returned (.tuple #[v', .int .i64 (putI L e).2]) ∧ Own tEnt 29 w' w.heap.size v' (putI L e).1 ∧ Ext w w' := by
  have hpl := (posE_facts L e.1).1
  have hwx : ∃ wx, wx = w.alloc (.cells #[.string e.1, .string e.2] 29) := ⟨_, rfl⟩
  obtain ⟨wx, hwx⟩ := hwx
  have HB := Lib.hid (show ∀ W, Ext wx W → W.cell? ⟨w.heap.size, 0, none⟩ = some (.string e.1) ∧ W.cell? ⟨w.heap.size, 1, none⟩ = some (.string e.2) from fun W hW => by
    subst hwx
    exact ⟨hW.cell (by rw [(Blk.new w _ _).cell]; rfl), hW.cell (by rw [(Blk.new w _ _).cell]; rfl)⟩)
  have HXX := Lib.hid (show Ext w wx by subst hwx; exact ext_alloc _ _)
  have HSX := Lib.hid (show wx.heap.size = w.heap.size + 1 by subst hwx; simp)
  have H := Lib.hid h
  have hclone := cloneE_any v L wx S (h.ext (by decide) HXX.out) (by omega)
  obtain ⟨k, hk⟩ : ∃ k, posE L e.1 = k := ⟨_, rfl⟩
  have hf := fun v W S hW => find_any v L hinc e.1 W S hW
  rw [hk] at hpl
  simp only [hk] at hf
  obtain ⟨A, cap, rfl, hcap, hlen, _⟩ := h
  cases hh : hasE L e.1 with
  | true =>
    have hlt := hasE_lt' hh
    rw [hk] at hlt
    simp only [putI, hh, if_true, hk]
    simp only [hh] at hf
    clear hh hk hinc
    go_enter Try.func127, Try.ntmps127
    go_wp2_with fail
    rw [← hwx]
    refine hclone.mono ?_
    rintro q w1 ⟨v1, rfl, ho, hx⟩
    have b0 := (HB.out _ hx).1
    have hr := ho.rd
    have hbw := ho.base_le
    have HO := Lib.hid ho
    have HX := Lib.hid (HXX.out.trans hx)
    have HX0 := Lib.hid hx
    obtain ⟨A1, c1, rfl⟩ := ho.shape
    clear ho hx hclone hwx
    go_wp2_with fail
    refine (hf _ w1 _ hr).mono ?_
    rintro q w2 ⟨rfl, hx⟩
    have b0 := (HB.out _ (HX0.out.trans hx)).1
    have b1 := (HB.out _ (HX0.out.trans hx)).2
    have HX2 := Lib.hid (HX.out.trans hx)
    have ho2 := HO.out.ext hx
    obtain ⟨g, cap2, cur, hv, hgb, hgl, hB, hcs, hnc, hcm, hat⟩ := at_of_own ho2 (by omega)
    injection hv with hv1 hv2 hv3
    subst hv1 hv3
    have HB2 := Lib.hid hB
    have HAT := Lib.hid hat
    have HOK := Lib.hid HO.out.2.2
    have hst : St 2 #[.string e.1, .string e.2] := ⟨rfl, fun u hu => by simp at hu; rcases hu with rfl | rfl <;> rfl⟩
    have hne : w.heap.size ≠ g := by have := HSX.out; omega
    have i1 : (0 : Int) ≤ (k : Int) := by omega
    have i2 : (k : Int) < (L.length : Int) := by omega
    clear hx hat hB ho2 HO hr hbw hf
    go_wp2_with (first
      | (refine wpl_load ⟨w.heap.size, 0, none⟩ [.string e.1, .string e.2] aggEntryI rfl _ rfl rfl (fun j u hu => by rw [Addr.add_lit, Nat.zero_add]; match j, hu with | 0, hu => rw [b0]; simpa using hu | 1, hu => rw [b1]; simpa using hu) ?_)
      | (refine wpl_storeP (off := k * 2) HB2.out aggEntryI hst (by rw [hcs]; omega) rfl _ _ rfl rfl rfl rfl ?_))
    go_ret2
    refine ⟨_, rfl, ?_, HX2.out.setRow (by have := HSX.out; omega) _⟩
    have hfit : k * 2 + 2 ≤ cur.size := by rw [hcs]; omega
    have hsz : (splice cur (k * 2) [.string e.1, .string e.2]).size = c1 * 2 := by rw [splice_size _ _ _ hfit, hcs]
    have := own_of_at (base := w.heap.size) (cap := c1) (xs := L.set k e) (HB2.out.setRow (splice cur (k * 2) [.string e.1, .string e.2])) (by have := HSX.out; omega) hsz (by rw [List.length_set]; exact hnc) hcm (by rw [List.length_set]; omega) (fun x hx => by
      rcases List.mem_or_eq_of_mem_set hx with hx | rfl
      · exact HOK.out x hx
      · exact he) (fun i hi => by
      rw [List.length_set] at hi
      rw [List.getElem_set]
      split
      · subst_vars
        exact at_put cur _ e hfit
      · exact at_far hfit (by omega) (HAT.out i hi))
    rw [List.length_set] at this
    exact this
  | false =>
    by_cases hl : L.length = 64
    · simp only [putI, hh, Bool.false_eq_true, if_false, if_pos hl]
      simp only [hh] at hf
      have l1 : ((L.length : Int) == 64) = true := by rw [hl]; rfl
      have HL := Lib.hid hl
      clear hh hk hinc hl
      go_enter Try.func127, Try.ntmps127
      go_wp2_with fail
      rw [← hwx]
      refine hclone.mono ?_
      rintro q w1 ⟨v1, rfl, ho, hx⟩
      have b0 := (HB.out _ hx).1
      have hr := ho.rd
      have HX := Lib.hid (HXX.out.trans hx)
      obtain ⟨A1, c1, rfl⟩ := ho.shape
      clear ho hx hclone hwx
      go_wp2_with fail
      refine (hf _ w1 _ hr).mono ?_
      rintro q w2 ⟨rfl, hx⟩
      have HX2 := Lib.hid (HX.out.trans hx)
      clear hx hr hf
      go_wp2
      go_ret2
      exact ⟨_, rfl, Own.nil _ _ _ _, HX2.out⟩
    · simp only [putI, hh, Bool.false_eq_true, if_false, if_neg hl, hk]
      simp only [hh] at hf
      have l1 : ((L.length : Int) == 64) = false := by rw [beq_eq_false_iff_ne]; omega
      clear hh hk hinc
      go_enter Try.func127, Try.ntmps127
      go_wp2_with fail
      rw [← hwx]
      refine hclone.mono ?_
      rintro q w1 ⟨v1, rfl, ho, hx⟩
      have b0 := (HB.out _ hx).1
      have hr := ho.rd
      have HX := Lib.hid (HXX.out.trans hx)
      have HX0 := Lib.hid hx
      have HO := Lib.hid ho
      obtain ⟨A1, c1, rfl⟩ := ho.shape
      clear ho hx hclone hwx
      go_wp2_with fail
      refine (hf _ w1 _ hr).mono ?_
      rintro q w2 ⟨rfl, hx⟩
      have b0 := (HB.out _ (HX0.out.trans hx)).1
      have b1 := (HB.out _ (HX0.out.trans hx)).2
      have HX2 := Lib.hid (HX.out.trans hx)
      have HX20 := Lib.hid (HX0.out.trans hx)
      have HO2 := Lib.hid (HO.out.ext hx)
      have HW := Lib.hid (show wx.heap.size ≤ w2.heap.size from HX20.out.size)
      have HBL := Lib.hid HO2.out.base_le
      have hins := insE_any _ L k e he (w2.alloc (.cells #[.string e.1, .string e.2] 29)) wx.heap.size w2.heap.size 29 (HO2.out.alloc _) hpl h64 (Blk.new w2 _ _) (by have := HW.out; simp; omega) (fun h => by have := HBL.out _ h; omega)
      clear hx hr hf HO
      go_wp2_with (refine wpl_load ⟨w.heap.size, 0, none⟩ [.string e.1, .string e.2] aggEntryI rfl _ rfl rfl (fun j u hu => by rw [Addr.add_lit, Nat.zero_add]; match j, hu with | 0, hu => rw [b0]; simpa using hu | 1, hu => rw [b1]; simpa using hu) ?_)
      refine hins.mono ?_
      rintro q w3 ⟨v3, rfl, ho, hg⟩
      have HO3 := Lib.hid (ho.le (base' := w.heap.size) (by have := HSX.out; omega))
      have HX3 := Lib.hid ((HX2.out.alloc _).grown hg (fun q hq => by have := HBL.out q hq; have := HSX.out; omega))
      clear ho hg hins
      go_wp2
      go_ret2
      exact ⟨_, rfl, HO3.out, HX3.out⟩
set_option maxHeartbeats 1000000 in
set_option maxRecDepth 100000 in
theorem implPutEntry_any (v : Value) (L : List En) (e : En) (he : tEnt.ok e) (w : World) (S : Nat → Prop) (h : RdL tEnt w S v L) :
    Calls Try.prog 65 #[v, .agg #[.string e.1, .string e.2]] w fun q w' => ∃ v', q = .returned (.tuple #[v', .int .i64 (putR L e).2]) ∧ Own tEnt 29 w' w.heap.size v' (putR L e).1 ∧ Ext w w' := by
  have hwx : ∃ wx, wx = w.alloc (.cells #[.string e.1, .string e.2] 29) := ⟨_, rfl⟩
  obtain ⟨wx, hwx⟩ := hwx
  have HB := Lib.hid (show ∀ W, Ext wx W → W.cell? ⟨w.heap.size, 0, none⟩ = some (.string e.1) ∧ W.cell? ⟨w.heap.size, 1, none⟩ = some (.string e.2) from fun W hW => by
    subst hwx
    exact ⟨hW.cell (by rw [(Blk.new w _ _).cell]; rfl), hW.cell (by rw [(Blk.new w _ _).cell]; rfl)⟩)
  have HXX := Lib.hid (show Ext w wx by subst hwx; exact ext_alloc _ _)
  have H := Lib.hid h
  have hc := validEntries_any v L wx S (h.ext (by decide) HXX.out)
  have hn := fun W => validEntry_any e.1 e.2 he.1 he.2 W
  have hp := fun hb W hW => put_any v L e he (okE_incs' hb).1 (okE_incs' hb).2 W S (h.ext (by decide) hW)
  obtain ⟨A, cap, rfl, hcap, hlen, _⟩ := h
  cases hb : okE L with
  | false =>
    simp only [putR, hb, Bool.false_and, Bool.false_eq_true, if_false]
    simp only [hb] at hc
    clear hb hp
    go_enter Try.func65, Try.ntmps65
    go_wp2_with fail
    rw [← hwx]
    refine hc.mono ?_
    rintro q w1 ⟨rfl, hx⟩
    have HX := Lib.hid (HXX.out.trans hx)
    clear hx hwx
    go_wp2
    go_ret2
    exact ⟨_, rfl, Own.nil _ _ _ _, HX.out⟩
  | true =>
    simp only [hb] at hc
    cases hb2 : entB e.1 e.2 with
    | false =>
      simp only [putR, hb, hb2, Bool.and_false, Bool.false_eq_true, if_false]
      simp only [hb2] at hn
      clear hb hb2 hp
      go_enter Try.func65, Try.ntmps65
      go_wp2_with fail
      rw [← hwx]
      refine hc.mono ?_
      rintro q w1 ⟨rfl, hx⟩
      have HX := Lib.hid (HXX.out.trans hx)
      have b0 := (HB.out _ hx).1
      have b1 := (HB.out _ hx).2
      clear hx hwx
      go_wp2_with (refine wpl_load ⟨w.heap.size, 0, none⟩ [.string e.1, .string e.2] aggEntryI rfl _ rfl rfl (fun j u hu => by rw [Addr.add_lit, Nat.zero_add]; match j, hu with | 0, hu => rw [b0]; simpa using hu | 1, hu => rw [b1]; simpa using hu) ?_)
      refine (hn _).mono ?_
      rintro q w2 ⟨rfl, hx⟩
      have HX2 := Lib.hid (HX.out.trans hx)
      clear hx
      go_wp2
      go_ret2
      exact ⟨_, rfl, Own.nil _ _ _ _, HX2.out⟩
    | true =>
      rw [putI_eq hb hb2]
      simp only [hb2] at hn
      replace hp := hp hb
      clear hb hb2
      go_enter Try.func65, Try.ntmps65
      go_wp2_with fail
      rw [← hwx]
      refine hc.mono ?_
      rintro q w1 ⟨rfl, hx⟩
      have HX := Lib.hid (HXX.out.trans hx)
      have HX0 := Lib.hid hx
      have b0 := (HB.out _ hx).1
      have b1 := (HB.out _ hx).2
      clear hx hwx
      go_wp2_with (refine wpl_load ⟨w.heap.size, 0, none⟩ [.string e.1, .string e.2] aggEntryI rfl _ rfl rfl (fun j u hu => by rw [Addr.add_lit, Nat.zero_add]; match j, hu with | 0, hu => rw [b0]; simpa using hu | 1, hu => rw [b1]; simpa using hu) ?_)
      refine (hn _).mono ?_
      rintro q w2 ⟨rfl, hx⟩
      have HX2 := Lib.hid (HX.out.trans hx)
      have b0 := (HB.out _ (HX0.out.trans hx)).1
      have b1 := (HB.out _ (HX0.out.trans hx)).2
      clear hx
      go_wp2_with (refine wpl_load ⟨w.heap.size, 0, none⟩ [.string e.1, .string e.2] aggEntryI rfl _ rfl rfl (fun j u hu => by rw [Addr.add_lit, Nat.zero_add]; match j, hu with | 0, hu => rw [b0]; simpa using hu | 1, hu => rw [b1]; simpa using hu) ?_)
      refine (hp _ HX2.out).mono ?_
      rintro q w3 ⟨v3, rfl, ho, hx⟩
      have HO := Lib.hid (ho.le (base' := w.heap.size) HX2.out.size)
      have HX3 := Lib.hid (HX2.out.trans hx)
      obtain ⟨A3, n3, c3, rfl⟩ := ho.shape3
      clear ho hx
      go_wp2
      go_ret2
      exact ⟨_, rfl, HO.out, HX3.out⟩
end Go.Proofs.Ytmndkbheehcoaaa
/- The value of a name in a map: the reference and the program. No condition. -/
namespace Go.Proofs.Ytmndkbheehcoaaa
open Go.RowKit
set_option linter.unusedVariables false
set_option linter.unusedSimpArgs false

def getR (L : List En) (s : ByteArray) : ByteArray × Int := if okE L && nameB s then (if hasE L s then ((gE L (posE L s)).2, 0) else (⟨#[]⟩, 6)) else (⟨#[]⟩, 1)
theorem okE_incs {L : List En} (h : okE L = true) : incs L L.length = true ∧ L.length ≤ 64 := by
  rw [okE_eq] at h
  simpa using h
theorem hasE_lt {L : List En} {s : ByteArray} (h : hasE L s = true) : posE L s < L.length := by
  rw [hasE_eq] at h
  simp at h
  exact h.1
set_option maxHeartbeats 1000000 in
set_option maxRecDepth 100000 in
theorem specGetEntry_any (v : Value) (L : List En) (s : ByteArray) (hsz : s.size ≤ 140737488351232) (w : World) (S : Nat → Prop) (h : RdL tEnt w S v L) :
    Calls Try.prog 53 #[v, .string s] w fun e w' => e = .returned (.tuple #[.string (getR L s).1, .int .i64 (getR L s).2]) ∧ Ext w w' := by
  have H := Lib.hid h
  have hc := l04Ok_any v L w S h
  have hn := l04Name_any s hsz
  obtain ⟨A, cap, rfl, hcap, hlen, _⟩ := h
  cases hb : okE L with
  | false =>
    simp only [getR, hb, Bool.false_and, Bool.false_eq_true, if_false]
    simp only [hb] at hc
    clear hb
    go_enter Try.func53, Try.ntmps53
    go_wp2_with fail
    refine hc.mono ?_
    rintro e w1 ⟨rfl, hx⟩
    have HX := Lib.hid hx
    clear hx
    go_wp2
    go_ret2
    exact ⟨rfl, HX.out⟩
  | true =>
    obtain ⟨hinc, h64⟩ := okE_incs hb
    have HI := Lib.hid hinc
    simp only [hb] at hc
    cases hb2 : nameB s with
    | false =>
      simp only [getR, hb, hb2, Bool.and_false, Bool.false_eq_true, if_false]
      simp only [hb2] at hn
      clear hb hb2 hinc
      go_enter Try.func53, Try.ntmps53
      go_wp2_with fail
      refine hc.mono ?_
      rintro e w1 ⟨rfl, hx⟩
      have HX := Lib.hid hx
      clear hx
      go_wp2_with fail
      refine (hn _).mono ?_
      rintro e w' ⟨rfl, rfl⟩
      go_wp2
      go_ret2
      exact ⟨rfl, HX.out⟩
    | true =>
      simp only [hb2] at hn
      have HF := Lib.hid (findI_eq L s)
      cases hb3 : hasE L s with
      | false =>
        simp only [getR, hb, hb2, hb3, Bool.and_true, if_true, Bool.false_eq_true, if_false]
        have e : findI L s = -1 := by rw [HF.out, hb3]; rfl
        have hf := fun W hW => l04Find_any (.slice A L.length cap) L HI.out s W S hW
        simp only [e] at hf
        clear hb hb2 hb3 hinc e
        go_enter Try.func53, Try.ntmps53
        go_wp2_with fail
        refine hc.mono ?_
        rintro e w1 ⟨rfl, hx⟩
        have HX := Lib.hid hx
        clear hx
        go_wp2_with fail
        refine (hn _).mono ?_
        rintro e w' ⟨rfl, rfl⟩
        go_wp2_with fail
        refine (hf _ (H.out.ext (by decide) HX.out)).mono ?_
        rintro e w' ⟨rfl, rfl⟩
        go_wp2
        go_ret2
        exact ⟨rfl, HX.out⟩
      | true =>
        simp only [getR, hb, hb2, hb3, Bool.and_true, if_true]
        have hlt := hasE_lt hb3
        obtain ⟨k, hk⟩ : ∃ k, posE L s = k := ⟨_, rfl⟩
        have e : findI L s = k := by rw [HF.out, hb3, hk]; rfl
        rw [hk] at hlt ⊢
        have hf := fun W hW => l04Find_any (.slice A L.length cap) L HI.out s W S hW
        simp only [e] at hf
        rw [gE_lt hlt]
        clear hb hb2 hb3 hinc e hk HF
        have hi : (0 : Int) ≤ (k : Int) := by omega
        have hi2 : (k : Int) < (L.length : Int) := by omega
        go_enter Try.func53, Try.ntmps53
        go_wp2_with fail
        refine hc.mono ?_
        rintro e w1 ⟨rfl, hx⟩
        have HX := Lib.hid hx
        clear hx
        go_wp2_with fail
        refine (hn _).mono ?_
        rintro e w' ⟨rfl, rfl⟩
        go_wp2_with fail
        refine (hf _ (H.out.ext (by decide) HX.out)).mono ?_
        rintro e w' ⟨rfl, rfl⟩
        obtain ⟨A2, cap2, e, _, _, hrd, hok⟩ := H.out
        injection e with e1 e2 e3
        subst e1 e3
        obtain ⟨g, o, rfl, hs0, hc2⟩ := hrd.elem hok k hlt
        have d1 : w1.cell? ⟨g, o + k * 2 + 1, none⟩ = some (.string L[k].2) := HX.out.cell (hc2 1 _ rfl)
        clear hrd hok hc2
        go_wp2
        go_ret2
        exact ⟨rfl, HX.out⟩
set_option maxHeartbeats 1000000 in
set_option maxRecDepth 100000 in
theorem implGetEntry_any (v : Value) (L : List En) (s : ByteArray) (hsz : s.size ≤ 140737488351232) (w : World) (S : Nat → Prop) (h : RdL tEnt w S v L) :
    Calls Try.prog 64 #[v, .string s] w fun e w' => e = .returned (.tuple #[.string (getR L s).1, .int .i64 (getR L s).2]) ∧ Ext w w' := by
  have H := Lib.hid h
  have hc := validEntries_any v L w S h
  have hn := isName_any s hsz
  obtain ⟨A, cap, rfl, hcap, hlen, _⟩ := h
  cases hb : okE L with
  | false =>
    simp only [getR, hb, Bool.false_and, Bool.false_eq_true, if_false]
    simp only [hb] at hc
    clear hb
    go_enter Try.func64, Try.ntmps64
    go_wp2_with fail
    refine hc.mono ?_
    rintro e w1 ⟨rfl, hx⟩
    have HX := Lib.hid hx
    clear hx
    go_wp2
    go_ret2
    exact ⟨rfl, HX.out⟩
  | true =>
    obtain ⟨hinc, h64⟩ := okE_incs hb
    have HI := Lib.hid hinc
    simp only [hb] at hc
    cases hb2 : nameB s with
    | false =>
      simp only [getR, hb, hb2, Bool.and_false, Bool.false_eq_true, if_false]
      simp only [hb2] at hn
      clear hb hb2 hinc
      go_enter Try.func64, Try.ntmps64
      go_wp2_with fail
      refine hc.mono ?_
      rintro e w1 ⟨rfl, hx⟩
      have HX := Lib.hid hx
      clear hx
      go_wp2_with fail
      refine (hn _).mono ?_
      rintro e w' ⟨rfl, rfl⟩
      go_wp2
      go_ret2
      exact ⟨rfl, HX.out⟩
    | true =>
      simp only [hb2] at hn
      have hf := fun W hW => find_any (.slice A L.length cap) L HI.out s W S hW
      cases hb3 : hasE L s with
      | false =>
        simp only [getR, hb, hb2, hb3, Bool.and_true, if_true, Bool.false_eq_true, if_false]
        simp only [hb3] at hf
        clear hb hb2 hb3 hinc
        go_enter Try.func64, Try.ntmps64
        go_wp2_with fail
        refine hc.mono ?_
        rintro e w1 ⟨rfl, hx⟩
        have HX := Lib.hid hx
        clear hx
        go_wp2_with fail
        refine (hn _).mono ?_
        rintro e w' ⟨rfl, rfl⟩
        go_wp2_with fail
        refine (hf _ (H.out.ext (by decide) HX.out)).mono ?_
        rintro e w2 ⟨rfl, hx⟩
        have HX2 := Lib.hid (HX.out.trans hx)
        clear hx
        go_wp2
        go_ret2
        exact ⟨rfl, HX2.out⟩
      | true =>
        simp only [getR, hb, hb2, hb3, Bool.and_true, if_true]
        have hlt := hasE_lt hb3
        simp only [hb3] at hf
        obtain ⟨k, hk⟩ : ∃ k, posE L s = k := ⟨_, rfl⟩
        rw [hk] at hlt ⊢
        simp only [hk] at hf
        rw [gE_lt hlt]
        clear hb hb2 hb3 hinc hk
        have hi : (0 : Int) ≤ (k : Int) := by omega
        have hi2 : (k : Int) < (L.length : Int) := by omega
        go_enter Try.func64, Try.ntmps64
        go_wp2_with fail
        refine hc.mono ?_
        rintro e w1 ⟨rfl, hx⟩
        have HX := Lib.hid hx
        clear hx
        go_wp2_with fail
        refine (hn _).mono ?_
        rintro e w' ⟨rfl, rfl⟩
        go_wp2_with fail
        refine (hf _ (H.out.ext (by decide) HX.out)).mono ?_
        rintro e w2 ⟨rfl, hx⟩
        have HX2 := Lib.hid (HX.out.trans hx)
        clear hx
        obtain ⟨A2, cap2, e, _, _, hrd, hok⟩ := H.out
        injection e with e1 e2 e3
        subst e1 e3
        obtain ⟨g, o, rfl, hs0, hc2⟩ := hrd.elem hok k hlt
        have d1 : w2.cell? ⟨g, o + k * 2 + 1, none⟩ = some (.string L[k].2) := HX2.out.cell (hc2 1 _ rfl)
        clear hrd hok hc2
        go_wp2
        go_ret2
        exact ⟨rfl, HX2.out⟩

end Go.Proofs.Ytmndkbheehcoaaa
/- A name struck out of a map: the program. No condition. -/
namespace Go.Proofs.Ytmndkbheehcoaaa
open Go.RowKit
set_option linter.unusedVariables false
set_option linter.unusedSimpArgs false

theorem notN_true {s : ByteArray} {e : En} (h : e.1 ≠ s) : notN s e = true := by
  rw [notN_eq, bne_iff_ne]
  exact fun q => h (toList_inj q)
theorem del_filter {L : List En} {s : ByteArray} (hinc : incs L L.length = true) (hh : hasE L s = true) : L.filter (notN s) = L.take (posE L s) ++ L.drop (posE L s + 1) := by
  obtain ⟨k, hk⟩ : ∃ k, posE L s = k := ⟨_, rfl⟩
  have h1 := hh
  rw [hasE_eq, hk] at h1
  simp only [decide_eq_true_eq] at h1
  obtain ⟨hlt, he⟩ := h1
  rw [gE_lt hlt] at he
  have hne : ∀ p (hp : p < L.length), p ≠ k → notN s L[p] = true := fun p hp hpk => notN_true fun e => hpk (by
    have := posE_hit hinc p hp (s := s) (by rw [gE_lt hp]; exact e)
    omega)
  rw [hk]
  conv => lhs; rw [← List.take_append_drop k L, List.drop_eq_getElem_cons hlt, List.filter_append, List.filter_cons]
  have h0 : notN s L[k] = false := by rw [notN_eq, he]; simp
  rw [h0]
  simp only [Bool.false_eq_true, if_false]
  congr 1
  · rw [List.filter_eq_self]
    intro x hx
    obtain ⟨i, hi, rfl⟩ := List.getElem_of_mem hx
    rw [List.length_take] at hi
    rw [List.getElem_take]
    exact hne i (by omega) (by omega)
  · rw [List.filter_eq_self]
    intro x hx
    obtain ⟨i, hi, rfl⟩ := List.getElem_of_mem hx
    rw [List.length_drop] at hi
    rw [List.getElem_drop]
    exact hne _ (by omega) (by omega)
set_option maxHeartbeats 1000000 in
set_option maxRecDepth 100000 in
theorem implDeleteEntry_any (v : Value) (L : List En) (s : ByteArray) (hsz : s.size ≤ 140737488351232) (w : World) (S : Nat → Prop) (h : RdL tEnt w S v L) :
    Calls Try.prog 67 #[v, .string s] w fun e w' => ∃ v', e = .returned (.tuple #[v', .int .i64 (delR L s).2]) ∧ Own tEnt 29 w' w.heap.size v' (delR L s).1 ∧ Ext w w' := by
  have H := Lib.hid h
  have hg := implGetEntry_any v L s hsz w S h
  obtain ⟨A, cap, rfl, hcap, hlen, _⟩ := h
  cases hb : (okE L && nameB s && hasE L s) with
  | false =>
    obtain ⟨c, hc0, e1, e2⟩ : ∃ c : Int, (c != 0) = true ∧ delR L s = ([], c) ∧ (getR L s).2 = c := by
      cases h1 : (okE L && nameB s) with
      | false => exact ⟨1, rfl, by rw [delR, h1]; rfl, by rw [getR, h1]; rfl⟩
      | true =>
        rw [h1, Bool.true_and] at hb
        exact ⟨6, rfl, by rw [delR, h1, hb]; rfl, by rw [getR, h1, hb]; rfl⟩
    rw [e1]
    simp only [e2] at hg
    clear e1 e2 hb
    go_enter Try.func67, Try.ntmps67
    go_wp2_with fail
    refine hg.mono ?_
    rintro e w1 ⟨rfl, hx⟩
    have HX := Lib.hid hx
    clear hx
    go_wp2
    go_ret2
    exact ⟨_, rfl, Own.nil _ _ _ _, HX.out⟩
  | true =>
    simp only [Bool.and_eq_true] at hb
    obtain ⟨⟨h1, h2⟩, h3⟩ := hb
    obtain ⟨hinc, h64⟩ := okE_incs' h1
    have e1 : delR L s = (L.take (posE L s) ++ L.drop (posE L s + 1), 0) := by rw [delR, h1, h2, h3, ← del_filter hinc h3]; rfl
    have e2 : (getR L s).2 = 0 := by rw [getR, h1, h2, h3]; rfl
    have hlt := hasE_lt h3
    obtain ⟨k, hk⟩ : ∃ k, posE L s = k := ⟨_, rfl⟩
    have hf := fun W hW => find_any (.slice A L.length cap) L hinc s W S hW
    rw [e1, hk]
    simp only [e2] at hg
    simp only [hk, h3] at hf
    rw [hk] at hlt
    clear e1 e2 h1 h2 h3 hk hinc
    go_enter Try.func67, Try.ntmps67
    go_wp2_with fail
    refine hg.mono ?_
    rintro e w1 ⟨rfl, hx⟩
    have HX := Lib.hid hx
    clear hx
    go_wp2_with fail
    refine (hf _ (H.out.ext (by decide) HX.out)).mono ?_
    rintro e w2 ⟨rfl, hx⟩
    have HX2 := Lib.hid (HX.out.trans hx)
    clear hx
    go_wp2_with fail
    refine (cloneE_any _ L _ _ (H.out.ext (by decide) HX2.out) (by omega)).mono ?_
    rintro e w3 ⟨v', rfl, ho, hx⟩
    have hd := sdel_any _ L k w3 _ ho hlt h64
    have HX3 := Lib.hid (HX2.out.trans hx)
    have hbl := ho.base_le
    have hs2 := HX2.out.size
    obtain ⟨A', n', c', rfl⟩ := ho.shape3
    clear hx ho
    go_wp2_with fail
    refine hd.mono ?_
    rintro e w4 ⟨v2, rfl, ho, hg2⟩
    have HO := Lib.hid (ho.le (base' := w.heap.size) (by omega))
    have HX4 := Lib.hid (HX3.out.grown hg2 (fun k hk => by have := hbl k hk; omega))
    clear hd ho hg2
    go_wp2
    go_ret2
    exact ⟨_, rfl, HO.out, HX4.out⟩
end Go.Proofs.Ytmndkbheehcoaaa
/- Maps stay maps when an entry is put or struck out. No condition. -/
namespace Go.Proofs.Ytmndkbheehcoaaa
open Go.RowKit
set_option linter.unusedVariables false
set_option linter.unusedSimpArgs false

def ltE (a b : En) : Prop := ltB a.1 b.1 = true
theorem incs_pair {L : List En} : incs L L.length = true ↔ (∀ e ∈ L, entB e.1 e.2 = true) ∧ L.Pairwise ltE := by
  constructor
  · intro h
    refine ⟨?_, ?_⟩
    · intro e he
      have h2 := h
      rw [incs, List.all_eq_true] at h2
      obtain ⟨i, hi, rfl⟩ := List.getElem_of_mem he
      have := h2 i (List.mem_range.2 hi)
      simp only [incC, Bool.and_eq_true] at this
      rw [gE_lt hi] at this
      exact this.1
    · rw [List.pairwise_iff_getElem]
      intro i j hi hj hij
      have := incs_lt h i j hij hj
      rw [gE_lt hi, gE_lt hj] at this
      exact this
  · rintro ⟨h1, h2⟩
    rw [incs, List.all_eq_true]
    intro i hi
    have hi := List.mem_range.1 hi
    rw [incC, gE_lt hi, h1 _ (List.getElem_mem hi), Bool.true_and, Bool.or_eq_true]
    rcases Nat.eq_zero_or_pos i with rfl | hp
    · exact .inl rfl
    · right
      rw [gE_lt (by omega)]
      exact (List.pairwise_iff_getElem.1 h2) (i - 1) i (by omega) hi (by omega)
theorem incs_filter {L : List En} (h : incs L L.length = true) (p : En → Bool) : incs (L.filter p) (L.filter p).length = true := by
  rw [incs_pair] at h ⊢
  exact ⟨fun e he => h.1 e (List.mem_filter.1 he).1, h.2.filter p⟩
/-- an entry put in keeps the order -/
theorem incs_put {L : List En} {e : En} (h : incs L L.length = true) (he : entB e.1 e.2 = true) : incs (putEnd e (putF e L)) (putEnd e (putF e L)).length = true := by
  have h0 := h
  rw [putF_eq h]
  rw [incs_pair] at h ⊢
  obtain ⟨h1, h2⟩ := h
  obtain ⟨hle, hb, ha⟩ := posE_facts L e.1
  obtain ⟨k, hk⟩ : ∃ k, posE L e.1 = k := ⟨_, rfl⟩
  have hH := hasE_eq L e.1
  rw [hk] at hle hb ha hH ⊢
  obtain ⟨j, hj⟩ : ∃ j, (if hasE L e.1 then k + 1 else k) = j := ⟨_, rfl⟩
  rw [hj]
  have hkj : k ≤ j := by rw [← hj]; split <;> omega
  have hlt : ∀ x ∈ L.take k, ltE x e := by
    intro x hx
    obtain ⟨i, hi, rfl⟩ := List.getElem_of_mem hx
    rw [List.length_take] at hi
    rw [List.getElem_take]
    have := hb i (by omega)
    rwa [gE_lt (by omega)] at this
  have hpw := List.pairwise_iff_getElem.1 h2
  have hgt : ∀ y ∈ L.drop j, ltE e y := by
    intro y hy
    obtain ⟨i, hi, rfl⟩ := List.getElem_of_mem hy
    rw [List.length_drop] at hi
    rw [List.getElem_drop]
    have hkl : k < L.length := by omega
    have hkf := ha hkl
    rw [gE_lt hkl] at hkf
    cases hh : hasE L e.1 with
    | true =>
      have hj2 : j = k + 1 := by rw [← hj, hh]; rfl
      subst hj2
      have hke : L[k].1 = e.1 := by
        rw [hh] at hH
        have := (of_decide_eq_true hH.symm).2
        rwa [gE_lt hkl] at this
      have := hpw k (k + 1 + i) hkl (by omega) (by omega)
      unfold ltE at this ⊢
      rwa [hke] at this
    | false =>
      have hj2 : j = k := by rw [← hj, hh]; rfl
      subst hj2
      have hne : L[j].1 ≠ e.1 := fun q => by
        rw [hh] at hH
        have := of_decide_eq_false hH.symm
        exact this ⟨hkl, by rw [gE_lt hkl]; exact q⟩
      have h3 : ltB e.1 L[j].1 = true := by
        cases q : ltB e.1 L[j].1 with
        | true => rfl
        | false => exact absurd (ltB_total hkf q) hne
      rcases Nat.eq_zero_or_pos i with rfl | hp
      · exact h3
      · exact ltB_trans h3 (hpw j (j + i) hkl (by omega) (by omega))
  refine ⟨?_, ?_⟩
  · intro x hx
    simp only [List.mem_append, List.mem_singleton] at hx
    rcases hx with (hx | rfl) | hx
    · exact h1 x (List.mem_of_mem_take hx)
    · exact he
    · exact h1 x (List.mem_of_mem_drop hx)
  · rw [List.pairwise_append, List.pairwise_append]
    refine ⟨⟨h2.sublist (List.take_sublist _ _), List.pairwise_singleton _ _, ?_⟩, h2.sublist (List.drop_sublist _ _), ?_⟩
    · intro x hx y hy
      obtain rfl := List.mem_singleton.1 hy
      exact hlt x hx
    · intro x hx y hy
      simp only [List.mem_append, List.mem_singleton] at hx
      rcases hx with hx | rfl
      · exact ltB_trans (hlt x hx) (hgt y hy)
      · exact hgt y hy
end Go.Proofs.Ytmndkbheehcoaaa
/- What has been put is got, what has been deleted is not, and what is put back makes the map that was: plainly. No condition. -/
namespace Go.Proofs.Ytmndkbheehcoaaa
open Go.RowKit
set_option linter.unusedVariables false
set_option linter.unusedSimpArgs false

theorem okE_of {L : List En} (h : incs L L.length = true) (hl : L.length ≤ 64) : okE L = true := by rw [okE_eq, h, decide_eq_true hl]; rfl
theorem entB_name {e : En} (h : entB e.1 e.2 = true) : nameB e.1 = true := by
  rw [entB_eq, Bool.and_eq_true] at h
  exact h.1
theorem getR_hit {L : List En} (h : okE L = true) {k : Nat} (hk : k < L.length) {s : ByteArray} (hn : nameB s = true) (e : L[k].1 = s) : getR L s = (L[k].2, 0) := by
  have hp := posE_hit (okE_incs h).1 k hk (s := s) (by rw [gE_lt hk]; exact e)
  have hh : hasE L s = true := by rw [hasE_eq, hp, decide_eq_true]; exact ⟨hk, by rw [gE_lt hk]; exact e⟩
  rw [getR, h, hn, hh, hp, gE_lt hk]; rfl
theorem getR_miss {L : List En} (h : okE L = true) {s : ByteArray} (hn : nameB s = true) (hm : ∀ x ∈ L, x.1 ≠ s) : hasE L s = false ∧ getR L s = (⟨#[]⟩, 6) := by
  have hh : hasE L s = false := by
    rw [hasE_eq, decide_eq_false_iff_not]
    intro q
    rw [gE_lt q.1] at q
    exact hm _ (List.getElem_mem q.1) q.2
  exact ⟨hh, by rw [getR, h, hn, hh]; rfl⟩
theorem put_len {A : List En} {e : En} (hinc : incs A A.length = true) : (putEnd e (putF e A)).length ≤ A.length + 1 := by
  rw [putF_eq hinc]
  have := (posE_facts A e.1).1
  simp only [List.length_append, List.length_take, List.length_drop, List.length_singleton]
  split <;> omega
theorem posE_le (A : List En) (s : ByteArray) : posE A s ≤ A.length := (posE_facts A s).1
theorem ent_all {A : List En} {e : En} (hA : okE A = true) (hl : A.length < 64) (he : entB e.1 e.2 = true) :
    ∃ M N, putR A e = (M, 0) ∧ okE M = true ∧ M.length ≤ A.length + 1 ∧ getR M e.1 = (e.2, 0) ∧ delR M e.1 = (N, 0) ∧ okE N = true ∧ N.length ≤ A.length + 1 ∧ getR N e.1 = (⟨#[]⟩, 6) ∧
      ((∃ v, getR A e.1 = (v, 0) ∧ entB e.1 v = true ∧ putR N (e.1, v) = (A, 0)) ∨ (getR A e.1 = (⟨#[]⟩, 6) ∧ N = A)) := by
  have hinc := (okE_incs hA).1
  have hn := entB_name he
  obtain ⟨M, hM⟩ : ∃ M, putEnd e (putF e A) = M := ⟨_, rfl⟩
  have hMl : M.length ≤ A.length + 1 := by rw [← hM]; exact put_len hinc
  have hMi : incs M M.length = true := by rw [← hM]; exact incs_put hinc he
  have hMo : okE M = true := okE_of hMi (by omega)
  have hMe := putF_eq (e := e) hinc
  rw [hM] at hMe
  have hput : putR A e = (M, 0) := by
    rw [putR, hA, he, hM]
    simp only [Bool.and_self, if_true]
    rw [if_neg (by omega)]
  have hk := posE_le A e.1
  obtain ⟨hkle, hbelow, habove⟩ := posE_facts A e.1
  obtain ⟨k, hkk⟩ : ∃ k, posE A e.1 = k := ⟨_, rfl⟩
  rw [hkk] at hMe hk hkle hbelow habove
  have hTl : (A.take k).length = k := by rw [List.length_take]; omega
  obtain ⟨D, hD⟩ : ∃ D, A.drop (if hasE A e.1 then k + 1 else k) = D := ⟨_, rfl⟩
  rw [hD] at hMe
  have hkM : k < M.length := by rw [hMe]; simp only [List.length_append, List.length_singleton, hTl]; omega
  have hMk : M[k] = e := by
    have h1 : M[k]? = some e := by
      rw [hMe, List.append_assoc, List.getElem?_append_right (by omega), hTl, Nat.sub_self]
      rfl
    rw [List.getElem?_eq_getElem hkM] at h1
    exact Option.some.inj h1
  have hget := getR_hit hMo hkM hn (by rw [hMk])
  rw [hMk] at hget
  have hpM := posE_hit hMi k hkM (s := e.1) (by rw [gE_lt hkM, hMk])
  have hhM : hasE M e.1 = true := by rw [hasE_eq, hpM, decide_eq_true]; exact ⟨hkM, by rw [gE_lt hkM, hMk]⟩
  have hdel : delR M e.1 = (M.filter (notN e.1), 0) := by rw [delR, hMo, hn, hhM]; rfl
  have hfl := del_filter hMi hhM
  rw [hpM] at hfl
  have hN : M.filter (notN e.1) = A.take k ++ D := by
    rw [hfl, hMe, List.append_assoc, List.take_append_of_le_length (by omega), List.take_of_length_le (by omega)]
    congr 1
    rw [List.drop_append, hTl, List.drop_eq_nil_of_le (by omega), show k + 1 - k = 1 by omega]
    rfl
  obtain ⟨N, hNe⟩ : ∃ N, M.filter (notN e.1) = N := ⟨_, rfl⟩
  have hNm : ∀ x ∈ N, x.1 ≠ e.1 := by
    intro x hx hq
    rw [← hNe, List.mem_filter, notN_eq, hq] at hx
    have := hx.2
    simp at this
  have hNl : N.length ≤ A.length + 1 := by
    have := List.length_filter_le (notN e.1) M
    rw [hNe] at this
    omega
  have hNo : okE N = true := by
    rw [← hNe]
    exact okE_of (incs_filter hMi _) (by rw [hNe]; omega)
  have hgm := getR_miss hNo hn hNm
  rw [hNe] at hdel hN
  refine ⟨M, N, hput, hMo, hMl, hget, hdel, hNo, hNl, hgm.2, ?_⟩
  cases hh : hasE A e.1 with
  | false =>
    refine .inr ⟨by rw [getR, hA, hn, hh]; rfl, ?_⟩
    rw [hN, ← hD, hh]
    exact List.take_append_drop k A
  | true =>
    have hh2 := hh
    rw [hasE_eq, hkk] at hh2
    simp only [decide_eq_true_eq] at hh2
    obtain ⟨hlt, heq⟩ := hh2
    rw [gE_lt hlt] at heq
    have hAv : entB e.1 A[k].2 = true := by
      rw [← heq]
      exact (incs_pair.1 hinc).1 _ (List.getElem_mem hlt)
    refine .inl ⟨A[k].2, getR_hit hA hlt hn heq, hAv, ?_⟩
    rw [hh, if_pos rfl] at hD
    have hpN : posE N e.1 = k := by
      refine posE_of (okE_incs hNo).1 k (by rw [hN, List.length_append, hTl]; omega) ?_ ?_
      · rcases Nat.eq_zero_or_pos k with h0 | h0
        · exact .inl h0
        · refine .inr ?_
          have h1 := hbelow (k - 1) (by omega)
          have h2 : gE N (k - 1) = gE A (k - 1) := by
            rw [gE, gE, List.getD_eq_getElem?_getD, List.getD_eq_getElem?_getD, hN, List.getElem?_append_left (by omega), List.getElem?_take, if_pos (by omega)]
          rw [h2]; exact h1
      · by_cases h0 : k + 1 < A.length
        · refine .inr ?_
          have h2 : gE N k = A[k + 1] := by
            rw [gE, List.getD_eq_getElem?_getD, hN, List.getElem?_append_right (by omega), hTl, Nat.sub_self, ← hD, List.getElem?_drop]; show (A[k + 1]?).getD _ = A[k + 1]; rw [List.getElem?_eq_getElem h0]; rfl
          rw [h2]
          have h3 := incs_lt hinc k (k + 1) (by omega) h0
          rw [gE_lt hlt, gE_lt h0, heq] at h3
          exact ltB_asymm h3
        · refine .inl ?_
          rw [hN, List.length_append, hTl, ← hD, List.length_drop]; omega
    have hpe := putF_eq (L := N) (e := (e.1, A[k].2)) (okE_incs hNo).1
    have hpl := put_len (A := N) (e := (e.1, A[k].2)) (okE_incs hNo).1
    rw [hpN, hgm.1] at hpe
    simp only [Bool.false_eq_true, if_false] at hpe
    have hA2 : putEnd (e.1, A[k].2) (putF (e.1, A[k].2) N) = A := by
      rw [hpe, hN, List.take_append_of_le_length (by omega), List.take_of_length_le (by omega), List.drop_append, hTl, Nat.sub_self, List.drop_zero, List.drop_eq_nil_of_le (by omega), List.nil_append, ← hD]
      have e2 : (e.1, A[k].2) = A[k] := by rw [← heq]
      rw [e2, List.append_assoc, List.singleton_append, ← List.drop_eq_getElem_cons hlt, List.take_append_drop]
    rw [putR, hNo, hAv]
    simp only [Bool.and_self, if_true]
    rw [hA2, if_neg (by omega)]
end Go.Proofs.Ytmndkbheehcoaaa
/- Names, entries and maps that are drawn from a source. No condition. -/
namespace Go.Proofs.Ytmndkbheehcoaaa
open Go.RowKit
set_option linter.unusedVariables false
set_option linter.unusedSimpArgs false

/-- the names that are drawn -/
def namesL : List ByteArray := [⟨#[97]⟩, ⟨#[98]⟩, ⟨#[99]⟩, ⟨#[100]⟩, ⟨#[101]⟩, ⟨#[97, 97]⟩, ⟨#[97, 98]⟩, ⟨#[98, 97]⟩, ⟨#[122]⟩, ⟨#[110, 97, 109, 101]⟩, ⟨#[120, 46, 121]⟩, ⟨#[120, 46, 122]⟩, ⟨#[120]⟩]
theorem namesL_ok : ∀ s ∈ namesL, nameB s = true ∧ s.size ≤ 64 := by
  intro s hs
  rw [nameB_eq]
  revert hs
  revert s
  unfold namesL
  simp only [List.forall_mem_cons]
  decide
/-- the values that are drawn -/
def valsL : List ByteArray := [⟨#[]⟩, ⟨#[49]⟩, ⟨#[50]⟩, ⟨#[118, 97, 108, 117, 101]⟩, ⟨#[97, 110, 111, 116, 104, 101, 114, 32, 118, 97, 108, 117, 101]⟩]
theorem valsL_ok : ∀ s ∈ valsL, s.size ≤ 64 := by unfold valsL; simp only [List.forall_mem_cons]; decide
theorem results_box {P : Program} {w : World} {fn : Func} {c : Tmp} {t g e n : Nat} {cs : Array Value} (hr : fn.results = #[.cell c t]) (tmps : Array Value) (hp : tmps.getD c undef = .pointer (some ⟨g, 0, none⟩)) (ht : Agg P t n) (hn : cs.size = n) (hb : Blk w g e cs) :
    (results fn tmps).run P w = .ok (.agg cs) w := by
  have hl := run_loadB (P := P) hb ht hn
  have hp' : tmps[c]?.getD undef = .pointer (some ⟨g, 0, none⟩) := by simpa using hp
  simp [results, hr, hp', asAddr, hl]
theorem setRow_grown (w : World) (g : Nat) (cs : Array Value) : w.grownBy (w.setRow g cs) (some g) := ⟨rfl, rfl, rfl, by simp, fun k _ hk => setRow_other w g k cs (fun e => hk (by rw [e]))⟩
/-- a change in a block that is new counts for nothing -/
theorem grownN {a b c : World} {row : Option Nat} {k : Nat} (h : a.grownBy b row) (hg : b.grownBy c (some k)) (hk : a.heap.size ≤ k) : a.grownBy c row :=
  ⟨hg.os.trans h.os, hg.tape.trans h.tape, hg.output.trans h.output, Nat.le_trans h.size hg.size, fun i hi hn => (hg.block i (Nat.lt_of_lt_of_le hi h.size) (fun e => by injection e with e; omega)).trans (h.block i hi hn)⟩
set_option maxHeartbeats 1000000 in
set_option maxRecDepth 100000 in
theorem l04Names_any (w : World) :
    Calls Try.prog 111 #[] w fun e w' => ∃ v', e = .returned v' ∧ Own tStr 9 w' w.heap.size v' namesL ∧ Ext w w' := by
  go_enter Try.func111, Try.ntmps111
  go_wp2
  go_ret
  exact ⟨_, rfl, Own.of_blk tStr (xs := namesL) (Blk.new w _ _) (Nat.le_refl _) (by decide) (fun x hx => Nat.le_trans (namesL_ok x hx).2 (by decide)), ext_alloc _ _⟩
set_option maxHeartbeats 1000000 in
set_option maxRecDepth 100000 in
theorem l04DrawEntry_any (g : Nat) (b : Int) (hb : b ≤ 4611686018427387900) (w : World) (h : Src w g b) :
    Calls Try.prog 125 #[.pointer (some ⟨g, 0, none⟩)] w fun e w' => ∃ x : En, e = .returned (.agg #[.string x.1, .string x.2]) ∧ tEnt.ok x ∧ entB x.1 x.2 = true ∧ Src w' g (b + 4) ∧ w.grownBy w' (some g) := by
  go_enter Try.func125, Try.ntmps125
  go_wp2_with fail
  refine (l04Names_any _).mono ?_
  rintro e w1 ⟨v1, rfl, ho, hx⟩
  have hS := (h.ext (ext_alloc _ _)).ext hx
  have HG := Lib.hid (ext_grown (some g) ((ext_alloc w _).trans hx))
  have B2 := Lib.hid ((Blk.new w 29 _).ext hx)
  have hlt := h.lt
  go_wp2_with fail
  refine (srcText_any g b (by omega) _ namesL (by decide) _ hS _ ho.rd (fun k hk e => by have := hk.1; simp at this; omega)).mono ?_
  rintro e w2 ⟨s, hm, rfl, hsz, hs, hg⟩
  have HS := Lib.hid hs
  replace HG := Lib.hid (grown_trans HG.out hg)
  replace B2 := Lib.hid (B2.out.grown hg (fun e => by injection e with e; omega))
  have HN := Lib.hid (namesL_ok s hm)
  clear hs hg hx ho hS h hm
  go_wp2_with fail
  refine (srcText_any g (b + 2) (by omega) _ valsL (by decide) _ (HS.out.ext (ext_alloc _ _)) _ (Own.of_blk tStr (xs := valsL) (base := w2.heap.size) (Blk.new w2 _ _) (Nat.le_refl _) (by decide) (fun x hx => Nat.le_trans (valsL_ok x hx) (by decide))).rd (fun k hk e => by have := hk.1; have := HS.out.lt; omega)).mono ?_
  rintro e w3 ⟨u, hm, rfl, husz, hs, hg⟩
  replace HG := Lib.hid (grown_trans HG.out (grown_trans (ext_grown (some g) (ext_alloc w2 _)) hg))
  have B3 := Lib.hid ((B2.out.alloc _).grown hg (fun e => by injection e with e; omega))
  have HV := Lib.hid (valsL_ok u hm)
  have HS2 := Lib.hid hs
  clear hs hg hm HS B2
  go_wp2_with (refine wpl_storeB B3.out aggEntryI ⟨rfl, fun u hu => by simp at hu; rcases hu with rfl | rfl <;> rfl⟩ rfl rfl _ _ rfl rfl rfl rfl ?_)
  refine bodyPost_ret (results_box rfl _ rfl aggEntryI rfl (B3.out.setRow _)) rfl ?_
  refine ⟨(s, u), rfl, ⟨hsz, husz⟩, by rw [entB_eq, HN.out.1, decide_eq_true HV.out]; rfl, (HS2.out.later (setRow_grown _ _ _) (fun k e => by injection e with e; omega)).le (by omega), ?_⟩
  exact grownN HG.out (setRow_grown _ _ _) (Nat.le_refl _)
theorem Own.ne_src {α : Type} {T : Ty α} {e : TypeId} {w : World} {base : Nat} {v : Value} {xs : List α} {g : Nat} (h : Own T e w base v xs) (hg : g < base) : v.ownBlock = none ∨ v.ownBlock ≠ some g := by
  refine .inr fun q => ?_
  have := (h.base_le g q).1
  omega
set_option maxHeartbeats 1000000 in
set_option maxRecDepth 100000 in
theorem l04Drawn_any (g : Nat) (b : Int) (hb : b ≤ 4611686018427387000) (most : Nat) (hm : most ≤ 60) (w : World) (h : Src w g b) :
    Calls Try.prog 102 #[.pointer (some ⟨g, 0, none⟩), .int .i64 most] w fun e w' => ∃ v' xs, e = .returned v' ∧ Own tEnt 29 w' w.heap.size v' xs ∧ okE xs = true ∧ xs.length ≤ most ∧ Src w' g (b + 2 + 4 * most) ∧ w.grownBy w' (some g) := by
  have hgl := h.lt
  have hm1 : (most : Int) + 1 ≤ 4611686018427387904 := by omega
  go_enter Try.func102, Try.ntmps102
  go_wp2_with fail
  refine (srcPick_any g b (by omega) (most + 1) (by omega) _ (h.ext (ext_alloc _ _))).mono ?_
  rintro e w1 ⟨n, rfl, hn0, hn1, hs, hg⟩
  obtain ⟨n, rfl⟩ := Int.eq_ofNat_of_zero_le hn0
  have hn2 : n ≤ most := by omega
  have HO := Lib.hid ((Own.empty tEnt w 29 w.heap.size (Nat.le_refl _)).kept hg (Own.ne_src (Own.empty tEnt w 29 w.heap.size (Nat.le_refl _)) hgl))
  have HS := Lib.hid hs
  have HG := Lib.hid (grown_trans (ext_grown (some g) (ext_alloc w (Obj.cells #[] 29))) hg)
  clear hs hg h
  go_wp2
  go_loopw [5, 6] (fun a i wr => ∃ (k : Nat) (xs : List En), k ≤ n ∧ i = .int .i64 k ∧ Own tEnt 29 wr w.heap.size a xs ∧ okE xs = true ∧ xs.length + k ≤ most ∧ Src wr g (b + 2 + 4 * (n - k)) ∧ w.grownBy wr (some g)) (fun _ i _ => (intOf i).toNat)
  case atStart => exact ⟨n, [], by omega, rfl, HO.out, okE_of (by rw [List.length_nil, incs_zero]) (by simp), by simp; omega, HS.out.le (by omega), HG.out⟩
  case round =>
    obtain ⟨k, xs, hk, rfl, ho, hok, hl, hs, hg⟩ := hrel
    obtain ⟨C, cn, cc, rfl⟩ := ho.shape3
    clear HO HS HG
    have HO := Lib.hid ho
    have HS := Lib.hid hs
    have HG := Lib.hid hg
    have HK := Lib.hid hok
    clear ho hs hg hok
    by_cases h0 : 0 < k
    · have hi : (0 : Int) < (k : Int) := by omega
      go_wp2_with fail
      refine (l04DrawEntry_any g _ (by omega) _ HS.out).mono ?_
      rintro e w2 ⟨x, rfl, hxo, hxe, hs, hg⟩
      replace HO := Lib.hid (HO.out.kept hg (HO.out.ne_src hgl))
      replace HG := Lib.hid (grown_trans HG.out hg)
      replace HS := Lib.hid hs
      have HXO := Lib.hid hxo
      have HXE := Lib.hid hxe
      clear hs hg hxo hxe
      go_wp2_with fail
      refine (l04Put_any _ xs x HXO.out _ _ HO.out.rd (by omega)).mono ?_
      rintro e w3 ⟨v3, rfl, ho, hx⟩
      have HP := Lib.hid (incs_put (okE_incs HK.out).1 HXE.out)
      have HL := Lib.hid (put_len (A := xs) (e := x) (okE_incs HK.out).1)
      replace HO := Lib.hid (ho.le (base' := w.heap.size) HG.out.size)
      replace HG := Lib.hid (grown_ext HG.out hx)
      replace HS := Lib.hid (HS.out.ext hx)
      obtain ⟨A3, n3, q3, rfl⟩ := ho.shape3
      clear ho hx
      generalize putEnd x (putF x xs) = ys at HP HL HO
      go_wp2
      go_roundw
      case rel => exact ⟨k - 1, ys, by omega, by go_num, HO.out, okE_of HP.out (by have := HL.out; omega), by have := HL.out; omega, HS.out.le (by omega), HG.out⟩
      case measure => simp [intOf]; omega
    · obtain rfl : k = 0 := by omega
      go_wp2
      go_ret
      exact ⟨_, xs, rfl, HO.out, HK.out, by omega, HS.out.le (by omega), HG.out⟩
theorem grown_new {a b c : World} {g : Nat} (h : Ext a b) (hg : b.grownBy c (some g)) (hk : a.heap.size ≤ g) : Ext a c := h.grown hg (fun k e => by injection e with e; omega)
set_option maxHeartbeats 1000000 in
set_option maxRecDepth 100000 in
theorem p6Map_any (v : Value) (code : List Int) (most : Nat) (hm : most ≤ 60) (w : World) (S : Nat → Prop) (h : RdL tByte w S v code) :
    Calls Try.prog 35 #[v, .int .i64 most] w fun e w' => ∃ v' xs, e = .returned v' ∧ Own tEnt 29 w' w.heap.size v' xs ∧ okE xs = true ∧ xs.length ≤ most ∧ Ext w w' := by
  go_enter Try.func35, Try.ntmps35
  go_wp2_with fail
  refine (l00From_any v code _ _ h).mono ?_
  rintro e w1 ⟨rfl, hs, hx⟩
  go_wp2_with fail
  refine (l04Drawn_any w.heap.size 0 (by decide) most hm _ hs).mono ?_
  rintro e w2 ⟨v2, xs, rfl, ho, hk, hl, _, hg⟩
  have HO := Lib.hid (ho.le (base' := w.heap.size) hx.size)
  have HX := Lib.hid (grown_new hx hg (Nat.le_refl _))
  obtain ⟨A2, n2, q2, rfl⟩ := ho.shape3
  clear ho hs hx hg h
  go_wp2
  go_ret
  exact ⟨_, xs, rfl, HO.out, hk, hl, HX.out⟩
set_option maxHeartbeats 1000000 in
set_option maxRecDepth 100000 in
theorem p6Entry_any (v : Value) (code : List Int) (w : World) (S : Nat → Prop) (h : RdL tByte w S v code) :
    Calls Try.prog 63 #[v] w fun e w' => ∃ x : En, e = .returned (.agg #[.string x.1, .string x.2]) ∧ tEnt.ok x ∧ entB x.1 x.2 = true ∧ Ext w w' := by
  go_enter Try.func63, Try.ntmps63
  go_wp2_with fail
  refine (l00From_any v code _ _ (h.ext (by decide) (ext_alloc _ _))).mono ?_
  rintro e w1 ⟨rfl, hs, hx⟩
  rw [size_alloc] at hs ⊢
  go_wp2_with fail
  refine (l04DrawEntry_any (w.heap.size + 1) 0 (by decide) _ hs).mono ?_
  rintro e w2 ⟨x, rfl, hxo, hxe, _, hg⟩
  have B2 := Lib.hid (((Blk.new w 29 _).ext hx).grown hg (fun e => by have := Option.some.inj e; omega))
  have HX := Lib.hid (grown_new ((ext_alloc w _).trans hx) hg (Nat.le_succ _))
  have HXO := Lib.hid hxo
  have HXE := Lib.hid hxe
  clear hs hx hg h hxo hxe
  go_wp2_with (refine wpl_storeB B2.out aggEntryI ⟨rfl, fun u hu => by simp at hu; rcases hu with rfl | rfl <;> rfl⟩ rfl rfl _ _ rfl rfl rfl rfl ?_)
  refine bodyPost_ret (results_box rfl _ rfl aggEntryI rfl (B2.out.setRow _)) rfl ?_
  exact ⟨x, rfl, HXO.out, HXE.out, HX.out.setRow (Nat.le_refl _) _⟩
set_option maxHeartbeats 1000000 in
set_option maxRecDepth 100000 in
theorem p6Name_any (v : Value) (code : List Int) (w : World) (S : Nat → Prop) (h : RdL tByte w S v code) :
    Calls Try.prog 48 #[v] w fun e w' => ∃ s : ByteArray, e = .returned (.string s) ∧ nameB s = true ∧ s.size ≤ 64 ∧ Ext w w' := by
  go_enter Try.func48, Try.ntmps48
  go_wp2_with fail
  refine (l00From_any v code _ _ h).mono ?_
  rintro e w1 ⟨rfl, hs, hx⟩
  go_wp2_with fail
  refine (l04Names_any _).mono ?_
  rintro e w2 ⟨v2, rfl, ho, hx2⟩
  have hgl := hs.lt
  go_wp2_with fail
  refine (srcText_any _ 0 (by decide) _ namesL (by decide) _ (hs.ext hx2) _ ho.rd (fun k hk e => by have := hk.1; omega)).mono ?_
  rintro e w3 ⟨s, hm, rfl, _, _, hg⟩
  have HX := Lib.hid (grown_new (hx.trans hx2) hg (Nat.le_refl _))
  have HN := Lib.hid (namesL_ok s hm)
  clear hs hx hg h ho hx2 hm
  go_wp2
  go_ret
  exact ⟨s, rfl, HN.out.1, HN.out.2, HX.out⟩
set_option maxHeartbeats 1000000 in
set_option maxRecDepth 100000 in
theorem p6Text_any (v : Value) (code : List Int) (w : World) (S : Nat → Prop) (h : RdL tByte w S v code) :
    Calls Try.prog 55 #[v] w fun e w' => ∃ s : ByteArray, e = .returned (.string s) ∧ s.size ≤ 140737488351232 ∧ Ext w w' := by
  go_enter Try.func55, Try.ntmps55
  go_wp2_with fail
  refine (l00From_any v code _ _ h).mono ?_
  rintro e w1 ⟨rfl, hs, hx⟩
  have hgl := hs.lt
  go_wp2_with fail
  refine (srcText_any _ 0 (by decide) _ [⟨#[]⟩, ⟨#[97]⟩, ⟨#[97, 97]⟩, ⟨#[98]⟩, ⟨#[99]⟩, ⟨#[120]⟩, ⟨#[120, 46]⟩, ⟨#[120, 46, 121]⟩, ⟨#[122]⟩, ⟨#[122, 122]⟩] (by decide) _ (hs.ext (ext_alloc _ _)) _ (Own.of_blk tStr (base := w1.heap.size) (Blk.new w1 _ _) (Nat.le_refl _) (by decide) (by simp only [List.forall_mem_cons]; simp [tStr]; decide)).rd (fun k hk e => by have := hk.1; omega)).mono ?_
  rintro e w3 ⟨s, hm, rfl, hz, _, hg⟩
  have HX := Lib.hid (grown_new (hx.trans (ext_alloc _ _)) hg (Nat.le_refl _))
  clear hs hx hg h hm
  go_wp2
  go_ret
  exact ⟨s, rfl, hz, HX.out⟩
set_option maxHeartbeats 1000000 in
set_option maxRecDepth 100000 in
theorem f6big_any (A : Option Addr) (n c : Nat) (w : World) : Calls Try.prog 34 #[.slice A n c] w fun e w' => e = .returned (.bool (decide (4096 < (n : Int)))) ∧ w = w' := by
  go_enter Try.func34, Try.ntmps34
  go_wp2
  go_ret
  exact ⟨rfl, rfl⟩
end Go.Proofs.Ytmndkbheehcoaaa
/- Another map is drawn out of a map. No condition. -/
namespace Go.Proofs.Ytmndkbheehcoaaa
open Go.RowKit
set_option linter.unusedVariables false
set_option linter.unusedSimpArgs false
set_option maxHeartbeats 1000000 in
set_option maxRecDepth 100000 in
theorem l04Other_any (g : Nat) (b : Int) (hb : b ≤ 4611686018427387000) (v : Value) (L : List En) (hL : okE L = true) (h60 : L.length ≤ 60) (w : World) (S : Nat → Prop) (hr : RdL tEnt w S v L) (h : Src w g b) :
    Calls Try.prog 131 #[.pointer (some ⟨g, 0, none⟩), v] w fun e w' => ∃ v' xs, e = .returned v' ∧ Own tEnt 29 w' w.heap.size v' xs ∧ okE xs = true ∧ xs.length ≤ L.length + 4 ∧ w.grownBy w' (some g) := by
  have hgl := h.lt
  have HRL := Lib.hid hr
  have HS0 := Lib.hid h
  have HOK := Lib.hid hL
  have hokL := hr.choose_spec.choose_spec.2.2.2.2
  have HKL := Lib.hid hokL
  obtain ⟨A, cap, rfl, hcap, hlen, hrdL, _⟩ := hr
  have HRR := Lib.hid hrdL
  clear hokL h hL hrdL
  go_enter Try.func131, Try.ntmps131
  go_wp2_with (at_builtin; refine wpl_append rowEnt rfl _ _ rfl (v := .slice (some ⟨w.heap.size, 0, none⟩) 0 0) rfl (Own.empty tEnt w 29 w.heap.size (Nat.le_refl _)) _ _ rfl (ys := L) rfl (HRR.out.ext (by decide) (ext_alloc _ _)) HKL.out (by simp only [List.length_nil]; omega) (by simp) ?_; intro v0 w0 ho1 hg1 hat1; rw [List.nil_append] at ho1; have HX0 := Lib.hid ((ext_alloc w _).grown hg1 (fun k hk => Nat.le_of_eq (Option.some.inj hk))); have HO0 := Lib.hid ho1; clear ho1 hg1 hat1)
  refine (srcPick_any g b (by omega) 4 (by decide) _ (HS0.out.ext HX0.out)).mono ?_
  rintro e w1 ⟨n, rfl, hn0, hn1, hs, hg⟩
  obtain ⟨n, rfl⟩ := Int.eq_ofNat_of_zero_le hn0
  have hn2 : n ≤ 4 := by omega
  have HO1 := Lib.hid (HO0.out.kept hg (HO0.out.ne_src hgl))
  have HS1 := Lib.hid hs
  have HG1 := Lib.hid (grown_trans (ext_grown (some g) HX0.out) hg)
  clear hs hg HO0 HX0 HS0
  go_wp2
  go_loopw [5, 6] (fun a i wr => ∃ (k : Nat) (xs : List En), k ≤ n ∧ i = .int .i64 k ∧ Own tEnt 29 wr w.heap.size a xs ∧ okE xs = true ∧ xs.length + k ≤ L.length + n ∧ Src wr g (b + 2 + 6 * (n - k)) ∧ w.grownBy wr (some g)) (fun _ i _ => (intOf i).toNat)
  case atStart => exact ⟨n, L, by omega, rfl, HO1.out, HOK.out, by omega, HS1.out.le (by omega), HG1.out⟩
  case round =>
    obtain ⟨k, xs, hk, rfl, ho, hok, hl, hs, hg⟩ := hrel
    obtain ⟨C, cn, cc, rfl⟩ := ho.shape3
    clear HO1 HS1 HG1
    have HO := Lib.hid ho
    have HS := Lib.hid hs
    have HG := Lib.hid hg
    have HK := Lib.hid hok
    clear ho hs hg hok
    by_cases h0 : 0 < k
    · have hi : (0 : Int) < (k : Int) := by omega
      go_wp2_with fail
      refine (srcOne_any g _ (by omega) 3 (by decide) _ HS.out).mono ?_
      rintro e w2 ⟨r, rfl, hs, hg⟩
      replace HO := Lib.hid (HO.out.kept hg (HO.out.ne_src hgl))
      replace HG := Lib.hid (grown_trans HG.out hg)
      replace HS := Lib.hid hs
      clear hs hg
      cases r with
      | true =>
        go_wp2_with fail
        refine (l04Names_any _).mono ?_
        rintro e w3 ⟨v3, rfl, hon, hx⟩
        replace HO := Lib.hid (HO.out.ext hx)
        replace HG := Lib.hid (grown_ext HG.out hx)
        have hs3 := HS.out.ext hx
        have hlt2 := HS.out.lt
        obtain ⟨A3, n3, q3, rfl⟩ := hon.shape3
        go_wp2_with fail
        refine (srcText_any g _ (by omega) _ namesL (by decide) _ hs3 _ hon.rd (fun k hk e => by have := hk.1; omega)).mono ?_
        rintro e w4 ⟨s, hm, rfl, hsz, hs, hg⟩
        replace HO := Lib.hid (HO.out.kept hg (HO.out.ne_src hgl))
        replace HG := Lib.hid (grown_trans HG.out hg)
        replace HS := Lib.hid hs
        clear hs hg hx hon hs3 hm
        go_wp2_with fail
        refine (l04Without_any _ xs s _ _ HO.out.rd (by omega)).mono ?_
        rintro e w5 ⟨v5, rfl, ho, hx⟩
        have HP := Lib.hid (okE_of (incs_filter (okE_incs HK.out).1 (notN s)) (Nat.le_trans (List.length_filter_le _ _) (by omega)))
        have HL := Lib.hid (List.length_filter_le (notN s) xs)
        replace HO := Lib.hid (ho.le (base' := w.heap.size) HG.out.size)
        replace HG := Lib.hid (grown_ext HG.out hx)
        replace HS := Lib.hid (HS.out.ext hx)
        obtain ⟨A5, n5, q5, rfl⟩ := ho.shape3
        clear ho hx
        generalize xs.filter (notN s) = ys at HP HL HO
        go_wp2
        go_roundw
        case rel => exact ⟨k - 1, ys, by omega, by go_num, HO.out, HP.out, by have := HL.out; omega, HS.out.le (by omega), HG.out⟩
        case measure => simp [intOf]; omega
      | false =>
        go_wp2_with fail
        refine (l04DrawEntry_any g _ (by omega) _ HS.out).mono ?_
        rintro e w3 ⟨x, rfl, hxo, hxe, hs, hg⟩
        replace HO := Lib.hid (HO.out.kept hg (HO.out.ne_src hgl))
        replace HG := Lib.hid (grown_trans HG.out hg)
        replace HS := Lib.hid hs
        have HXO := Lib.hid hxo
        have HXE := Lib.hid hxe
        clear hs hg hxo hxe
        go_wp2_with fail
        refine (l04Put_any _ xs x HXO.out _ _ HO.out.rd (by omega)).mono ?_
        rintro e w5 ⟨v5, rfl, ho, hx⟩
        have HP := Lib.hid (incs_put (okE_incs HK.out).1 HXE.out)
        have HL := Lib.hid (put_len (A := xs) (e := x) (okE_incs HK.out).1)
        replace HO := Lib.hid (ho.le (base' := w.heap.size) HG.out.size)
        replace HG := Lib.hid (grown_ext HG.out hx)
        replace HS := Lib.hid (HS.out.ext hx)
        obtain ⟨A5, n5, q5, rfl⟩ := ho.shape3
        clear ho hx
        generalize putEnd x (putF x xs) = ys at HP HL HO
        go_wp2
        go_roundw
        case rel => exact ⟨k - 1, ys, by omega, by go_num, HO.out, okE_of HP.out (by have := HL.out; omega), by have := HL.out; omega, HS.out.le (by omega), HG.out⟩
        case measure => simp [intOf]; omega
    · obtain rfl : k = 0 := by omega
      go_wp2
      go_ret
      exact ⟨_, xs, rfl, HO.out, HK.out, by omega, HG.out⟩
set_option maxHeartbeats 1000000 in
set_option maxRecDepth 100000 in
theorem p6Other_any (v u : Value) (code : List Int) (L : List En) (hL : okE L = true) (h60 : L.length ≤ 60) (w : World) (S S' : Nat → Prop) (h : RdL tByte w S v code) (h' : RdL tEnt w S' u L) :
    Calls Try.prog 72 #[v, u] w fun e w' => ∃ v' xs, e = .returned v' ∧ Own tEnt 29 w' w.heap.size v' xs ∧ okE xs = true ∧ xs.length ≤ L.length + 4 ∧ Ext w w' := by
  have H' := Lib.hid h'
  obtain ⟨A', cap', rfl, _⟩ := h'
  go_enter Try.func72, Try.ntmps72
  go_wp2_with fail
  refine (l00From_any v code _ _ h).mono ?_
  rintro e w1 ⟨rfl, hs, hx⟩
  go_wp2_with fail
  refine (l04Other_any w.heap.size 0 (by decide) _ L hL h60 _ _ (H'.out.ext (by decide) hx) hs).mono ?_
  rintro e w2 ⟨v2, xs, rfl, ho, hk, hl, hg⟩
  have HO := Lib.hid (ho.le (base' := w.heap.size) hx.size)
  have HX := Lib.hid (grown_new hx hg (Nat.le_refl _))
  obtain ⟨A2, n2, q2, rfl⟩ := ho.shape3
  clear ho hs hx hg h
  go_wp2
  go_ret
  exact ⟨_, xs, rfl, HO.out, hk, hl, HX.out⟩
end Go.Proofs.Ytmndkbheehcoaaa
/- Lists of changes: copied, counted, held against each other. No condition. -/
namespace Go.Proofs.Ytmndkbheehcoaaa
open Go.RowKit
set_option linter.unusedVariables false
set_option linter.unusedSimpArgs false

structure Chg where
  n : ByteArray
  ho : Bool
  o : ByteArray
  hn : Bool
  nw : ByteArray
def Chg.enc (c : Chg) : List Value := [.string c.n, .bool c.ho, .string c.o, .bool c.hn, .string c.nw]
def tChg : Ty Chg := ⟨5, fun c => [.string c.n, .bool c.ho, .string c.o, .bool c.hn, .string c.nw], fun c => c.n.size ≤ 140737488351232 ∧ c.o.size ≤ 140737488351232 ∧ c.nw.size ≤ 140737488351232, fun _ _ => rfl, fun _ u hu => by simp at hu; rcases hu with rfl | rfl | rfl | rfl | rfl <;> rfl⟩
theorem aggChangeI : Agg Try.prog 90 5 := Agg.mkS (fs := _) Try.underlying90 (by kernel_rfl)
set_option maxHeartbeats 1000000 in
set_option maxRecDepth 100000 in
theorem eqChgT_any (c : Chg) (hc : tChg.ok c) (w : World) :
    Calls Try.prog 97 #[.agg (tChg.enc c).toArray, .agg (tChg.enc c).toArray] w fun e w' => e = .returned (.bool true) ∧ Ext w w' := by
  have q1 : (c.n.toList != c.n.toList) = false := by simp
  have q2 : (c.o.toList != c.o.toList) = false := by simp
  have q3 : (c.nw.toList != c.nw.toList) = false := by simp
  have q4 : (c.ho != c.ho) = false := by simp
  have q5 : (c.hn != c.hn) = false := by simp
  show Calls Try.prog 97 #[.agg #[.string c.n, .bool c.ho, .string c.o, .bool c.hn, .string c.nw], .agg #[.string c.n, .bool c.ho, .string c.o, .bool c.hn, .string c.nw]] w _
  go_enter Try.func97, Try.ntmps97
  go_wp2
  go_ret
  exact ⟨rfl, (ext_alloc _ _).alloc _⟩
set_option maxHeartbeats 1000000 in
set_option maxRecDepth 100000 in
theorem eqChangeS_u (v u : Value) (xs : List Chg) (w : World) (S S' : Nat → Prop) (h : RdL tChg w S v xs) (h' : RdL tChg w S' u xs) :
    Calls Try.prog 29 #[v, u] w fun e w' => e = .returned (.bool true) ∧ Ext w w' := by
  obtain ⟨A, cap, rfl, hcap, hlen, hrd, hok⟩ := h
  obtain ⟨A', cap', rfl, hcap', hlen', hrd', hok'⟩ := h'
  have Hrd := Lib.hid hrd
  have Hrd' := Lib.hid hrd'
  have Hok := Lib.hid hok
  clear hrd hok hrd' hok'
  have hl1 : ((xs.length : Int) != (xs.length : Int)) = false := by simp
  go_enter Try.func29, Try.ntmps29
  go_wp2
  go_loopw [5] (fun i wr => ∃ k : Nat, k ≤ xs.length ∧ i = .int .i64 k ∧ Ext w wr) (fun i _ => xs.length - (intOf i).toNat)
  case atStart => exact ⟨0, by omega, rfl, Ext.refl _⟩
  case round =>
    obtain ⟨k, hk, rfl, hx⟩ := hrel
    have HX := Lib.hid hx
    clear hx hl1
    by_cases hlt : k < xs.length
    · obtain ⟨g, o, rfl, hs, hc⟩ := Hrd.out.elem Hok.out k hlt
      obtain ⟨g2, o2, rfl, hs2, hc2⟩ := Hrd'.out.elem Hok.out k hlt
      have HX0 := Lib.hid (show (tChg).ok xs[k] from Hok.out _ (List.getElem_mem hlt))
      have HD := Lib.hid (show ∀ j u, ((tChg).enc xs[k])[j]? = some u → wr.cell? ⟨g, o + k * 5 + j, none⟩ = some u from fun j u hu => HX.out.cell (hc j u hu))
      have HD2 := Lib.hid (show ∀ j u, ((tChg).enc xs[k])[j]? = some u → wr.cell? ⟨g2, o2 + k * 5 + j, none⟩ = some u from fun j u hu => HX.out.cell (hc2 j u hu))
      clear hc hc2
      have hi : (0 : Int) ≤ (k : Int) := by omega
      have hi2 : (k : Int) < (xs.length : Int) := by omega
      go_wp2_with fail
      refine wp_region_held_drew (S := fun W => Ext wr W) (by kernel_rfl) (Ext.refl _).drew (fun hHeld => ?_)
      refine wpAnyH_take (i := 0) (oi := ?oiq0) (v := ?vq0) ?hiq0 (by kernel_rfl) (by kernel_rfl) (by kernel_rfl) ?hQq0 ?hyq0 (by assumption) ?restq0
      case hiq0 => simp only [List.getElem?_toArray, List.getElem?_cons_zero, List.getElem?_cons_succ]; rfl
      case hQq0 => exact fun _ _ _ h => h
      case hyq0 => exact Or.inl ⟨by rfl, by intro w hSw; go_simp; with_reducible rfl⟩
      try simp only [Act.put, List.setIfInBounds_toArray, List.set_cons_zero, List.set_cons_succ]
      refine wpAnyH_take (i := 1) (oi := ?oiq1) (v := ?vq1) ?hiq1 (by kernel_rfl) (by kernel_rfl) (by kernel_rfl) ?hQq1 ?hyq1 (by assumption) ?restq1
      case hiq1 => simp only [List.getElem?_toArray, List.getElem?_cons_zero, List.getElem?_cons_succ]; rfl
      case hQq1 => exact fun _ _ _ h => h
      case hyq1 => exact Or.inl ⟨by rfl, by intro w hSw; go_simp; with_reducible rfl⟩
      try simp only [Act.put, List.setIfInBounds_toArray, List.set_cons_zero, List.set_cons_succ]
      refine wpAnyH_take (i := 2) (oi := ?oiq2) (v := ?vq2) ?hiq2 (by kernel_rfl) (by kernel_rfl) (by kernel_rfl) ?hQq2 ?hyq2 (by assumption) ?restq2
      case hiq2 => simp only [List.getElem?_toArray, List.getElem?_cons_zero, List.getElem?_cons_succ]; rfl
      case hQq2 => exact fun _ _ _ h => h
      case hyq2 => exact Or.inl ⟨by rfl, by intro w hSw; go_simp; with_reducible rfl⟩
      try simp only [Act.put, List.setIfInBounds_toArray, List.set_cons_zero, List.set_cons_succ]
      refine wpAnyH_take (i := 3) (oi := ?oiq3) (v := (.agg ((tChg).enc xs[k]).toArray)) ?hiq3 (by kernel_rfl) (by kernel_rfl) (by kernel_rfl) ?hQq3 ?hyq3 (by assumption) ?restq3
      case hiq3 => simp only [List.getElem?_toArray, List.getElem?_cons_zero, List.getElem?_cons_succ]; rfl
      case hQq3 => exact fun _ _ _ h => h
      case hyq3 => refine yields_loadR g (o + k * 5) ((tChg).enc xs[k]) (by rw [(tChg).len _ HX0.out]; exact aggChangeI) HD.out ?_ _ rfl rfl; rfl
      try simp only [Act.put, List.setIfInBounds_toArray, List.set_cons_zero, List.set_cons_succ]
      refine wpAnyH_take (i := 4) (oi := ?oiq4) (v := ?vq4) ?hiq4 (by kernel_rfl) (by kernel_rfl) (by kernel_rfl) ?hQq4 ?hyq4 (by assumption) ?restq4
      case hiq4 => simp only [List.getElem?_toArray, List.getElem?_cons_zero, List.getElem?_cons_succ]; rfl
      case hQq4 => exact fun _ _ _ h => h
      case hyq4 => exact Or.inl ⟨by rfl, by intro w hSw; go_simp; with_reducible rfl⟩
      try simp only [Act.put, List.setIfInBounds_toArray, List.set_cons_zero, List.set_cons_succ]
      refine wpAnyH_take (i := 5) (oi := ?oiq5) (v := ?vq5) ?hiq5 (by kernel_rfl) (by kernel_rfl) (by kernel_rfl) ?hQq5 ?hyq5 (by assumption) ?restq5
      case hiq5 => simp only [List.getElem?_toArray, List.getElem?_cons_zero, List.getElem?_cons_succ]; rfl
      case hQq5 => exact fun _ _ _ h => h
      case hyq5 => exact Or.inl ⟨by rfl, by intro w hSw; go_simp; with_reducible rfl⟩
      try simp only [Act.put, List.setIfInBounds_toArray, List.set_cons_zero, List.set_cons_succ]
      refine wpAnyH_take (i := 6) (oi := ?oiq6) (v := ?vq6) ?hiq6 (by kernel_rfl) (by kernel_rfl) (by kernel_rfl) ?hQq6 ?hyq6 (by assumption) ?restq6
      case hiq6 => simp only [List.getElem?_toArray, List.getElem?_cons_zero, List.getElem?_cons_succ]; rfl
      case hQq6 => exact fun _ _ _ h => h
      case hyq6 => exact Or.inl ⟨by rfl, by intro w hSw; go_simp; with_reducible rfl⟩
      try simp only [Act.put, List.setIfInBounds_toArray, List.set_cons_zero, List.set_cons_succ]
      refine wpAnyH_take (i := 7) (oi := ?oiq7) (v := (.agg ((tChg).enc xs[k]).toArray)) ?hiq7 (by kernel_rfl) (by kernel_rfl) (by kernel_rfl) ?hQq7 ?hyq7 (by assumption) ?restq7
      case hiq7 => simp only [List.getElem?_toArray, List.getElem?_cons_zero, List.getElem?_cons_succ]; rfl
      case hQq7 => exact fun _ _ _ h => h
      case hyq7 => refine yields_loadR g2 (o2 + k * 5) ((tChg).enc xs[k]) (by rw [(tChg).len _ HX0.out]; exact aggChangeI) HD2.out ?_ _ rfl rfl; rfl
      try simp only [Act.put, List.setIfInBounds_toArray, List.set_cons_zero, List.set_cons_succ]
      refine wpAnyH_ready (rs := [8]) (by kernel_rfl) (by simp) (AllReadyH.cons (o := ?o8) ?h8 (fun K hK => ?s8) AllReadyH.nil)
      case h8 => simp only [List.getElem?_toArray, List.getElem?_cons_zero, List.getElem?_cons_succ]; rfl
      go_simp
      refine (eqChgT_any xs[k] HX0.out _).mono ?_
      rintro e w1 ⟨rfl, hx⟩
      have hH2 := hHeld.trans hx
      refine hK.out _ _ hH2 (fun _ => ?_)
      clear hHeld hK K
      have hHeld := hH2
      clear hH2 hx
      try simp only [Act.put, List.setIfInBounds_toArray, List.set_cons_zero, List.set_cons_succ]
      refine wpAnyH_take (i := 9) (oi := ?oiq9) (v := ?vq9) ?hiq9 (by kernel_rfl) (by kernel_rfl) (by kernel_rfl) ?hQq9 ?hyq9 (by assumption) ?restq9
      case hiq9 => simp only [List.getElem?_toArray, List.getElem?_cons_zero, List.getElem?_cons_succ]; rfl
      case hQq9 => exact fun _ _ _ h => h
      case hyq9 => exact Or.inl ⟨by rfl, by intro w hSw; go_simp; with_reducible rfl⟩
      try simp only [Act.put, List.setIfInBounds_toArray, List.set_cons_zero, List.set_cons_succ]
      refine wpAnyH_done (by kernel_rfl) ?_ _
      have HX2 := Lib.hid (HX.out.trans hHeld)
      clear hHeld
      go_wp2
      go_roundw
      case rel => exact ⟨k + 1, by omega, by go_num, HX2.out⟩
      case measure => simp [intOf]; omega
    · go_wp2
      go_ret
      exact ⟨rfl, HX.out⟩

/-- how much the entries take -/
@[irreducible] def chgsN (l : List Chg) : Nat := l.length + (l.map fun e => e.n.size + e.o.size + e.nw.size).sum
theorem chgsN_eq (l : List Chg) : chgsN l = l.length + (l.map fun e => e.n.size + e.o.size + e.nw.size).sum := by rw [chgsN]
def sumC (l : List Chg) (k : Nat) : Nat := ((l.take k).map fun e => e.n.size + e.o.size + e.nw.size).sum
theorem sumC_zero (l : List Chg) : sumC l 0 = 0 := by simp [sumC]
theorem sumC_succ (l : List Chg) (k : Nat) (h : k < l.length) : sumC l (k + 1) = sumC l k + (l[k].n.size + l[k].o.size + l[k].nw.size) := by
  unfold sumC
  rw [List.take_succ_eq_append_getElem h, List.map_append, List.sum_append]; simp
theorem sumC_le (l : List Chg) (k : Nat) : sumC l k ≤ (l.map fun e => e.n.size + e.o.size + e.nw.size).sum := by
  unfold sumC
  conv => rhs; rw [← List.take_append_drop k l, List.map_append, List.sum_append]
  omega
end Go.Proofs.Ytmndkbheehcoaaa
/- Which changes are valid. No condition. -/
namespace Go.Proofs.Ytmndkbheehcoaaa
open Go.RowKit
set_option linter.unusedVariables false
set_option linter.unusedSimpArgs false

/-- a value that is there or empty -/
def valB (t : Bool) (v : ByteArray) : Bool := decide (v.size ≤ 64) && (t || v.toList.isEmpty)
/-- a valid change -/
def chgB (c : Chg) : Bool := nameB c.n && valB c.ho c.o && valB c.hn c.nw && (c.ho || c.hn) && !(c.ho && c.hn && (c.o.toList == c.nw.toList))
set_option maxHeartbeats 1000000 in
set_option maxRecDepth 100000 in
theorem isVal_any (t : Bool) (v : ByteArray) (hv : v.size ≤ 140737488351232) (w : World) : Calls Try.prog 163 #[.bool t, .string v] w fun e w' => e = .returned (.bool (valB t v)) ∧ w = w' := by
  unfold valB
  by_cases h1 : v.size ≤ 64
  · have h1' : (v.size : Int) ≤ 64 := by omega
    have d1 : decide (v.size ≤ 64) = true := by simpa using h1
    rw [d1]
    cases t with
    | true =>
      go_enter Try.func163, Try.ntmps163
      go_wp2
      go_ret
      exact ⟨rfl, rfl⟩
    | false =>
      go_enter Try.func163, Try.ntmps163
      go_wp2
      go_ret
      exact ⟨by simp, rfl⟩
  · have h1' : ¬ (v.size : Int) ≤ 64 := by omega
    have d1 : decide (v.size ≤ 64) = false := by simpa using h1
    rw [d1]
    go_enter Try.func163, Try.ntmps163
    go_wp2
    go_ret
    exact ⟨rfl, rfl⟩
set_option maxHeartbeats 1000000 in
set_option maxRecDepth 100000 in
theorem isChange_any (c : Chg) (hc : tChg.ok c) (w : World) : Calls Try.prog 134 #[.agg (tChg.enc c).toArray] w fun e w' => e = .returned (.bool (chgB c)) ∧ Ext w w' := by
  obtain ⟨b1, b2, b3⟩ := hc
  have hnm := isName_any c.n b1
  have hvo := isVal_any c.ho c.o b2
  have hvn := isVal_any c.hn c.nw b3
  obtain ⟨R, hR⟩ : ∃ R, chgB c = R := ⟨_, rfl⟩
  rw [hR]
  unfold chgB at hR
  show Calls Try.prog 134 #[.agg #[.string c.n, .bool c.ho, .string c.o, .bool c.hn, .string c.nw]] w _
  obtain ⟨n, ho, o, hn, nw⟩ := c
  simp only at hnm hvo hvn hR ⊢
  cases h1 : nameB n with
  | false =>
    rw [h1] at hnm hR
    simp at hR
    subst hR
    go_enter Try.func134, Try.ntmps134
    go_wp2_with fail
    refine (hnm _).mono ?_
    rintro e w' ⟨rfl, rfl⟩
    go_wp2
    go_ret
    exact ⟨rfl, ext_alloc _ _⟩
  | true =>
    cases h2 : valB ho o with
    | false =>
      rw [h1] at hnm hR
      rw [h2] at hvo hR
      simp at hR
      subst hR
      go_enter Try.func134, Try.ntmps134
      go_wp2_with fail
      refine (hnm _).mono ?_
      rintro e w' ⟨rfl, rfl⟩
      go_wp2_with fail
      refine (hvo _).mono ?_
      rintro e w' ⟨rfl, rfl⟩
      go_wp2
      go_ret
      exact ⟨rfl, ext_alloc _ _⟩
    | true =>
      cases h3 : valB hn nw with
      | false =>
        rw [h1] at hnm hR
        rw [h2] at hvo hR
        rw [h3] at hvn hR
        simp at hR
        subst hR
        go_enter Try.func134, Try.ntmps134
        go_wp2_with fail
        refine (hnm _).mono ?_
        rintro e w' ⟨rfl, rfl⟩
        go_wp2_with fail
        refine (hvo _).mono ?_
        rintro e w' ⟨rfl, rfl⟩
        go_wp2_with fail
        refine (hvn _).mono ?_
        rintro e w' ⟨rfl, rfl⟩
        go_wp2
        go_ret
        exact ⟨rfl, ext_alloc _ _⟩
      | true =>
        rw [h1] at hnm hR
        rw [h2] at hvo hR
        rw [h3] at hvn hR
        cases h4 : (o.toList == nw.toList) with
        | true =>
          rw [h4] at hR
          cases ho <;> cases hn
          all_goals
            simp at hR
            subst hR
            go_enter Try.func134, Try.ntmps134
            go_wp2_with fail
            refine (hnm _).mono ?_
            rintro e w' ⟨rfl, rfl⟩
            go_wp2_with fail
            refine (hvo _).mono ?_
            rintro e w' ⟨rfl, rfl⟩
            go_wp2_with fail
            refine (hvn _).mono ?_
            rintro e w' ⟨rfl, rfl⟩
            go_wp2
            go_ret
            exact ⟨rfl, ext_alloc _ _⟩
        | false =>
          rw [h4] at hR
          cases ho <;> cases hn
          all_goals
            simp at hR
            subst hR
            go_enter Try.func134, Try.ntmps134
            go_wp2_with fail
            refine (hnm _).mono ?_
            rintro e w' ⟨rfl, rfl⟩
            go_wp2_with fail
            refine (hvo _).mono ?_
            rintro e w' ⟨rfl, rfl⟩
            go_wp2_with fail
            refine (hvn _).mono ?_
            rintro e w' ⟨rfl, rfl⟩
            go_wp2
            go_ret
            exact ⟨rfl, ext_alloc _ _⟩
end Go.Proofs.Ytmndkbheehcoaaa
/- Which lists of changes are valid: the reference and the program. No condition. -/
namespace Go.Proofs.Ytmndkbheehcoaaa
open Go.RowKit
set_option linter.unusedVariables false
set_option linter.unusedSimpArgs false

/-- all changes are valid -/
@[irreducible] def okCs (L : List Chg) : Bool := L.all chgB
theorem okCs_bad {L : List Chg} {k : Nat} (hk : k < L.length) (h : chgB L[k] = false) : okCs L = false := by
  rw [okCs, List.all_eq_false]
  exact ⟨L[k], List.getElem_mem hk, by rw [h]; decide⟩
theorem okCs_good {L : List Chg} (h : ∀ p (hp : p < L.length), chgB L[p] = true) : okCs L = true := by
  rw [okCs, List.all_eq_true]
  intro x hx
  obtain ⟨i, hi, rfl⟩ := List.getElem_of_mem hx
  exact h i hi
theorem okCs_at {L : List Chg} (h : okCs L = true) {k : Nat} (hk : k < L.length) : chgB L[k] = true := by
  rw [okCs, List.all_eq_true] at h
  exact h _ (List.getElem_mem hk)
set_option maxHeartbeats 1000000 in
set_option maxRecDepth 100000 in
theorem chgFn_any (c : Chg) (hc : tChg.ok c) (w : World) :
    Calls Try.prog 133 #[.agg (tChg.enc c).toArray] w fun e w' => e = .returned (.bool (!chgB c)) ∧ Ext w w' := by
  have hv := fun W => isChange_any c hc W
  have hb : Blk (w.alloc (.cells (tChg.enc c).toArray 90)) w.heap.size 90 (tChg.enc c).toArray := Blk.new w _ _
  go_enter Try.func133, Try.ntmps133
  go_wp2_with (refine wpl_loadB hb aggChangeI rfl rfl _ rfl rfl ?_)
  refine (hv _).mono ?_
  rintro e w1 ⟨rfl, hx⟩
  have XW := Lib.hid ((ext_alloc w _).trans hx)
  clear hx hv hb
  go_wp2
  go_ret
  exact ⟨rfl, XW.out⟩
set_option maxHeartbeats 1000000 in
set_option maxRecDepth 100000 in
theorem chgIdx_any (v : Value) (L : List Chg) (w : World) (S : Nat → Prop) (h : RdL tChg w S v L) :
    Calls Try.prog 162 #[v, .func (.func 133) #[] #[]] w fun q w' => (∃ r : Int, q = .returned (.int .i64 r) ∧ decide (0 ≤ r) = !okCs L) ∧ Ext w w' := by
  obtain ⟨A, cap, rfl, hcap, hlen, hrd, hok⟩ := h
  have Hrd := Lib.hid hrd
  have Hok := Lib.hid hok
  clear hrd hok
  go_enter Try.func162, Try.ntmps162
  go_wp2
  go_loopw [8] (fun i wr => ∃ k : Nat, k ≤ L.length ∧ i = .int .i64 k ∧ (∀ p (hp : p < L.length), p < k → chgB L[p] = true) ∧ Ext w wr) (fun i _ => L.length - (intOf i).toNat)
  case atStart => exact ⟨0, by omega, rfl, fun j hj h => by omega, Ext.refl _⟩
  case round =>
    obtain ⟨k, hk, rfl, hm, hx⟩ := hrel
    have HX := Lib.hid hx
    have HM := Lib.hid hm
    clear hx hm
    by_cases hlt : k < L.length
    · obtain ⟨g, o, rfl, hs0, hc⟩ := Hrd.out.elem Hok.out k hlt
      have HD0 := Lib.hid (show ∀ j u, (tChg.enc L[k])[j]? = some u → wr.cell? ⟨g, o + k * 5 + j, none⟩ = some u from fun j u hu => HX.out.cell (hc j u hu))
      have HXO := Lib.hid (show tChg.ok L[k] from Hok.out _ (List.getElem_mem hlt))
      have hf := fun W => chgFn_any L[k] HXO.out W
      have hk0 : (0 : Int) ≤ (k : Int) := by omega
      have hk2 : (k : Int) < (L.length : Int) := by omega
      clear hc
      cases hq : chgB L[k] with
      | true =>
        simp only [hq] at hf
        go_wp2_with (refine wpl_load ⟨g, o + k * 5, none⟩ (tChg.enc L[k]) aggChangeI rfl _ rfl rfl (fun j u hu => by rw [Addr.add_lit]; exact HD0.out j u hu) ?_)
        refine (hf _).mono ?_
        rintro e w1 ⟨rfl, hx⟩
        have HX1 := Lib.hid (HX.out.trans hx)
        clear hx hf
        go_wp2
        go_roundw
        case rel => exact ⟨k + 1, by omega, by go_num, fun p hp h => by
          by_cases e : p = k
          · subst e; exact hq
          · exact HM.out p hp (by omega), HX1.out⟩
        case measure => simp [intOf]; omega
      | false =>
        simp only [hq] at hf
        have HQ := Lib.hid (okCs_bad hlt hq)
        go_wp2_with (refine wpl_load ⟨g, o + k * 5, none⟩ (tChg.enc L[k]) aggChangeI rfl _ rfl rfl (fun j u hu => by rw [Addr.add_lit]; exact HD0.out j u hu) ?_)
        refine (hf _).mono ?_
        rintro e w1 ⟨rfl, hx⟩
        have HX1 := Lib.hid (HX.out.trans hx)
        clear hx hf
        go_wp2
        go_ret
        exact ⟨⟨k, rfl, by rw [HQ.out]; simp⟩, HX1.out⟩
    · obtain rfl : k = L.length := by omega
      have HQ := Lib.hid (okCs_good fun p hp => HM.out p hp hp)
      go_wp2
      go_ret
      exact ⟨⟨-1, rfl, by rw [HQ.out]; rfl⟩, HX.out⟩
set_option maxHeartbeats 1000000 in
set_option maxRecDepth 100000 in
theorem chgContains_any (v : Value) (L : List Chg) (w : World) (S : Nat → Prop) (h : RdL tChg w S v L) :
    Calls Try.prog 132 #[v, .func (.func 133) #[] #[]] w fun q w' => q = .returned (.bool (!okCs L)) ∧ Ext w w' := by
  have hi := chgIdx_any v L w S h
  obtain ⟨A, cap, rfl, _⟩ := h
  go_enter Try.func132, Try.ntmps132
  go_wp2_with fail
  refine hi.mono ?_
  rintro e w1 ⟨⟨r, rfl, hr⟩, hx⟩
  have HX := Lib.hid hx
  have HR := Lib.hid hr
  clear hx hr hi
  go_wp2
  go_ret
  exact ⟨by rw [← HR.out]; rfl, HX.out⟩
end Go.Proofs.Ytmndkbheehcoaaa
/- Changes made one after the other, plainly. No condition. -/
namespace Go.Proofs.Ytmndkbheehcoaaa
open Go.RowKit
set_option linter.unusedVariables false
set_option linter.unusedSimpArgs false

theorem rd_ent0 {w : World} {S : Nat → Prop} {A : Option Addr} {c n : Nat} {xs : List En} (h : RdL tEnt w S (.slice A n c) xs) : Rd w S tEnt.sz A xs.length (xs.flatMap tEnt.enc) := by
  obtain ⟨A', cap, e, h1, h2, h3, h4⟩ := h
  injection e with e1 e2 e3
  subst e1
  exact h3
/-- a change that does not fit -/
def badC (out : List En) (c : Chg) : Bool := (c.ho != hasE out c.n) || (hasE out c.n && ((gE out (posE out c.n)).2.toList != c.o.toList))
/-- one change: the code, and the map -/
def aplS (out : List En) (c : Chg) : Int × List En := if badC out c then (4, []) else if c.hn then (if 64 < (putEnd (c.n, c.nw) (putF (c.n, c.nw) out)).length then (3, []) else (0, putEnd (c.n, c.nw) (putF (c.n, c.nw) out))) else (0, out.filter (notN c.n))
theorem aplS_bad {out : List En} {c : Chg} (h : badC out c = true) : aplS out c = (4, []) := by rw [aplS, if_pos h]
theorem aplS_lim {out : List En} {c : Chg} (h : badC out c = false) (h2 : c.hn = true) (h3 : 64 < (putEnd (c.n, c.nw) (putF (c.n, c.nw) out)).length) : aplS out c = (3, []) := by rw [aplS, if_neg (by rw [h]; decide), if_pos h2, if_pos h3]
theorem aplS_put {out : List En} {c : Chg} (h : badC out c = false) (h2 : c.hn = true) (h3 : ¬ 64 < (putEnd (c.n, c.nw) (putF (c.n, c.nw) out)).length) : aplS out c = (0, putEnd (c.n, c.nw) (putF (c.n, c.nw) out)) := by rw [aplS, if_neg (by rw [h]; decide), if_pos h2, if_neg h3]
theorem aplS_del {out : List En} {c : Chg} (h : badC out c = false) (h2 : c.hn = false) : aplS out c = (0, out.filter (notN c.n)) := by rw [aplS, if_neg (by rw [h]; decide), if_neg (by rw [h2]; decide)]
def aplF : List En → List Chg → List En × Int
  | out, [] => (out, 0)
  | out, c :: r => if (aplS out c).1 = 0 then aplF (aplS out c).2 r else ([], (aplS out c).1)
theorem aplF_nil (out : List En) : aplF out [] = (out, 0) := rfl
theorem aplF_cons (out : List En) (c : Chg) (r : List Chg) : aplF out (c :: r) = if (aplS out c).1 = 0 then aplF (aplS out c).2 r else ([], (aplS out c).1) := rfl
attribute [irreducible] aplF
/-- what ApplyChanges returns -/
def aplR (L : List En) (C : List Chg) : List En × Int := if okE L && okCs C then aplF L C else ([], 1)
theorem chgB_name {c : Chg} (h : chgB c = true) : nameB c.n = true ∧ c.nw.size ≤ 64 ∧ (c.ho = true ∨ c.hn = true) := by
  unfold chgB valB at h
  simp only [Bool.and_eq_true, Bool.or_eq_true, decide_eq_true_eq] at h
  exact ⟨h.1.1.1.1, h.1.1.2.1, h.1.2⟩
theorem chgB_ent {c : Chg} (h : chgB c = true) : entB c.n c.nw = true := by
  obtain ⟨h1, h2, _⟩ := chgB_name h
  rw [entB_eq, h1, decide_eq_true h2]
  rfl
theorem okE_mk {L : List En} (h1 : incs L L.length = true) (h2 : L.length ≤ 64) : okE L = true := by rw [okE_eq, h1, decide_eq_true h2]; rfl
theorem okE_put {L : List En} {c : Chg} (h : okE L = true) (hc : chgB c = true) (hl : ¬ 64 < (putEnd (c.n, c.nw) (putF (c.n, c.nw) L)).length) : okE (putEnd (c.n, c.nw) (putF (c.n, c.nw) L)) = true :=
  okE_mk (incs_put (okE_incs' h).1 (chgB_ent hc)) (by omega)
theorem okE_del {L : List En} {s : ByteArray} (h : okE L = true) : okE (L.filter (notN s)) = true :=
  okE_mk (incs_filter (okE_incs' h).1 _) (Nat.le_trans (List.length_filter_le _ _) (okE_incs' h).2)
theorem aplF_len (C : List Chg) (out : List En) (h : out.length ≤ 64) : (aplF out C).1.length ≤ 64 := by
  induction C generalizing out with
  | nil => rw [aplF_nil]; exact h
  | cons c r ih =>
    rw [aplF_cons]
    split
    · refine ih _ ?_
      rename_i h0
      unfold aplS at h0 ⊢
      split at h0
      · simp at h0
      · rename_i hb
        rw [if_neg hb]
        split at h0
        · rename_i hn
          rw [if_pos hn]
          split at h0
          · simp at h0
          · rename_i hl
            rw [if_neg hl]
            show (putEnd _ _).length ≤ 64
            omega
        · rename_i hn
          rw [if_neg hn]
          exact Nat.le_trans (List.length_filter_le _ _) h
    · exact Nat.zero_le _
end Go.Proofs.Ytmndkbheehcoaaa
/- Mixing of blocks into a state, in plain words. No condition. -/
namespace Go.Proofs.Ytmndkbheehcoaaa
open Go.RowKit
set_option linter.unusedVariables false
set_option linter.unusedSimpArgs false

/-- words of 32 bits -/
def U32 (xs : List Int) : Prop := ∀ x ∈ xs, 0 ≤ x ∧ x ≤ 4294967295
theorem U32.get {xs : List Int} (h : U32 xs) (i : Nat) : 0 ≤ gI xs i ∧ gI xs i ≤ 4294967295 := by
  unfold gI
  by_cases hi : i < xs.length
  · have := h (xs[i]) (List.getElem_mem hi); simpa [List.getD_eq_getElem?_getD, List.getElem?_eq_getElem hi] using this
  · simp [List.getD_eq_getElem?_getD, List.getElem?_eq_none (by omega : xs.length ≤ i)]
theorem U32.set {xs : List Int} (h : U32 xs) (i : Nat) {x : Int} (hx : 0 ≤ x ∧ x ≤ 4294967295) : U32 (xs.set i x) := by
  intro y hy
  rcases List.mem_or_eq_of_mem_set hy with hy | rfl
  · exact h y hy
  · exact hx
theorem gI_set (xs : List Int) (i j : Nat) (x : Int) (hi : i < xs.length) : gI (xs.set i x) j = if i = j then x else gI xs j := by
  unfold gI
  simp only [List.getD_eq_getElem?_getD, List.getElem?_set, hi, if_true]
  split <;> simp
theorem set_same (xs : List Int) (i : Nat) (h : i < xs.length) : xs.set i (gI xs i) = xs := by
  rw [gI_lt h]; exact List.set_getElem_self h
theorem mod32 (x : Int) : 0 ≤ x % 4294967296 ∧ x % 4294967296 ≤ 4294967295 := by omega
theorem bits32 (op : BinOp) (x y : Int) : 0 ≤ bits op .u32 x y ∧ bits op .u32 x y ≤ 4294967295 := by
  have h : ∀ z, 0 ≤ IntKind.u32.wrap z ∧ IntKind.u32.wrap z ≤ 4294967295 := fun z => by rw [IntKind.wrap_u32]; omega
  unfold bits
  exact h _
@[irreducible] def turn7 (x : Int) : Int := bits .or .u32 (x * 128 % 4294967296) (x / 33554432)
@[irreducible] def turn13 (x : Int) : Int := bits .or .u32 (x * 8192 % 4294967296) (x / 524288)
/-- word i of a block -/
def word (b : List Int) (i : Nat) : Int := littleN ((b.drop (4 * i)).take 4)
@[irreducible] def words (b : List Int) : List Int := (List.range 8).map (word b)
/-- one step of the mixing -/
@[irreducible] def mixStep (m : List Int) (r i : Nat) (s : List Int) : List Int :=
  s.set i ((bits .xor .u32 (turn7 ((gI s i + gI m ((i + 3 * r) % 8) + 2654435769 * (8 * (r : Int) + (i : Int) + 1)) % 4294967296)) (gI s ((i + 1) % 8)) + turn13 (gI s ((i + 5) % 8))) % 4294967296)
def mixInR (m : List Int) (r : Nat) : Nat → List Int → List Int
  | 0, s => s
  | i + 1, s => mixStep m r i (mixInR m r i s)
@[irreducible] def mixIn (m : List Int) (r i : Nat) (s : List Int) : List Int := mixInR m r i s
def mixOutR (m : List Int) : Nat → List Int → List Int
  | 0, s => s
  | r + 1, s => mixIn m r 8 (mixOutR m r s)
@[irreducible] def mixOut (m : List Int) (r : Nat) (s : List Int) : List Int := mixOutR m r s
def xorInR (st : List Int) : Nat → List Int → List Int
  | 0, s => s
  | i + 1, s => (xorInR st i s).set i (bits .xor .u32 (gI (xorInR st i s) i) (gI st i))
@[irreducible] def xorIn (st : List Int) (i : Nat) (s : List Int) : List Int := xorInR st i s
theorem mixIn_zero (m : List Int) (r : Nat) (s : List Int) : mixIn m r 0 s = s := by unfold mixIn; rfl
theorem mixIn_succ (m : List Int) (r i : Nat) (s : List Int) : mixIn m r (i + 1) s = mixStep m r i (mixIn m r i s) := by unfold mixIn; rfl
theorem mixOut_zero (m s : List Int) : mixOut m 0 s = s := by unfold mixOut; rfl
theorem mixOut_succ (m : List Int) (r : Nat) (s : List Int) : mixOut m (r + 1) s = mixIn m r 8 (mixOut m r s) := by unfold mixOut; rfl
theorem xorIn_zero (st s : List Int) : xorIn st 0 s = s := by unfold xorIn; rfl
theorem xorIn_succ (st : List Int) (i : Nat) (s : List Int) : xorIn st (i + 1) s = (xorIn st i s).set i (bits .xor .u32 (gI (xorIn st i s) i) (gI st i)) := by unfold xorIn; rfl
/-- a block mixed into a state -/
@[irreducible] def mixL (st b : List Int) : List Int := xorIn st 8 (mixOut (words b) 12 st)
theorem words_eq (b : List Int) : words b = (List.range 8).map (word b) := by rw [words]
theorem words_length (b : List Int) : (words b).length = 8 := by simp [words]
theorem mixStep_length (m : List Int) (r i : Nat) (s : List Int) : (mixStep m r i s).length = s.length := by simp [mixStep]
theorem mixIn_length (m : List Int) (r i : Nat) (s : List Int) : (mixIn m r i s).length = s.length := by
  induction i with
  | zero => rw [mixIn_zero]
  | succ i ih => simp [mixIn_succ, mixStep_length, ih]
theorem mixOut_length (m : List Int) (r : Nat) (s : List Int) : (mixOut m r s).length = s.length := by
  induction r with
  | zero => rw [mixOut_zero]
  | succ r ih => rw [mixOut_succ, mixIn_length, ih]
theorem xorIn_length (st : List Int) (i : Nat) (s : List Int) : (xorIn st i s).length = s.length := by
  induction i with
  | zero => rw [xorIn_zero]
  | succ i ih => simp [xorIn_succ, ih]
theorem mixIn_ok (m : List Int) (r i : Nat) (s : List Int) (h : U32 s) : U32 (mixIn m r i s) := by
  induction i with
  | zero => rwa [mixIn_zero]
  | succ i ih => rw [mixIn_succ, mixStep]; exact ih.set _ (mod32 _)
theorem mixOut_ok (m : List Int) (r : Nat) (s : List Int) (h : U32 s) : U32 (mixOut m r s) := by
  induction r with
  | zero => rwa [mixOut_zero]
  | succ r ih => rw [mixOut_succ]; exact mixIn_ok _ _ _ _ ih
theorem xorIn_ok (st : List Int) (i : Nat) (s : List Int) (h : U32 s) : U32 (xorIn st i s) := by
  induction i with
  | zero => rwa [xorIn_zero]
  | succ i ih => rw [xorIn_succ]; exact ih.set _ (bits32 _ _ _)
theorem mixL_length (st b : List Int) (h : st.length = 8) : (mixL st b).length = 8 := by simp [mixL, xorIn_length, mixOut_length, h]
theorem mixL_ok (st b : List Int) (h : U32 st) : U32 (mixL st b) := by rw [mixL]; exact xorIn_ok _ _ _ (mixOut_ok _ _ _ h)
/-- the state of a tag -/
@[irreducible] def startL (tag : Int) : List Int := (List.range 8).map fun (i : Nat) => 16777619 * ((i : Int) + 1) + tag
theorem startL_length (tag : Int) : (startL tag).length = 8 := by simp [startL]
theorem startL_ok (tag : Int) (h : 0 ≤ tag ∧ tag ≤ 255) : U32 (startL tag) := by
  intro x hx
  rw [startL] at hx
  obtain ⟨i, hi, rfl⟩ := List.mem_map.1 hx
  have := List.mem_range.1 hi
  omega
theorem mapRange_set (f : Nat → Int) (n i : Nat) (h : i < n) : ((List.range i).map f ++ List.replicate (n - i) 0).set i (f i) = (List.range (i + 1)).map f ++ List.replicate (n - (i + 1)) 0 := by
  obtain ⟨k, rfl⟩ : ∃ k, n = i + 1 + k := ⟨n - (i + 1), by omega⟩
  rw [show i + 1 + k - i = k + 1 by omega, show i + 1 + k - (i + 1) = k by omega, List.range_succ, List.map_append, List.replicate_succ]
  rw [List.set_append_right _ _ (by simp)]
  simp

end Go.Proofs.Ytmndkbheehcoaaa
