/- What the walk of the law FnExactApplyChanges needs, part 3 of 4. No condition. -/
import Derived.Laws.BytesArg
import Derived.Test.YtikpakhccmdmcaaPFnExactApplyChanges2
/- An entry put into a map: the reference. No condition. -/
namespace Go.Proofs.Ytikpakhccmdmcaa
open Go.RowKit
set_option linter.unusedVariables false
set_option linter.unusedSimpArgs false

theorem put_next (e : En) (L : List En) (k : Nat) (h : k < L.length) : (L.take (k + 1)).foldl (putStep e) ([], false) = putStep e ((L.take k).foldl (putStep e) ([], false)) L[k] := by
  rw [List.take_succ_eq_append_getElem h, List.foldl_append]; rfl
set_option maxHeartbeats 1000000 in
set_option maxRecDepth 100000 in
theorem l04Put_any (v : Value) (L : List En) (e : En) (he : tEnt.ok e) (w : World) (S : Nat → Prop) (h : RdL tEnt w S v L) (h64 : L.length ≤ 64) :
    Calls Try.prog 99 #[v, .agg #[.string e.1, .string e.2]] w fun q w' => ∃ v', q = .returned v' ∧ Own tEnt 58 w' w.heap.size v' (putEnd e (putF e L)) ∧ Ext w w' := by
  obtain ⟨A, cap, rfl, hcap, hlen, hrd, hok⟩ := h
  have Hok := Lib.hid hok
  have Hrd := Lib.hid hrd
  have HE := Lib.hid he
  clear hrd hok he
  have hwx : ∃ wx, wx = w.alloc (.cells #[.string e.1, .string e.2] 58) ∧ wx.heap.size = w.heap.size + 1 := ⟨_, rfl, by simp⟩
  obtain ⟨wx, hwx, hsx⟩ := hwx
  have HWX := Lib.hid hwx
  have HB := Lib.hid (show ∀ W, Ext wx W → W.cell? ⟨w.heap.size, 0, none⟩ = some (.string e.1) ∧ W.cell? ⟨w.heap.size, 1, none⟩ = some (.string e.2) from fun W hW => by
    subst hwx
    exact ⟨hW.cell (by rw [(Blk.new w _ _).cell]; rfl), hW.cell (by rw [(Blk.new w _ _).cell]; rfl)⟩)
  have HXX := Lib.hid (show Ext w wx by subst hwx; exact ext_alloc _ _)
  go_enter Try.func99, Try.ntmps99
  go_wp2_with fail
  rw [← hwx]
  clear hwx
  go_loopw [5, 6, 7] (fun a f i wr => ∃ (k : Nat) (st : List En × Bool), k ≤ L.length ∧ i = .int .i64 k ∧ f = .bool st.2 ∧ (L.take k).foldl (putStep e) ([], false) = st ∧ Own tEnt 58 wr wx.heap.size a st.1 ∧ st.1.length ≤ 2 * k ∧ Ext wx wr) (fun _ _ i _ => L.length - (intOf i).toNat)
  case atStart => exact ⟨0, ([], false), by omega, rfl, rfl, by rw [List.take_zero]; rfl, by have := Own.empty tEnt wx 58 wx.heap.size (Nat.le_refl _); simpa only [hsx] using this, by simp, ext_alloc _ _⟩
  case round =>
    obtain ⟨k, ⟨R, fl⟩, hk, rfl, rfl, hst, ho, hRl, hx⟩ := hrel
    simp only at ho hRl
    obtain ⟨C, cn, cc, rfl⟩ := ho.shape3
    have HO := Lib.hid ho
    have HX := Lib.hid hx
    have HST := Lib.hid hst
    clear ho hx hst
    by_cases hlt : k < L.length
    · obtain ⟨g, o, rfl, hs0, hc⟩ := Hrd.out.elem Hok.out k hlt
      have HX0 := Lib.hid (show tEnt.ok L[k] from Hok.out _ (List.getElem_mem hlt))
      have HC := Lib.hid (show ∀ W, Ext wx W → W.cell? ⟨g, o + k * 2, none⟩ = some (.string L[k].1) ∧ W.cell? ⟨g, o + k * 2 + 1, none⟩ = some (.string L[k].2) from fun W hW => ⟨(HXX.out.trans hW).cell (hc 0 _ rfl), (HXX.out.trans hW).cell (hc 1 _ rfl)⟩)
      have HN := Lib.hid (put_next e L k hlt)
      have hk0 : (0 : Int) ≤ (k : Int) := by omega
      have hk2 : (k : Int) < (L.length : Int) := by omega
      clear hc
      cases fl with
      | true =>
        cases h1 : ltB L[k].1 e.1 with
        | true =>
          cases h2 : (L[k].1.toList == e.1.toList) with
          | true =>
            exact absurd (toList_inj (by simpa using h2)) (ltB_ne h1)
          | false =>
            have h1' : Op.bytesLess L[k].1.toList e.1.toList = true := by rw [ltB_eq]; exact h1
            have hnm : L[k].1 ≠ e.1 := fun q => by rw [q] at h2; simp at h2
            have HQ := Lib.hid (show putStep e (R, true) L[k] = (R ++ [L[k]], true) by simp [putStep, h1, hnm, ltB_irrefl])
            clear h1 hnm
            have d0 : ∀ W, Ext wr W → W.cell? ⟨g, o + k * 2, none⟩ = some (.string L[k].1) := fun W hW => (HC.out W (HX.out.trans hW)).1
            have b0 : ∀ W, Ext wr W → W.cell? ⟨w.heap.size, 0, none⟩ = some (.string e.1) := fun W hW => (HB.out W (HX.out.trans hW)).1
            go_wp2_with fail
            refine wp_region_held_drew (S := fun W => Ext wr W) (by kernel_rfl) (Ext.refl _).drew (fun hHeld => ?_)
            refine wpAnyH_take (i := 0) (oi := ?oiz1) (v := ?vz1) ?hiz1 (by kernel_rfl) (by kernel_rfl) (by kernel_rfl) ?hQz1 ?hyz1 (by assumption) ?restz1
            case hiz1 => simp only [List.getElem?_toArray, List.getElem?_cons_zero, List.getElem?_cons_succ]; rfl
            case hQz1 => exact fun _ _ _ h => h
            case hyz1 => exact Or.inl ⟨by rfl, by intro w hSw; (try dsimp only at hSw); go_simp; with_reducible rfl⟩
            try simp only [Act.put, List.setIfInBounds_toArray, List.set_cons_zero, List.set_cons_succ]
            refine wpAnyH_take (i := 1) (oi := ?oiz2) (v := ?vz2) ?hiz2 (by kernel_rfl) (by kernel_rfl) (by kernel_rfl) ?hQz2 ?hyz2 (by assumption) ?restz2
            case hiz2 => simp only [List.getElem?_toArray, List.getElem?_cons_zero, List.getElem?_cons_succ]; rfl
            case hQz2 => exact fun _ _ _ h => h
            case hyz2 => exact Or.inl ⟨by rfl, by intro w hSw; (try dsimp only at hSw); go_simp; with_reducible rfl⟩
            try simp only [Act.put, List.setIfInBounds_toArray, List.set_cons_zero, List.set_cons_succ]
            refine wpAnyH_take (i := 2) (oi := ?oiz3) (v := ?vz3) ?hiz3 (by kernel_rfl) (by kernel_rfl) (by kernel_rfl) ?hQz3 ?hyz3 (by assumption) ?restz3
            case hiz3 => simp only [List.getElem?_toArray, List.getElem?_cons_zero, List.getElem?_cons_succ]; rfl
            case hQz3 => exact fun _ _ _ h => h
            case hyz3 => exact Or.inl ⟨by rfl, by intro w hSw; (try dsimp only at hSw); go_simp; with_reducible rfl⟩
            try simp only [Act.put, List.setIfInBounds_toArray, List.set_cons_zero, List.set_cons_succ]
            refine wpAnyH_take (i := 3) (oi := ?oiz4) (v := undef) ?hiz4 (by kernel_rfl) (by kernel_rfl) (by kernel_rfl) ?hQz4 ?hyz4 (by assumption) ?restz4
            case hiz4 => simp only [List.getElem?_toArray, List.getElem?_cons_zero, List.getElem?_cons_succ]; rfl
            case hQz4 => exact fun _ _ _ h => h
            case hyz4 => exact Or.inr ⟨by rfl, rfl⟩
            try simp only [Act.put, List.setIfInBounds_toArray, List.set_cons_zero, List.set_cons_succ]
            refine wpAnyH_take (i := 4) (oi := ?oiz5) (v := undef) ?hiz5 (by kernel_rfl) (by kernel_rfl) (by kernel_rfl) ?hQz5 ?hyz5 (by assumption) ?restz5
            case hiz5 => simp only [List.getElem?_toArray, List.getElem?_cons_zero, List.getElem?_cons_succ]; rfl
            case hQz5 => exact fun _ _ _ h => h
            case hyz5 => exact Or.inr ⟨by rfl, rfl⟩
            try simp only [Act.put, List.setIfInBounds_toArray, List.set_cons_zero, List.set_cons_succ]
            refine wpAnyH_take (i := 5) (oi := ?oiz6) (v := undef) ?hiz6 (by kernel_rfl) (by kernel_rfl) (by kernel_rfl) ?hQz6 ?hyz6 (by assumption) ?restz6
            case hiz6 => simp only [List.getElem?_toArray, List.getElem?_cons_zero, List.getElem?_cons_succ]; rfl
            case hQz6 => exact fun _ _ _ h => h
            case hyz6 => exact Or.inr ⟨by rfl, rfl⟩
            try simp only [Act.put, List.setIfInBounds_toArray, List.set_cons_zero, List.set_cons_succ]
            refine wpAnyH_take (i := 6) (oi := ?oiz7) (v := undef) ?hiz7 (by kernel_rfl) (by kernel_rfl) (by kernel_rfl) ?hQz7 ?hyz7 (by assumption) ?restz7
            case hiz7 => simp only [List.getElem?_toArray, List.getElem?_cons_zero, List.getElem?_cons_succ]; rfl
            case hQz7 => exact fun _ _ _ h => h
            case hyz7 => exact Or.inr ⟨by rfl, rfl⟩
            try simp only [Act.put, List.setIfInBounds_toArray, List.set_cons_zero, List.set_cons_succ]
            refine wpAnyH_take (i := 7) (oi := ?oiz8) (v := undef) ?hiz8 (by kernel_rfl) (by kernel_rfl) (by kernel_rfl) ?hQz8 ?hyz8 (by assumption) ?restz8
            case hiz8 => simp only [List.getElem?_toArray, List.getElem?_cons_zero, List.getElem?_cons_succ]; rfl
            case hQz8 => exact fun _ _ _ h => h
            case hyz8 => exact Or.inr ⟨by rfl, rfl⟩
            try simp only [Act.put, List.setIfInBounds_toArray, List.set_cons_zero, List.set_cons_succ]
            refine wpAnyH_take (i := 8) (oi := ?oiz9) (v := undef) ?hiz9 (by kernel_rfl) (by kernel_rfl) (by kernel_rfl) ?hQz9 ?hyz9 (by assumption) ?restz9
            case hiz9 => simp only [List.getElem?_toArray, List.getElem?_cons_zero, List.getElem?_cons_succ]; rfl
            case hQz9 => exact fun _ _ _ h => h
            case hyz9 => exact Or.inr ⟨by rfl, rfl⟩
            try simp only [Act.put, List.setIfInBounds_toArray, List.set_cons_zero, List.set_cons_succ]
            refine wpAnyH_take (i := 9) (oi := ?oiz10) (v := undef) ?hiz10 (by kernel_rfl) (by kernel_rfl) (by kernel_rfl) ?hQz10 ?hyz10 (by assumption) ?restz10
            case hiz10 => simp only [List.getElem?_toArray, List.getElem?_cons_zero, List.getElem?_cons_succ]; rfl
            case hQz10 => exact fun _ _ _ h => h
            case hyz10 => exact Or.inr ⟨by rfl, rfl⟩
            try simp only [Act.put, List.setIfInBounds_toArray, List.set_cons_zero, List.set_cons_succ]
            refine wpAnyH_take (i := 10) (oi := ?oiz11) (v := undef) ?hiz11 (by kernel_rfl) (by kernel_rfl) (by kernel_rfl) ?hQz11 ?hyz11 (by assumption) ?restz11
            case hiz11 => simp only [List.getElem?_toArray, List.getElem?_cons_zero, List.getElem?_cons_succ]; rfl
            case hQz11 => exact fun _ _ _ h => h
            case hyz11 => exact Or.inr ⟨by rfl, rfl⟩
            try simp only [Act.put, List.setIfInBounds_toArray, List.set_cons_zero, List.set_cons_succ]
            refine wpAnyH_take (i := 11) (oi := ?oiz12) (v := ?vz12) ?hiz12 (by kernel_rfl) (by kernel_rfl) (by kernel_rfl) ?hQz12 ?hyz12 (by assumption) ?restz12
            case hiz12 => simp only [List.getElem?_toArray, List.getElem?_cons_zero, List.getElem?_cons_succ]; rfl
            case hQz12 => exact fun _ _ _ h => h
            case hyz12 => exact Or.inl ⟨by rfl, by intro w hSw; (try dsimp only at hSw); go_simp; with_reducible rfl⟩
            try simp only [Act.put, List.setIfInBounds_toArray, List.set_cons_zero, List.set_cons_succ]
            refine wpAnyH_done (by kernel_rfl) ?_ _
            clear d0 b0
            generalize wr.drew = w0 at *
            have HXa := Lib.hid (HX.out.trans hHeld)
            have HOa := Lib.hid (HO.out.ext hHeld)
            clear hHeld HX HO
            go_wp2_with fail
            have d0 : ∀ W, Ext w0 W → W.cell? ⟨g, o + k * 2, none⟩ = some (.string L[k].1) := fun W hW => (HC.out W (HXa.out.trans hW)).1
            have b0 : ∀ W, Ext w0 W → W.cell? ⟨w.heap.size, 0, none⟩ = some (.string e.1) := fun W hW => (HB.out W (HXa.out.trans hW)).1
            refine wp_region_held_drew (S := fun W => Ext w0 W) (by kernel_rfl) (Ext.refl _).drew (fun hHeld => ?_)
            refine wpAnyH_take (i := 0) (oi := ?oiz13) (v := ?vz13) ?hiz13 (by kernel_rfl) (by kernel_rfl) (by kernel_rfl) ?hQz13 ?hyz13 (by assumption) ?restz13
            case hiz13 => simp only [List.getElem?_toArray, List.getElem?_cons_zero, List.getElem?_cons_succ]; rfl
            case hQz13 => exact fun _ _ _ h => h
            case hyz13 => exact Or.inl ⟨by rfl, by intro w hSw; (try dsimp only at hSw); go_simp; with_reducible rfl⟩
            try simp only [Act.put, List.setIfInBounds_toArray, List.set_cons_zero, List.set_cons_succ]
            refine wpAnyH_take (i := 1) (oi := ?oiz14) (v := ?vz14) ?hiz14 (by kernel_rfl) (by kernel_rfl) (by kernel_rfl) ?hQz14 ?hyz14 (by assumption) ?restz14
            case hiz14 => simp only [List.getElem?_toArray, List.getElem?_cons_zero, List.getElem?_cons_succ]; rfl
            case hQz14 => exact fun _ _ _ h => h
            case hyz14 => exact Or.inl ⟨by rfl, by intro w hSw; (try dsimp only at hSw); go_simp; with_reducible rfl⟩
            try simp only [Act.put, List.setIfInBounds_toArray, List.set_cons_zero, List.set_cons_succ]
            refine wpAnyH_take (i := 2) (oi := ?oiz15) (v := ?vz15) ?hiz15 (by kernel_rfl) (by kernel_rfl) (by kernel_rfl) ?hQz15 ?hyz15 (by assumption) ?restz15
            case hiz15 => simp only [List.getElem?_toArray, List.getElem?_cons_zero, List.getElem?_cons_succ]; rfl
            case hQz15 => exact fun _ _ _ h => h
            case hyz15 => exact Or.inl ⟨by rfl, by intro w hSw; (try dsimp only at hSw); go_simp; with_reducible rfl⟩
            try simp only [Act.put, List.setIfInBounds_toArray, List.set_cons_zero, List.set_cons_succ]
            refine wpAnyH_take (i := 3) (oi := ?oiz16) (v := ?vz16) ?hiz16 (by kernel_rfl) (by kernel_rfl) (by kernel_rfl) ?hQz16 ?hyz16 (by assumption) ?restz16
            case hiz16 => simp only [List.getElem?_toArray, List.getElem?_cons_zero, List.getElem?_cons_succ]; rfl
            case hQz16 => exact fun _ _ _ h => h
            case hyz16 => exact Or.inl ⟨by rfl, by intro w hSw; (try dsimp only at hSw); go_simp; with_reducible rfl⟩
            try simp only [Act.put, List.setIfInBounds_toArray, List.set_cons_zero, List.set_cons_succ]
            refine wpAnyH_take (i := 4) (oi := ?oiz17) (v := ?vz17) ?hiz17 (by kernel_rfl) (by kernel_rfl) (by kernel_rfl) ?hQz17 ?hyz17 (by assumption) ?restz17
            case hiz17 => simp only [List.getElem?_toArray, List.getElem?_cons_zero, List.getElem?_cons_succ]; rfl
            case hQz17 => exact fun _ _ _ h => h
            case hyz17 => exact Or.inl ⟨by rfl, by intro w hSw; (try dsimp only at hSw); go_simp; with_reducible rfl⟩
            try simp only [Act.put, List.setIfInBounds_toArray, List.set_cons_zero, List.set_cons_succ]
            refine wpAnyH_take (i := 5) (oi := ?oiz18) (v := ?vz18) ?hiz18 (by kernel_rfl) (by kernel_rfl) (by kernel_rfl) ?hQz18 ?hyz18 (by assumption) ?restz18
            case hiz18 => simp only [List.getElem?_toArray, List.getElem?_cons_zero, List.getElem?_cons_succ]; rfl
            case hQz18 => exact fun _ _ _ h => h
            case hyz18 => exact Or.inl ⟨by rfl, by intro w hSw; (try dsimp only at hSw); go_simp; with_reducible rfl⟩
            try simp only [Act.put, List.setIfInBounds_toArray, List.set_cons_zero, List.set_cons_succ]
            refine wpAnyH_take (i := 6) (oi := ?oiz19) (v := ?vz19) ?hiz19 (by kernel_rfl) (by kernel_rfl) (by kernel_rfl) ?hQz19 ?hyz19 (by assumption) ?restz19
            case hiz19 => simp only [List.getElem?_toArray, List.getElem?_cons_zero, List.getElem?_cons_succ]; rfl
            case hQz19 => exact fun _ _ _ h => h
            case hyz19 => exact Or.inl ⟨by rfl, by intro w hSw; (try dsimp only at hSw); go_simp; with_reducible rfl⟩
            try simp only [Act.put, List.setIfInBounds_toArray, List.set_cons_zero, List.set_cons_succ]
            refine wpAnyH_take (i := 7) (oi := ?oiz20) (v := ?vz20) ?hiz20 (by kernel_rfl) (by kernel_rfl) (by kernel_rfl) ?hQz20 ?hyz20 (by assumption) ?restz20
            case hiz20 => simp only [List.getElem?_toArray, List.getElem?_cons_zero, List.getElem?_cons_succ]; rfl
            case hQz20 => exact fun _ _ _ h => h
            case hyz20 => exact Or.inl ⟨by rfl, by intro w hSw; (try dsimp only at hSw); go_simp; with_reducible rfl⟩
            try simp only [Act.put, List.setIfInBounds_toArray, List.set_cons_zero, List.set_cons_succ]
            refine wpAnyH_done (by kernel_rfl) ?_ _
            clear d0 b0
            generalize w0.drew = wb at *
            have HXb := Lib.hid (HXa.out.trans hHeld)
            have HOb := Lib.hid (HOa.out.ext hHeld)
            clear hHeld
            have d0 := (HC.out wb HXb.out).1
            have d1 := (HC.out wb HXb.out).2
            go_wp2_with (first | (refine wpl_load ⟨g, o + k * 2, none⟩ [.string L[k].1, .string L[k].2] aggEntryI rfl _ rfl rfl (fun j u hu => by rw [Addr.add_lit]; match j, hu with | 0, hu => rw [Nat.add_zero, d0]; simpa using hu | 1, hu => rw [d1]; simpa using hu) ?_) | (at_builtin; refine wpl_append rowEnt rfl _ _ rfl (v := .slice C cn cc) rfl (HOb.out.alloc _) _ _ rfl (A := some ⟨wb.heap.size, 0, none⟩) (ys := [L[k]]) rfl (rd_ent wb L[k] _) (by intro y hy; obtain rfl := List.mem_singleton.1 hy; exact HX0.out) (by simp only [List.length_append, List.length_singleton]; omega) (HXb.out.alloc _).size ?_; intro vz wz ho1 hg1 hat1; obtain ⟨Cz, nz, cz, rfl⟩ := ho1.shape3; have HOz := Lib.hid ho1; have HXz := Lib.hid ((HOb.out.alloc (Obj.cells #[.string L[k].1, .string L[k].2] 58)).ext_app (HXb.out.alloc _) hg1); clear ho1 hg1 hat1))
            go_roundw
            case rel => exact ⟨k + 1, (R ++ [L[k]], true), by omega, by go_num, rfl, by rw [HN.out, HST.out, HQ.out], HOz.out, by simp; omega, HXz.out⟩
            case measure => simp [intOf]; omega
        | false =>
          cases h2 : (L[k].1.toList == e.1.toList) with
          | true =>
            have h1' : Op.bytesLess L[k].1.toList e.1.toList = false := by rw [ltB_eq]; exact h1
            have hnm : L[k].1 = e.1 := toList_inj (by simpa using h2)
            have HQ := Lib.hid (show putStep e (R, true) L[k] = (R, true) by simp [putStep, h1, hnm, ltB_irrefl])
            clear h1 hnm
            have d0 : ∀ W, Ext wr W → W.cell? ⟨g, o + k * 2, none⟩ = some (.string L[k].1) := fun W hW => (HC.out W (HX.out.trans hW)).1
            have b0 : ∀ W, Ext wr W → W.cell? ⟨w.heap.size, 0, none⟩ = some (.string e.1) := fun W hW => (HB.out W (HX.out.trans hW)).1
            go_wp2_with fail
            refine wp_region_held_drew (S := fun W => Ext wr W) (by kernel_rfl) (Ext.refl _).drew (fun hHeld => ?_)
            refine wpAnyH_take (i := 0) (oi := ?oiz21) (v := ?vz21) ?hiz21 (by kernel_rfl) (by kernel_rfl) (by kernel_rfl) ?hQz21 ?hyz21 (by assumption) ?restz21
            case hiz21 => simp only [List.getElem?_toArray, List.getElem?_cons_zero, List.getElem?_cons_succ]; rfl
            case hQz21 => exact fun _ _ _ h => h
            case hyz21 => exact Or.inl ⟨by rfl, by intro w hSw; (try dsimp only at hSw); go_simp; with_reducible rfl⟩
            try simp only [Act.put, List.setIfInBounds_toArray, List.set_cons_zero, List.set_cons_succ]
            refine wpAnyH_take (i := 1) (oi := ?oiz22) (v := ?vz22) ?hiz22 (by kernel_rfl) (by kernel_rfl) (by kernel_rfl) ?hQz22 ?hyz22 (by assumption) ?restz22
            case hiz22 => simp only [List.getElem?_toArray, List.getElem?_cons_zero, List.getElem?_cons_succ]; rfl
            case hQz22 => exact fun _ _ _ h => h
            case hyz22 => exact Or.inl ⟨by rfl, by intro w hSw; (try dsimp only at hSw); go_simp; with_reducible rfl⟩
            try simp only [Act.put, List.setIfInBounds_toArray, List.set_cons_zero, List.set_cons_succ]
            refine wpAnyH_take (i := 2) (oi := ?oiz23) (v := ?vz23) ?hiz23 (by kernel_rfl) (by kernel_rfl) (by kernel_rfl) ?hQz23 ?hyz23 (by assumption) ?restz23
            case hiz23 => simp only [List.getElem?_toArray, List.getElem?_cons_zero, List.getElem?_cons_succ]; rfl
            case hQz23 => exact fun _ _ _ h => h
            case hyz23 => exact Or.inl ⟨by rfl, by intro w hSw; (try dsimp only at hSw); go_simp; with_reducible rfl⟩
            try simp only [Act.put, List.setIfInBounds_toArray, List.set_cons_zero, List.set_cons_succ]
            refine wpAnyH_take (i := 3) (oi := ?oiz24) (v := undef) ?hiz24 (by kernel_rfl) (by kernel_rfl) (by kernel_rfl) ?hQz24 ?hyz24 (by assumption) ?restz24
            case hiz24 => simp only [List.getElem?_toArray, List.getElem?_cons_zero, List.getElem?_cons_succ]; rfl
            case hQz24 => exact fun _ _ _ h => h
            case hyz24 => exact Or.inr ⟨by rfl, rfl⟩
            try simp only [Act.put, List.setIfInBounds_toArray, List.set_cons_zero, List.set_cons_succ]
            refine wpAnyH_take (i := 4) (oi := ?oiz25) (v := undef) ?hiz25 (by kernel_rfl) (by kernel_rfl) (by kernel_rfl) ?hQz25 ?hyz25 (by assumption) ?restz25
            case hiz25 => simp only [List.getElem?_toArray, List.getElem?_cons_zero, List.getElem?_cons_succ]; rfl
            case hQz25 => exact fun _ _ _ h => h
            case hyz25 => exact Or.inr ⟨by rfl, rfl⟩
            try simp only [Act.put, List.setIfInBounds_toArray, List.set_cons_zero, List.set_cons_succ]
            refine wpAnyH_take (i := 5) (oi := ?oiz26) (v := undef) ?hiz26 (by kernel_rfl) (by kernel_rfl) (by kernel_rfl) ?hQz26 ?hyz26 (by assumption) ?restz26
            case hiz26 => simp only [List.getElem?_toArray, List.getElem?_cons_zero, List.getElem?_cons_succ]; rfl
            case hQz26 => exact fun _ _ _ h => h
            case hyz26 => exact Or.inr ⟨by rfl, rfl⟩
            try simp only [Act.put, List.setIfInBounds_toArray, List.set_cons_zero, List.set_cons_succ]
            refine wpAnyH_take (i := 6) (oi := ?oiz27) (v := undef) ?hiz27 (by kernel_rfl) (by kernel_rfl) (by kernel_rfl) ?hQz27 ?hyz27 (by assumption) ?restz27
            case hiz27 => simp only [List.getElem?_toArray, List.getElem?_cons_zero, List.getElem?_cons_succ]; rfl
            case hQz27 => exact fun _ _ _ h => h
            case hyz27 => exact Or.inr ⟨by rfl, rfl⟩
            try simp only [Act.put, List.setIfInBounds_toArray, List.set_cons_zero, List.set_cons_succ]
            refine wpAnyH_take (i := 7) (oi := ?oiz28) (v := undef) ?hiz28 (by kernel_rfl) (by kernel_rfl) (by kernel_rfl) ?hQz28 ?hyz28 (by assumption) ?restz28
            case hiz28 => simp only [List.getElem?_toArray, List.getElem?_cons_zero, List.getElem?_cons_succ]; rfl
            case hQz28 => exact fun _ _ _ h => h
            case hyz28 => exact Or.inr ⟨by rfl, rfl⟩
            try simp only [Act.put, List.setIfInBounds_toArray, List.set_cons_zero, List.set_cons_succ]
            refine wpAnyH_take (i := 8) (oi := ?oiz29) (v := undef) ?hiz29 (by kernel_rfl) (by kernel_rfl) (by kernel_rfl) ?hQz29 ?hyz29 (by assumption) ?restz29
            case hiz29 => simp only [List.getElem?_toArray, List.getElem?_cons_zero, List.getElem?_cons_succ]; rfl
            case hQz29 => exact fun _ _ _ h => h
            case hyz29 => exact Or.inr ⟨by rfl, rfl⟩
            try simp only [Act.put, List.setIfInBounds_toArray, List.set_cons_zero, List.set_cons_succ]
            refine wpAnyH_take (i := 9) (oi := ?oiz30) (v := undef) ?hiz30 (by kernel_rfl) (by kernel_rfl) (by kernel_rfl) ?hQz30 ?hyz30 (by assumption) ?restz30
            case hiz30 => simp only [List.getElem?_toArray, List.getElem?_cons_zero, List.getElem?_cons_succ]; rfl
            case hQz30 => exact fun _ _ _ h => h
            case hyz30 => exact Or.inr ⟨by rfl, rfl⟩
            try simp only [Act.put, List.setIfInBounds_toArray, List.set_cons_zero, List.set_cons_succ]
            refine wpAnyH_take (i := 10) (oi := ?oiz31) (v := undef) ?hiz31 (by kernel_rfl) (by kernel_rfl) (by kernel_rfl) ?hQz31 ?hyz31 (by assumption) ?restz31
            case hiz31 => simp only [List.getElem?_toArray, List.getElem?_cons_zero, List.getElem?_cons_succ]; rfl
            case hQz31 => exact fun _ _ _ h => h
            case hyz31 => exact Or.inr ⟨by rfl, rfl⟩
            try simp only [Act.put, List.setIfInBounds_toArray, List.set_cons_zero, List.set_cons_succ]
            refine wpAnyH_take (i := 11) (oi := ?oiz32) (v := ?vz32) ?hiz32 (by kernel_rfl) (by kernel_rfl) (by kernel_rfl) ?hQz32 ?hyz32 (by assumption) ?restz32
            case hiz32 => simp only [List.getElem?_toArray, List.getElem?_cons_zero, List.getElem?_cons_succ]; rfl
            case hQz32 => exact fun _ _ _ h => h
            case hyz32 => exact Or.inl ⟨by rfl, by intro w hSw; (try dsimp only at hSw); go_simp; with_reducible rfl⟩
            try simp only [Act.put, List.setIfInBounds_toArray, List.set_cons_zero, List.set_cons_succ]
            refine wpAnyH_done (by kernel_rfl) ?_ _
            clear d0 b0
            generalize wr.drew = w0 at *
            have HXa := Lib.hid (HX.out.trans hHeld)
            have HOa := Lib.hid (HO.out.ext hHeld)
            clear hHeld HX HO
            go_wp2_with fail
            have d0 : ∀ W, Ext w0 W → W.cell? ⟨g, o + k * 2, none⟩ = some (.string L[k].1) := fun W hW => (HC.out W (HXa.out.trans hW)).1
            have b0 : ∀ W, Ext w0 W → W.cell? ⟨w.heap.size, 0, none⟩ = some (.string e.1) := fun W hW => (HB.out W (HXa.out.trans hW)).1
            refine wp_region_held_drew (S := fun W => Ext w0 W) (by kernel_rfl) (Ext.refl _).drew (fun hHeld => ?_)
            refine wpAnyH_take (i := 0) (oi := ?oiz33) (v := ?vz33) ?hiz33 (by kernel_rfl) (by kernel_rfl) (by kernel_rfl) ?hQz33 ?hyz33 (by assumption) ?restz33
            case hiz33 => simp only [List.getElem?_toArray, List.getElem?_cons_zero, List.getElem?_cons_succ]; rfl
            case hQz33 => exact fun _ _ _ h => h
            case hyz33 => exact Or.inl ⟨by rfl, by intro w hSw; (try dsimp only at hSw); go_simp; with_reducible rfl⟩
            try simp only [Act.put, List.setIfInBounds_toArray, List.set_cons_zero, List.set_cons_succ]
            refine wpAnyH_take (i := 1) (oi := ?oiz34) (v := ?vz34) ?hiz34 (by kernel_rfl) (by kernel_rfl) (by kernel_rfl) ?hQz34 ?hyz34 (by assumption) ?restz34
            case hiz34 => simp only [List.getElem?_toArray, List.getElem?_cons_zero, List.getElem?_cons_succ]; rfl
            case hQz34 => exact fun _ _ _ h => h
            case hyz34 => exact Or.inl ⟨by rfl, by intro w hSw; (try dsimp only at hSw); go_simp; with_reducible rfl⟩
            try simp only [Act.put, List.setIfInBounds_toArray, List.set_cons_zero, List.set_cons_succ]
            refine wpAnyH_take (i := 2) (oi := ?oiz35) (v := ?vz35) ?hiz35 (by kernel_rfl) (by kernel_rfl) (by kernel_rfl) ?hQz35 ?hyz35 (by assumption) ?restz35
            case hiz35 => simp only [List.getElem?_toArray, List.getElem?_cons_zero, List.getElem?_cons_succ]; rfl
            case hQz35 => exact fun _ _ _ h => h
            case hyz35 => exact Or.inl ⟨by rfl, by intro w hSw; (try dsimp only at hSw); go_simp; with_reducible rfl⟩
            try simp only [Act.put, List.setIfInBounds_toArray, List.set_cons_zero, List.set_cons_succ]
            refine wpAnyH_take (i := 3) (oi := ?oiz36) (v := ?vz36) ?hiz36 (by kernel_rfl) (by kernel_rfl) (by kernel_rfl) ?hQz36 ?hyz36 (by assumption) ?restz36
            case hiz36 => simp only [List.getElem?_toArray, List.getElem?_cons_zero, List.getElem?_cons_succ]; rfl
            case hQz36 => exact fun _ _ _ h => h
            case hyz36 => exact Or.inl ⟨by rfl, by intro w hSw; (try dsimp only at hSw); go_simp; with_reducible rfl⟩
            try simp only [Act.put, List.setIfInBounds_toArray, List.set_cons_zero, List.set_cons_succ]
            refine wpAnyH_take (i := 4) (oi := ?oiz37) (v := ?vz37) ?hiz37 (by kernel_rfl) (by kernel_rfl) (by kernel_rfl) ?hQz37 ?hyz37 (by assumption) ?restz37
            case hiz37 => simp only [List.getElem?_toArray, List.getElem?_cons_zero, List.getElem?_cons_succ]; rfl
            case hQz37 => exact fun _ _ _ h => h
            case hyz37 => exact Or.inl ⟨by rfl, by intro w hSw; (try dsimp only at hSw); go_simp; with_reducible rfl⟩
            try simp only [Act.put, List.setIfInBounds_toArray, List.set_cons_zero, List.set_cons_succ]
            refine wpAnyH_take (i := 5) (oi := ?oiz38) (v := ?vz38) ?hiz38 (by kernel_rfl) (by kernel_rfl) (by kernel_rfl) ?hQz38 ?hyz38 (by assumption) ?restz38
            case hiz38 => simp only [List.getElem?_toArray, List.getElem?_cons_zero, List.getElem?_cons_succ]; rfl
            case hQz38 => exact fun _ _ _ h => h
            case hyz38 => exact Or.inl ⟨by rfl, by intro w hSw; (try dsimp only at hSw); go_simp; with_reducible rfl⟩
            try simp only [Act.put, List.setIfInBounds_toArray, List.set_cons_zero, List.set_cons_succ]
            refine wpAnyH_take (i := 6) (oi := ?oiz39) (v := ?vz39) ?hiz39 (by kernel_rfl) (by kernel_rfl) (by kernel_rfl) ?hQz39 ?hyz39 (by assumption) ?restz39
            case hiz39 => simp only [List.getElem?_toArray, List.getElem?_cons_zero, List.getElem?_cons_succ]; rfl
            case hQz39 => exact fun _ _ _ h => h
            case hyz39 => exact Or.inl ⟨by rfl, by intro w hSw; (try dsimp only at hSw); go_simp; with_reducible rfl⟩
            try simp only [Act.put, List.setIfInBounds_toArray, List.set_cons_zero, List.set_cons_succ]
            refine wpAnyH_take (i := 7) (oi := ?oiz40) (v := ?vz40) ?hiz40 (by kernel_rfl) (by kernel_rfl) (by kernel_rfl) ?hQz40 ?hyz40 (by assumption) ?restz40
            case hiz40 => simp only [List.getElem?_toArray, List.getElem?_cons_zero, List.getElem?_cons_succ]; rfl
            case hQz40 => exact fun _ _ _ h => h
            case hyz40 => exact Or.inl ⟨by rfl, by intro w hSw; (try dsimp only at hSw); go_simp; with_reducible rfl⟩
            try simp only [Act.put, List.setIfInBounds_toArray, List.set_cons_zero, List.set_cons_succ]
            refine wpAnyH_done (by kernel_rfl) ?_ _
            clear d0 b0
            generalize w0.drew = wb at *
            have HXb := Lib.hid (HXa.out.trans hHeld)
            have HOb := Lib.hid (HOa.out.ext hHeld)
            clear hHeld
            go_wp2
            go_roundw
            case rel => exact ⟨k + 1, (R, true), by omega, by go_num, rfl, by rw [HN.out, HST.out, HQ.out], HOb.out, by simp; omega, HXb.out⟩
            case measure => simp [intOf]; omega
          | false =>
            have h1' : Op.bytesLess L[k].1.toList e.1.toList = false := by rw [ltB_eq]; exact h1
            have hnm : L[k].1 ≠ e.1 := fun q => by rw [q] at h2; simp at h2
            have HQ := Lib.hid (show putStep e (R, true) L[k] = (R ++ [L[k]], true) by simp [putStep, h1, hnm, ltB_irrefl])
            clear h1 hnm
            have d0 : ∀ W, Ext wr W → W.cell? ⟨g, o + k * 2, none⟩ = some (.string L[k].1) := fun W hW => (HC.out W (HX.out.trans hW)).1
            have b0 : ∀ W, Ext wr W → W.cell? ⟨w.heap.size, 0, none⟩ = some (.string e.1) := fun W hW => (HB.out W (HX.out.trans hW)).1
            go_wp2_with fail
            refine wp_region_held_drew (S := fun W => Ext wr W) (by kernel_rfl) (Ext.refl _).drew (fun hHeld => ?_)
            refine wpAnyH_take (i := 0) (oi := ?oiz41) (v := ?vz41) ?hiz41 (by kernel_rfl) (by kernel_rfl) (by kernel_rfl) ?hQz41 ?hyz41 (by assumption) ?restz41
            case hiz41 => simp only [List.getElem?_toArray, List.getElem?_cons_zero, List.getElem?_cons_succ]; rfl
            case hQz41 => exact fun _ _ _ h => h
            case hyz41 => exact Or.inl ⟨by rfl, by intro w hSw; (try dsimp only at hSw); go_simp; with_reducible rfl⟩
            try simp only [Act.put, List.setIfInBounds_toArray, List.set_cons_zero, List.set_cons_succ]
            refine wpAnyH_take (i := 1) (oi := ?oiz42) (v := ?vz42) ?hiz42 (by kernel_rfl) (by kernel_rfl) (by kernel_rfl) ?hQz42 ?hyz42 (by assumption) ?restz42
            case hiz42 => simp only [List.getElem?_toArray, List.getElem?_cons_zero, List.getElem?_cons_succ]; rfl
            case hQz42 => exact fun _ _ _ h => h
            case hyz42 => exact Or.inl ⟨by rfl, by intro w hSw; (try dsimp only at hSw); go_simp; with_reducible rfl⟩
            try simp only [Act.put, List.setIfInBounds_toArray, List.set_cons_zero, List.set_cons_succ]
            refine wpAnyH_take (i := 2) (oi := ?oiz43) (v := ?vz43) ?hiz43 (by kernel_rfl) (by kernel_rfl) (by kernel_rfl) ?hQz43 ?hyz43 (by assumption) ?restz43
            case hiz43 => simp only [List.getElem?_toArray, List.getElem?_cons_zero, List.getElem?_cons_succ]; rfl
            case hQz43 => exact fun _ _ _ h => h
            case hyz43 => exact Or.inl ⟨by rfl, by intro w hSw; (try dsimp only at hSw); go_simp; with_reducible rfl⟩
            try simp only [Act.put, List.setIfInBounds_toArray, List.set_cons_zero, List.set_cons_succ]
            refine wpAnyH_take (i := 3) (oi := ?oiz44) (v := undef) ?hiz44 (by kernel_rfl) (by kernel_rfl) (by kernel_rfl) ?hQz44 ?hyz44 (by assumption) ?restz44
            case hiz44 => simp only [List.getElem?_toArray, List.getElem?_cons_zero, List.getElem?_cons_succ]; rfl
            case hQz44 => exact fun _ _ _ h => h
            case hyz44 => exact Or.inr ⟨by rfl, rfl⟩
            try simp only [Act.put, List.setIfInBounds_toArray, List.set_cons_zero, List.set_cons_succ]
            refine wpAnyH_take (i := 4) (oi := ?oiz45) (v := undef) ?hiz45 (by kernel_rfl) (by kernel_rfl) (by kernel_rfl) ?hQz45 ?hyz45 (by assumption) ?restz45
            case hiz45 => simp only [List.getElem?_toArray, List.getElem?_cons_zero, List.getElem?_cons_succ]; rfl
            case hQz45 => exact fun _ _ _ h => h
            case hyz45 => exact Or.inr ⟨by rfl, rfl⟩
            try simp only [Act.put, List.setIfInBounds_toArray, List.set_cons_zero, List.set_cons_succ]
            refine wpAnyH_take (i := 5) (oi := ?oiz46) (v := undef) ?hiz46 (by kernel_rfl) (by kernel_rfl) (by kernel_rfl) ?hQz46 ?hyz46 (by assumption) ?restz46
            case hiz46 => simp only [List.getElem?_toArray, List.getElem?_cons_zero, List.getElem?_cons_succ]; rfl
            case hQz46 => exact fun _ _ _ h => h
            case hyz46 => exact Or.inr ⟨by rfl, rfl⟩
            try simp only [Act.put, List.setIfInBounds_toArray, List.set_cons_zero, List.set_cons_succ]
            refine wpAnyH_take (i := 6) (oi := ?oiz47) (v := undef) ?hiz47 (by kernel_rfl) (by kernel_rfl) (by kernel_rfl) ?hQz47 ?hyz47 (by assumption) ?restz47
            case hiz47 => simp only [List.getElem?_toArray, List.getElem?_cons_zero, List.getElem?_cons_succ]; rfl
            case hQz47 => exact fun _ _ _ h => h
            case hyz47 => exact Or.inr ⟨by rfl, rfl⟩
            try simp only [Act.put, List.setIfInBounds_toArray, List.set_cons_zero, List.set_cons_succ]
            refine wpAnyH_take (i := 7) (oi := ?oiz48) (v := undef) ?hiz48 (by kernel_rfl) (by kernel_rfl) (by kernel_rfl) ?hQz48 ?hyz48 (by assumption) ?restz48
            case hiz48 => simp only [List.getElem?_toArray, List.getElem?_cons_zero, List.getElem?_cons_succ]; rfl
            case hQz48 => exact fun _ _ _ h => h
            case hyz48 => exact Or.inr ⟨by rfl, rfl⟩
            try simp only [Act.put, List.setIfInBounds_toArray, List.set_cons_zero, List.set_cons_succ]
            refine wpAnyH_take (i := 8) (oi := ?oiz49) (v := undef) ?hiz49 (by kernel_rfl) (by kernel_rfl) (by kernel_rfl) ?hQz49 ?hyz49 (by assumption) ?restz49
            case hiz49 => simp only [List.getElem?_toArray, List.getElem?_cons_zero, List.getElem?_cons_succ]; rfl
            case hQz49 => exact fun _ _ _ h => h
            case hyz49 => exact Or.inr ⟨by rfl, rfl⟩
            try simp only [Act.put, List.setIfInBounds_toArray, List.set_cons_zero, List.set_cons_succ]
            refine wpAnyH_take (i := 9) (oi := ?oiz50) (v := undef) ?hiz50 (by kernel_rfl) (by kernel_rfl) (by kernel_rfl) ?hQz50 ?hyz50 (by assumption) ?restz50
            case hiz50 => simp only [List.getElem?_toArray, List.getElem?_cons_zero, List.getElem?_cons_succ]; rfl
            case hQz50 => exact fun _ _ _ h => h
            case hyz50 => exact Or.inr ⟨by rfl, rfl⟩
            try simp only [Act.put, List.setIfInBounds_toArray, List.set_cons_zero, List.set_cons_succ]
            refine wpAnyH_take (i := 10) (oi := ?oiz51) (v := undef) ?hiz51 (by kernel_rfl) (by kernel_rfl) (by kernel_rfl) ?hQz51 ?hyz51 (by assumption) ?restz51
            case hiz51 => simp only [List.getElem?_toArray, List.getElem?_cons_zero, List.getElem?_cons_succ]; rfl
            case hQz51 => exact fun _ _ _ h => h
            case hyz51 => exact Or.inr ⟨by rfl, rfl⟩
            try simp only [Act.put, List.setIfInBounds_toArray, List.set_cons_zero, List.set_cons_succ]
            refine wpAnyH_take (i := 11) (oi := ?oiz52) (v := ?vz52) ?hiz52 (by kernel_rfl) (by kernel_rfl) (by kernel_rfl) ?hQz52 ?hyz52 (by assumption) ?restz52
            case hiz52 => simp only [List.getElem?_toArray, List.getElem?_cons_zero, List.getElem?_cons_succ]; rfl
            case hQz52 => exact fun _ _ _ h => h
            case hyz52 => exact Or.inl ⟨by rfl, by intro w hSw; (try dsimp only at hSw); go_simp; with_reducible rfl⟩
            try simp only [Act.put, List.setIfInBounds_toArray, List.set_cons_zero, List.set_cons_succ]
            refine wpAnyH_done (by kernel_rfl) ?_ _
            clear d0 b0
            generalize wr.drew = w0 at *
            have HXa := Lib.hid (HX.out.trans hHeld)
            have HOa := Lib.hid (HO.out.ext hHeld)
            clear hHeld HX HO
            go_wp2_with fail
            have d0 : ∀ W, Ext w0 W → W.cell? ⟨g, o + k * 2, none⟩ = some (.string L[k].1) := fun W hW => (HC.out W (HXa.out.trans hW)).1
            have b0 : ∀ W, Ext w0 W → W.cell? ⟨w.heap.size, 0, none⟩ = some (.string e.1) := fun W hW => (HB.out W (HXa.out.trans hW)).1
            refine wp_region_held_drew (S := fun W => Ext w0 W) (by kernel_rfl) (Ext.refl _).drew (fun hHeld => ?_)
            refine wpAnyH_take (i := 0) (oi := ?oiz53) (v := ?vz53) ?hiz53 (by kernel_rfl) (by kernel_rfl) (by kernel_rfl) ?hQz53 ?hyz53 (by assumption) ?restz53
            case hiz53 => simp only [List.getElem?_toArray, List.getElem?_cons_zero, List.getElem?_cons_succ]; rfl
            case hQz53 => exact fun _ _ _ h => h
            case hyz53 => exact Or.inl ⟨by rfl, by intro w hSw; (try dsimp only at hSw); go_simp; with_reducible rfl⟩
            try simp only [Act.put, List.setIfInBounds_toArray, List.set_cons_zero, List.set_cons_succ]
            refine wpAnyH_take (i := 1) (oi := ?oiz54) (v := ?vz54) ?hiz54 (by kernel_rfl) (by kernel_rfl) (by kernel_rfl) ?hQz54 ?hyz54 (by assumption) ?restz54
            case hiz54 => simp only [List.getElem?_toArray, List.getElem?_cons_zero, List.getElem?_cons_succ]; rfl
            case hQz54 => exact fun _ _ _ h => h
            case hyz54 => exact Or.inl ⟨by rfl, by intro w hSw; (try dsimp only at hSw); go_simp; with_reducible rfl⟩
            try simp only [Act.put, List.setIfInBounds_toArray, List.set_cons_zero, List.set_cons_succ]
            refine wpAnyH_take (i := 2) (oi := ?oiz55) (v := ?vz55) ?hiz55 (by kernel_rfl) (by kernel_rfl) (by kernel_rfl) ?hQz55 ?hyz55 (by assumption) ?restz55
            case hiz55 => simp only [List.getElem?_toArray, List.getElem?_cons_zero, List.getElem?_cons_succ]; rfl
            case hQz55 => exact fun _ _ _ h => h
            case hyz55 => exact Or.inl ⟨by rfl, by intro w hSw; (try dsimp only at hSw); go_simp; with_reducible rfl⟩
            try simp only [Act.put, List.setIfInBounds_toArray, List.set_cons_zero, List.set_cons_succ]
            refine wpAnyH_take (i := 3) (oi := ?oiz56) (v := ?vz56) ?hiz56 (by kernel_rfl) (by kernel_rfl) (by kernel_rfl) ?hQz56 ?hyz56 (by assumption) ?restz56
            case hiz56 => simp only [List.getElem?_toArray, List.getElem?_cons_zero, List.getElem?_cons_succ]; rfl
            case hQz56 => exact fun _ _ _ h => h
            case hyz56 => exact Or.inl ⟨by rfl, by intro w hSw; (try dsimp only at hSw); go_simp; with_reducible rfl⟩
            try simp only [Act.put, List.setIfInBounds_toArray, List.set_cons_zero, List.set_cons_succ]
            refine wpAnyH_take (i := 4) (oi := ?oiz57) (v := ?vz57) ?hiz57 (by kernel_rfl) (by kernel_rfl) (by kernel_rfl) ?hQz57 ?hyz57 (by assumption) ?restz57
            case hiz57 => simp only [List.getElem?_toArray, List.getElem?_cons_zero, List.getElem?_cons_succ]; rfl
            case hQz57 => exact fun _ _ _ h => h
            case hyz57 => exact Or.inl ⟨by rfl, by intro w hSw; (try dsimp only at hSw); go_simp; with_reducible rfl⟩
            try simp only [Act.put, List.setIfInBounds_toArray, List.set_cons_zero, List.set_cons_succ]
            refine wpAnyH_take (i := 5) (oi := ?oiz58) (v := ?vz58) ?hiz58 (by kernel_rfl) (by kernel_rfl) (by kernel_rfl) ?hQz58 ?hyz58 (by assumption) ?restz58
            case hiz58 => simp only [List.getElem?_toArray, List.getElem?_cons_zero, List.getElem?_cons_succ]; rfl
            case hQz58 => exact fun _ _ _ h => h
            case hyz58 => exact Or.inl ⟨by rfl, by intro w hSw; (try dsimp only at hSw); go_simp; with_reducible rfl⟩
            try simp only [Act.put, List.setIfInBounds_toArray, List.set_cons_zero, List.set_cons_succ]
            refine wpAnyH_take (i := 6) (oi := ?oiz59) (v := ?vz59) ?hiz59 (by kernel_rfl) (by kernel_rfl) (by kernel_rfl) ?hQz59 ?hyz59 (by assumption) ?restz59
            case hiz59 => simp only [List.getElem?_toArray, List.getElem?_cons_zero, List.getElem?_cons_succ]; rfl
            case hQz59 => exact fun _ _ _ h => h
            case hyz59 => exact Or.inl ⟨by rfl, by intro w hSw; (try dsimp only at hSw); go_simp; with_reducible rfl⟩
            try simp only [Act.put, List.setIfInBounds_toArray, List.set_cons_zero, List.set_cons_succ]
            refine wpAnyH_take (i := 7) (oi := ?oiz60) (v := ?vz60) ?hiz60 (by kernel_rfl) (by kernel_rfl) (by kernel_rfl) ?hQz60 ?hyz60 (by assumption) ?restz60
            case hiz60 => simp only [List.getElem?_toArray, List.getElem?_cons_zero, List.getElem?_cons_succ]; rfl
            case hQz60 => exact fun _ _ _ h => h
            case hyz60 => exact Or.inl ⟨by rfl, by intro w hSw; (try dsimp only at hSw); go_simp; with_reducible rfl⟩
            try simp only [Act.put, List.setIfInBounds_toArray, List.set_cons_zero, List.set_cons_succ]
            refine wpAnyH_done (by kernel_rfl) ?_ _
            clear d0 b0
            generalize w0.drew = wb at *
            have HXb := Lib.hid (HXa.out.trans hHeld)
            have HOb := Lib.hid (HOa.out.ext hHeld)
            clear hHeld
            have d0 := (HC.out wb HXb.out).1
            have d1 := (HC.out wb HXb.out).2
            go_wp2_with (first | (refine wpl_load ⟨g, o + k * 2, none⟩ [.string L[k].1, .string L[k].2] aggEntryI rfl _ rfl rfl (fun j u hu => by rw [Addr.add_lit]; match j, hu with | 0, hu => rw [Nat.add_zero, d0]; simpa using hu | 1, hu => rw [d1]; simpa using hu) ?_) | (at_builtin; refine wpl_append rowEnt rfl _ _ rfl (v := .slice C cn cc) rfl (HOb.out.alloc _) _ _ rfl (A := some ⟨wb.heap.size, 0, none⟩) (ys := [L[k]]) rfl (rd_ent wb L[k] _) (by intro y hy; obtain rfl := List.mem_singleton.1 hy; exact HX0.out) (by simp only [List.length_append, List.length_singleton]; omega) (HXb.out.alloc _).size ?_; intro vz wz ho1 hg1 hat1; obtain ⟨Cz, nz, cz, rfl⟩ := ho1.shape3; have HOz := Lib.hid ho1; have HXz := Lib.hid ((HOb.out.alloc (Obj.cells #[.string L[k].1, .string L[k].2] 58)).ext_app (HXb.out.alloc _) hg1); clear ho1 hg1 hat1))
            go_roundw
            case rel => exact ⟨k + 1, (R ++ [L[k]], true), by omega, by go_num, rfl, by rw [HN.out, HST.out, HQ.out], HOz.out, by simp; omega, HXz.out⟩
            case measure => simp [intOf]; omega
      | false =>
        cases h1 : ltB L[k].1 e.1 with
        | true =>
          cases h2 : (L[k].1.toList == e.1.toList) with
          | true =>
            exact absurd (toList_inj (by simpa using h2)) (ltB_ne h1)
          | false =>
            have h1' : Op.bytesLess L[k].1.toList e.1.toList = true := by rw [ltB_eq]; exact h1
            have hnm : L[k].1 ≠ e.1 := fun q => by rw [q] at h2; simp at h2
            have HQ := Lib.hid (show putStep e (R, false) L[k] = (R ++ [L[k]], false) by simp [putStep, h1, hnm, ltB_irrefl])
            clear h1 hnm
            have d0 : ∀ W, Ext wr W → W.cell? ⟨g, o + k * 2, none⟩ = some (.string L[k].1) := fun W hW => (HC.out W (HX.out.trans hW)).1
            have b0 : ∀ W, Ext wr W → W.cell? ⟨w.heap.size, 0, none⟩ = some (.string e.1) := fun W hW => (HB.out W (HX.out.trans hW)).1
            go_wp2_with fail
            refine wp_region_held_drew (S := fun W => Ext wr W) (by kernel_rfl) (Ext.refl _).drew (fun hHeld => ?_)
            refine wpAnyH_take (i := 0) (oi := ?oiz61) (v := ?vz61) ?hiz61 (by kernel_rfl) (by kernel_rfl) (by kernel_rfl) ?hQz61 ?hyz61 (by assumption) ?restz61
            case hiz61 => simp only [List.getElem?_toArray, List.getElem?_cons_zero, List.getElem?_cons_succ]; rfl
            case hQz61 => exact fun _ _ _ h => h
            case hyz61 => exact Or.inl ⟨by rfl, by intro w hSw; (try dsimp only at hSw); go_simp; with_reducible rfl⟩
            try simp only [Act.put, List.setIfInBounds_toArray, List.set_cons_zero, List.set_cons_succ]
            refine wpAnyH_take (i := 1) (oi := ?oiz62) (v := ?vz62) ?hiz62 (by kernel_rfl) (by kernel_rfl) (by kernel_rfl) ?hQz62 ?hyz62 (by assumption) ?restz62
            case hiz62 => simp only [List.getElem?_toArray, List.getElem?_cons_zero, List.getElem?_cons_succ]; rfl
            case hQz62 => exact fun _ _ _ h => h
            case hyz62 => exact Or.inl ⟨by rfl, by intro w hSw; (try dsimp only at hSw); go_simp; with_reducible rfl⟩
            try simp only [Act.put, List.setIfInBounds_toArray, List.set_cons_zero, List.set_cons_succ]
            refine wpAnyH_take (i := 2) (oi := ?oiz63) (v := ?vz63) ?hiz63 (by kernel_rfl) (by kernel_rfl) (by kernel_rfl) ?hQz63 ?hyz63 (by assumption) ?restz63
            case hiz63 => simp only [List.getElem?_toArray, List.getElem?_cons_zero, List.getElem?_cons_succ]; rfl
            case hQz63 => exact fun _ _ _ h => h
            case hyz63 => exact Or.inl ⟨by rfl, by intro w hSw; (try dsimp only at hSw); go_simp; with_reducible rfl⟩
            try simp only [Act.put, List.setIfInBounds_toArray, List.set_cons_zero, List.set_cons_succ]
            refine wpAnyH_take (i := 3) (oi := ?oiz64) (v := ?vz64) ?hiz64 (by kernel_rfl) (by kernel_rfl) (by kernel_rfl) ?hQz64 ?hyz64 (by assumption) ?restz64
            case hiz64 => simp only [List.getElem?_toArray, List.getElem?_cons_zero, List.getElem?_cons_succ]; rfl
            case hQz64 => exact fun _ _ _ h => h
            case hyz64 => exact Or.inl ⟨by rfl, by intro w hSw; (try dsimp only at hSw); go_simp; with_reducible rfl⟩
            try simp only [Act.put, List.setIfInBounds_toArray, List.set_cons_zero, List.set_cons_succ]
            refine wpAnyH_take (i := 4) (oi := ?oiz65) (v := ?vz65) ?hiz65 (by kernel_rfl) (by kernel_rfl) (by kernel_rfl) ?hQz65 ?hyz65 (by assumption) ?restz65
            case hiz65 => simp only [List.getElem?_toArray, List.getElem?_cons_zero, List.getElem?_cons_succ]; rfl
            case hQz65 => exact fun _ _ _ h => h
            case hyz65 => exact Or.inl ⟨by rfl, by intro w hSw; (try dsimp only at hSw); go_simp; with_reducible rfl⟩
            try simp only [Act.put, List.setIfInBounds_toArray, List.set_cons_zero, List.set_cons_succ]
            refine wpAnyH_take (i := 5) (oi := ?oiz66) (v := ?vz66) ?hiz66 (by kernel_rfl) (by kernel_rfl) (by kernel_rfl) ?hQz66 ?hyz66 (by assumption) ?restz66
            case hiz66 => simp only [List.getElem?_toArray, List.getElem?_cons_zero, List.getElem?_cons_succ]; rfl
            case hQz66 => exact fun _ _ _ h => h
            case hyz66 => exact Or.inl ⟨by rfl, by intro w hSw; (try dsimp only at hSw); go_simp; with_reducible rfl⟩
            try simp only [Act.put, List.setIfInBounds_toArray, List.set_cons_zero, List.set_cons_succ]
            refine wpAnyH_take (i := 6) (oi := ?oiz67) (v := ?vz67) ?hiz67 (by kernel_rfl) (by kernel_rfl) (by kernel_rfl) ?hQz67 ?hyz67 (by assumption) ?restz67
            case hiz67 => simp only [List.getElem?_toArray, List.getElem?_cons_zero, List.getElem?_cons_succ]; rfl
            case hQz67 => exact fun _ _ _ h => h
            case hyz67 => exact Or.inl ⟨by rfl, by intro w hSw; (try dsimp only at hSw); go_simp; with_reducible rfl⟩
            try simp only [Act.put, List.setIfInBounds_toArray, List.set_cons_zero, List.set_cons_succ]
            refine wpAnyH_take (i := 7) (oi := ?oiz68) (v := ?vz68) ?hiz68 (by kernel_rfl) (by kernel_rfl) (by kernel_rfl) ?hQz68 ?hyz68 (by assumption) ?restz68
            case hiz68 => simp only [List.getElem?_toArray, List.getElem?_cons_zero, List.getElem?_cons_succ]; rfl
            case hQz68 => exact fun _ _ _ h => h
            case hyz68 => exact Or.inl ⟨by rfl, by intro w hSw; (try dsimp only at hSw); go_simp; with_reducible rfl⟩
            try simp only [Act.put, List.setIfInBounds_toArray, List.set_cons_zero, List.set_cons_succ]
            refine wpAnyH_take (i := 8) (oi := ?oiz69) (v := ?vz69) ?hiz69 (by kernel_rfl) (by kernel_rfl) (by kernel_rfl) ?hQz69 ?hyz69 (by assumption) ?restz69
            case hiz69 => simp only [List.getElem?_toArray, List.getElem?_cons_zero, List.getElem?_cons_succ]; rfl
            case hQz69 => exact fun _ _ _ h => h
            case hyz69 => exact Or.inl ⟨by rfl, by intro w hSw; (try dsimp only at hSw); go_simp; with_reducible rfl⟩
            try simp only [Act.put, List.setIfInBounds_toArray, List.set_cons_zero, List.set_cons_succ]
            refine wpAnyH_take (i := 9) (oi := ?oiz70) (v := ?vz70) ?hiz70 (by kernel_rfl) (by kernel_rfl) (by kernel_rfl) ?hQz70 ?hyz70 (by assumption) ?restz70
            case hiz70 => simp only [List.getElem?_toArray, List.getElem?_cons_zero, List.getElem?_cons_succ]; rfl
            case hQz70 => exact fun _ _ _ h => h
            case hyz70 => exact Or.inl ⟨by rfl, by intro w hSw; (try dsimp only at hSw); go_simp; with_reducible rfl⟩
            try simp only [Act.put, List.setIfInBounds_toArray, List.set_cons_zero, List.set_cons_succ]
            refine wpAnyH_take (i := 10) (oi := ?oiz71) (v := ?vz71) ?hiz71 (by kernel_rfl) (by kernel_rfl) (by kernel_rfl) ?hQz71 ?hyz71 (by assumption) ?restz71
            case hiz71 => simp only [List.getElem?_toArray, List.getElem?_cons_zero, List.getElem?_cons_succ]; rfl
            case hQz71 => exact fun _ _ _ h => h
            case hyz71 => exact Or.inl ⟨by rfl, by intro w hSw; (try dsimp only at hSw); go_simp; with_reducible rfl⟩
            try simp only [Act.put, List.setIfInBounds_toArray, List.set_cons_zero, List.set_cons_succ]
            refine wpAnyH_take (i := 11) (oi := ?oiz72) (v := ?vz72) ?hiz72 (by kernel_rfl) (by kernel_rfl) (by kernel_rfl) ?hQz72 ?hyz72 (by assumption) ?restz72
            case hiz72 => simp only [List.getElem?_toArray, List.getElem?_cons_zero, List.getElem?_cons_succ]; rfl
            case hQz72 => exact fun _ _ _ h => h
            case hyz72 => exact Or.inl ⟨by rfl, by intro w hSw; (try dsimp only at hSw); go_simp; with_reducible rfl⟩
            try simp only [Act.put, List.setIfInBounds_toArray, List.set_cons_zero, List.set_cons_succ]
            refine wpAnyH_done (by kernel_rfl) ?_ _
            clear d0 b0
            generalize wr.drew = w0 at *
            have HXa := Lib.hid (HX.out.trans hHeld)
            have HOa := Lib.hid (HO.out.ext hHeld)
            clear hHeld HX HO
            go_wp2_with fail
            have d0 : ∀ W, Ext w0 W → W.cell? ⟨g, o + k * 2, none⟩ = some (.string L[k].1) := fun W hW => (HC.out W (HXa.out.trans hW)).1
            have b0 : ∀ W, Ext w0 W → W.cell? ⟨w.heap.size, 0, none⟩ = some (.string e.1) := fun W hW => (HB.out W (HXa.out.trans hW)).1
            refine wp_region_held_drew (S := fun W => Ext w0 W) (by kernel_rfl) (Ext.refl _).drew (fun hHeld => ?_)
            refine wpAnyH_take (i := 0) (oi := ?oiz73) (v := ?vz73) ?hiz73 (by kernel_rfl) (by kernel_rfl) (by kernel_rfl) ?hQz73 ?hyz73 (by assumption) ?restz73
            case hiz73 => simp only [List.getElem?_toArray, List.getElem?_cons_zero, List.getElem?_cons_succ]; rfl
            case hQz73 => exact fun _ _ _ h => h
            case hyz73 => exact Or.inl ⟨by rfl, by intro w hSw; (try dsimp only at hSw); go_simp; with_reducible rfl⟩
            try simp only [Act.put, List.setIfInBounds_toArray, List.set_cons_zero, List.set_cons_succ]
            refine wpAnyH_take (i := 1) (oi := ?oiz74) (v := ?vz74) ?hiz74 (by kernel_rfl) (by kernel_rfl) (by kernel_rfl) ?hQz74 ?hyz74 (by assumption) ?restz74
            case hiz74 => simp only [List.getElem?_toArray, List.getElem?_cons_zero, List.getElem?_cons_succ]; rfl
            case hQz74 => exact fun _ _ _ h => h
            case hyz74 => exact Or.inl ⟨by rfl, by intro w hSw; (try dsimp only at hSw); go_simp; with_reducible rfl⟩
            try simp only [Act.put, List.setIfInBounds_toArray, List.set_cons_zero, List.set_cons_succ]
            refine wpAnyH_take (i := 2) (oi := ?oiz75) (v := ?vz75) ?hiz75 (by kernel_rfl) (by kernel_rfl) (by kernel_rfl) ?hQz75 ?hyz75 (by assumption) ?restz75
            case hiz75 => simp only [List.getElem?_toArray, List.getElem?_cons_zero, List.getElem?_cons_succ]; rfl
            case hQz75 => exact fun _ _ _ h => h
            case hyz75 => exact Or.inl ⟨by rfl, by intro w hSw; (try dsimp only at hSw); go_simp; with_reducible rfl⟩
            try simp only [Act.put, List.setIfInBounds_toArray, List.set_cons_zero, List.set_cons_succ]
            refine wpAnyH_take (i := 3) (oi := ?oiz76) (v := ?vz76) ?hiz76 (by kernel_rfl) (by kernel_rfl) (by kernel_rfl) ?hQz76 ?hyz76 (by assumption) ?restz76
            case hiz76 => simp only [List.getElem?_toArray, List.getElem?_cons_zero, List.getElem?_cons_succ]; rfl
            case hQz76 => exact fun _ _ _ h => h
            case hyz76 => exact Or.inl ⟨by rfl, by intro w hSw; (try dsimp only at hSw); go_simp; with_reducible rfl⟩
            try simp only [Act.put, List.setIfInBounds_toArray, List.set_cons_zero, List.set_cons_succ]
            refine wpAnyH_take (i := 4) (oi := ?oiz77) (v := ?vz77) ?hiz77 (by kernel_rfl) (by kernel_rfl) (by kernel_rfl) ?hQz77 ?hyz77 (by assumption) ?restz77
            case hiz77 => simp only [List.getElem?_toArray, List.getElem?_cons_zero, List.getElem?_cons_succ]; rfl
            case hQz77 => exact fun _ _ _ h => h
            case hyz77 => exact Or.inl ⟨by rfl, by intro w hSw; (try dsimp only at hSw); go_simp; with_reducible rfl⟩
            try simp only [Act.put, List.setIfInBounds_toArray, List.set_cons_zero, List.set_cons_succ]
            refine wpAnyH_take (i := 5) (oi := ?oiz78) (v := ?vz78) ?hiz78 (by kernel_rfl) (by kernel_rfl) (by kernel_rfl) ?hQz78 ?hyz78 (by assumption) ?restz78
            case hiz78 => simp only [List.getElem?_toArray, List.getElem?_cons_zero, List.getElem?_cons_succ]; rfl
            case hQz78 => exact fun _ _ _ h => h
            case hyz78 => exact Or.inl ⟨by rfl, by intro w hSw; (try dsimp only at hSw); go_simp; with_reducible rfl⟩
            try simp only [Act.put, List.setIfInBounds_toArray, List.set_cons_zero, List.set_cons_succ]
            refine wpAnyH_take (i := 6) (oi := ?oiz79) (v := ?vz79) ?hiz79 (by kernel_rfl) (by kernel_rfl) (by kernel_rfl) ?hQz79 ?hyz79 (by assumption) ?restz79
            case hiz79 => simp only [List.getElem?_toArray, List.getElem?_cons_zero, List.getElem?_cons_succ]; rfl
            case hQz79 => exact fun _ _ _ h => h
            case hyz79 => exact Or.inl ⟨by rfl, by intro w hSw; (try dsimp only at hSw); go_simp; with_reducible rfl⟩
            try simp only [Act.put, List.setIfInBounds_toArray, List.set_cons_zero, List.set_cons_succ]
            refine wpAnyH_take (i := 7) (oi := ?oiz80) (v := ?vz80) ?hiz80 (by kernel_rfl) (by kernel_rfl) (by kernel_rfl) ?hQz80 ?hyz80 (by assumption) ?restz80
            case hiz80 => simp only [List.getElem?_toArray, List.getElem?_cons_zero, List.getElem?_cons_succ]; rfl
            case hQz80 => exact fun _ _ _ h => h
            case hyz80 => exact Or.inl ⟨by rfl, by intro w hSw; (try dsimp only at hSw); go_simp; with_reducible rfl⟩
            try simp only [Act.put, List.setIfInBounds_toArray, List.set_cons_zero, List.set_cons_succ]
            refine wpAnyH_done (by kernel_rfl) ?_ _
            clear d0 b0
            generalize w0.drew = wb at *
            have HXb := Lib.hid (HXa.out.trans hHeld)
            have HOb := Lib.hid (HOa.out.ext hHeld)
            clear hHeld
            have d0 := (HC.out wb HXb.out).1
            have d1 := (HC.out wb HXb.out).2
            go_wp2_with (first | (refine wpl_load ⟨g, o + k * 2, none⟩ [.string L[k].1, .string L[k].2] aggEntryI rfl _ rfl rfl (fun j u hu => by rw [Addr.add_lit]; match j, hu with | 0, hu => rw [Nat.add_zero, d0]; simpa using hu | 1, hu => rw [d1]; simpa using hu) ?_) | (at_builtin; refine wpl_append rowEnt rfl _ _ rfl (v := .slice C cn cc) rfl (HOb.out.alloc _) _ _ rfl (A := some ⟨wb.heap.size, 0, none⟩) (ys := [L[k]]) rfl (rd_ent wb L[k] _) (by intro y hy; obtain rfl := List.mem_singleton.1 hy; exact HX0.out) (by simp only [List.length_append, List.length_singleton]; omega) (HXb.out.alloc _).size ?_; intro vz wz ho1 hg1 hat1; obtain ⟨Cz, nz, cz, rfl⟩ := ho1.shape3; have HOz := Lib.hid ho1; have HXz := Lib.hid ((HOb.out.alloc (Obj.cells #[.string L[k].1, .string L[k].2] 58)).ext_app (HXb.out.alloc _) hg1); clear ho1 hg1 hat1))
            go_roundw
            case rel => exact ⟨k + 1, (R ++ [L[k]], false), by omega, by go_num, rfl, by rw [HN.out, HST.out, HQ.out], HOz.out, by simp; omega, HXz.out⟩
            case measure => simp [intOf]; omega
        | false =>
          cases h2 : (L[k].1.toList == e.1.toList) with
          | true =>
            have h1' : Op.bytesLess L[k].1.toList e.1.toList = false := by rw [ltB_eq]; exact h1
            have hnm : L[k].1 = e.1 := toList_inj (by simpa using h2)
            have HQ := Lib.hid (show putStep e (R, false) L[k] = (R ++ [e], true) by simp [putStep, h1, hnm, ltB_irrefl])
            clear h1 hnm
            have d0 : ∀ W, Ext wr W → W.cell? ⟨g, o + k * 2, none⟩ = some (.string L[k].1) := fun W hW => (HC.out W (HX.out.trans hW)).1
            have b0 : ∀ W, Ext wr W → W.cell? ⟨w.heap.size, 0, none⟩ = some (.string e.1) := fun W hW => (HB.out W (HX.out.trans hW)).1
            go_wp2_with fail
            refine wp_region_held_drew (S := fun W => Ext wr W) (by kernel_rfl) (Ext.refl _).drew (fun hHeld => ?_)
            refine wpAnyH_take (i := 0) (oi := ?oiz81) (v := ?vz81) ?hiz81 (by kernel_rfl) (by kernel_rfl) (by kernel_rfl) ?hQz81 ?hyz81 (by assumption) ?restz81
            case hiz81 => simp only [List.getElem?_toArray, List.getElem?_cons_zero, List.getElem?_cons_succ]; rfl
            case hQz81 => exact fun _ _ _ h => h
            case hyz81 => exact Or.inl ⟨by rfl, by intro w hSw; (try dsimp only at hSw); go_simp; with_reducible rfl⟩
            try simp only [Act.put, List.setIfInBounds_toArray, List.set_cons_zero, List.set_cons_succ]
            refine wpAnyH_take (i := 1) (oi := ?oiz82) (v := ?vz82) ?hiz82 (by kernel_rfl) (by kernel_rfl) (by kernel_rfl) ?hQz82 ?hyz82 (by assumption) ?restz82
            case hiz82 => simp only [List.getElem?_toArray, List.getElem?_cons_zero, List.getElem?_cons_succ]; rfl
            case hQz82 => exact fun _ _ _ h => h
            case hyz82 => exact Or.inl ⟨by rfl, by intro w hSw; (try dsimp only at hSw); go_simp; with_reducible rfl⟩
            try simp only [Act.put, List.setIfInBounds_toArray, List.set_cons_zero, List.set_cons_succ]
            refine wpAnyH_take (i := 2) (oi := ?oiz83) (v := ?vz83) ?hiz83 (by kernel_rfl) (by kernel_rfl) (by kernel_rfl) ?hQz83 ?hyz83 (by assumption) ?restz83
            case hiz83 => simp only [List.getElem?_toArray, List.getElem?_cons_zero, List.getElem?_cons_succ]; rfl
            case hQz83 => exact fun _ _ _ h => h
            case hyz83 => exact Or.inl ⟨by rfl, by intro w hSw; (try dsimp only at hSw); go_simp; with_reducible rfl⟩
            try simp only [Act.put, List.setIfInBounds_toArray, List.set_cons_zero, List.set_cons_succ]
            refine wpAnyH_take (i := 3) (oi := ?oiz84) (v := ?vz84) ?hiz84 (by kernel_rfl) (by kernel_rfl) (by kernel_rfl) ?hQz84 ?hyz84 (by assumption) ?restz84
            case hiz84 => simp only [List.getElem?_toArray, List.getElem?_cons_zero, List.getElem?_cons_succ]; rfl
            case hQz84 => exact fun _ _ _ h => h
            case hyz84 => exact Or.inl ⟨by rfl, by intro w hSw; (try dsimp only at hSw); go_simp; with_reducible rfl⟩
            try simp only [Act.put, List.setIfInBounds_toArray, List.set_cons_zero, List.set_cons_succ]
            refine wpAnyH_take (i := 4) (oi := ?oiz85) (v := ?vz85) ?hiz85 (by kernel_rfl) (by kernel_rfl) (by kernel_rfl) ?hQz85 ?hyz85 (by assumption) ?restz85
            case hiz85 => simp only [List.getElem?_toArray, List.getElem?_cons_zero, List.getElem?_cons_succ]; rfl
            case hQz85 => exact fun _ _ _ h => h
            case hyz85 => exact Or.inl ⟨by rfl, by intro w hSw; (try dsimp only at hSw); go_simp; with_reducible rfl⟩
            try simp only [Act.put, List.setIfInBounds_toArray, List.set_cons_zero, List.set_cons_succ]
            refine wpAnyH_take (i := 5) (oi := ?oiz86) (v := ?vz86) ?hiz86 (by kernel_rfl) (by kernel_rfl) (by kernel_rfl) ?hQz86 ?hyz86 (by assumption) ?restz86
            case hiz86 => simp only [List.getElem?_toArray, List.getElem?_cons_zero, List.getElem?_cons_succ]; rfl
            case hQz86 => exact fun _ _ _ h => h
            case hyz86 => exact Or.inl ⟨by rfl, by intro w hSw; (try dsimp only at hSw); go_simp; with_reducible rfl⟩
            try simp only [Act.put, List.setIfInBounds_toArray, List.set_cons_zero, List.set_cons_succ]
            refine wpAnyH_take (i := 6) (oi := ?oiz87) (v := ?vz87) ?hiz87 (by kernel_rfl) (by kernel_rfl) (by kernel_rfl) ?hQz87 ?hyz87 (by assumption) ?restz87
            case hiz87 => simp only [List.getElem?_toArray, List.getElem?_cons_zero, List.getElem?_cons_succ]; rfl
            case hQz87 => exact fun _ _ _ h => h
            case hyz87 => exact Or.inl ⟨by rfl, by intro w hSw; (try dsimp only at hSw); go_simp; with_reducible rfl⟩
            try simp only [Act.put, List.setIfInBounds_toArray, List.set_cons_zero, List.set_cons_succ]
            refine wpAnyH_take (i := 7) (oi := ?oiz88) (v := ?vz88) ?hiz88 (by kernel_rfl) (by kernel_rfl) (by kernel_rfl) ?hQz88 ?hyz88 (by assumption) ?restz88
            case hiz88 => simp only [List.getElem?_toArray, List.getElem?_cons_zero, List.getElem?_cons_succ]; rfl
            case hQz88 => exact fun _ _ _ h => h
            case hyz88 => exact Or.inl ⟨by rfl, by intro w hSw; (try dsimp only at hSw); go_simp; with_reducible rfl⟩
            try simp only [Act.put, List.setIfInBounds_toArray, List.set_cons_zero, List.set_cons_succ]
            refine wpAnyH_take (i := 8) (oi := ?oiz89) (v := ?vz89) ?hiz89 (by kernel_rfl) (by kernel_rfl) (by kernel_rfl) ?hQz89 ?hyz89 (by assumption) ?restz89
            case hiz89 => simp only [List.getElem?_toArray, List.getElem?_cons_zero, List.getElem?_cons_succ]; rfl
            case hQz89 => exact fun _ _ _ h => h
            case hyz89 => exact Or.inl ⟨by rfl, by intro w hSw; (try dsimp only at hSw); go_simp; with_reducible rfl⟩
            try simp only [Act.put, List.setIfInBounds_toArray, List.set_cons_zero, List.set_cons_succ]
            refine wpAnyH_take (i := 9) (oi := ?oiz90) (v := ?vz90) ?hiz90 (by kernel_rfl) (by kernel_rfl) (by kernel_rfl) ?hQz90 ?hyz90 (by assumption) ?restz90
            case hiz90 => simp only [List.getElem?_toArray, List.getElem?_cons_zero, List.getElem?_cons_succ]; rfl
            case hQz90 => exact fun _ _ _ h => h
            case hyz90 => exact Or.inl ⟨by rfl, by intro w hSw; (try dsimp only at hSw); go_simp; with_reducible rfl⟩
            try simp only [Act.put, List.setIfInBounds_toArray, List.set_cons_zero, List.set_cons_succ]
            refine wpAnyH_take (i := 10) (oi := ?oiz91) (v := ?vz91) ?hiz91 (by kernel_rfl) (by kernel_rfl) (by kernel_rfl) ?hQz91 ?hyz91 (by assumption) ?restz91
            case hiz91 => simp only [List.getElem?_toArray, List.getElem?_cons_zero, List.getElem?_cons_succ]; rfl
            case hQz91 => exact fun _ _ _ h => h
            case hyz91 => exact Or.inl ⟨by rfl, by intro w hSw; (try dsimp only at hSw); go_simp; with_reducible rfl⟩
            try simp only [Act.put, List.setIfInBounds_toArray, List.set_cons_zero, List.set_cons_succ]
            refine wpAnyH_take (i := 11) (oi := ?oiz92) (v := ?vz92) ?hiz92 (by kernel_rfl) (by kernel_rfl) (by kernel_rfl) ?hQz92 ?hyz92 (by assumption) ?restz92
            case hiz92 => simp only [List.getElem?_toArray, List.getElem?_cons_zero, List.getElem?_cons_succ]; rfl
            case hQz92 => exact fun _ _ _ h => h
            case hyz92 => exact Or.inl ⟨by rfl, by intro w hSw; (try dsimp only at hSw); go_simp; with_reducible rfl⟩
            try simp only [Act.put, List.setIfInBounds_toArray, List.set_cons_zero, List.set_cons_succ]
            refine wpAnyH_done (by kernel_rfl) ?_ _
            clear d0 b0
            generalize wr.drew = w0 at *
            have HXa := Lib.hid (HX.out.trans hHeld)
            have HOa := Lib.hid (HO.out.ext hHeld)
            clear hHeld HX HO
            have b0 := (HB.out w0 HXa.out).1
            have b1 := (HB.out w0 HXa.out).2
            go_wp2_with (first | (refine wpl_load ⟨w.heap.size, 0, none⟩ [.string e.1, .string e.2] aggEntryI rfl _ rfl rfl (fun j u hu => by rw [Addr.add_lit, Nat.zero_add]; match j, hu with | 0, hu => rw [b0]; simpa using hu | 1, hu => rw [b1]; simpa using hu) ?_) | (at_builtin; refine wpl_append rowEnt rfl _ _ rfl (v := .slice C cn cc) rfl (HOa.out.alloc _) _ _ rfl (A := some ⟨w0.heap.size, 0, none⟩) (ys := [e]) rfl (rd_ent w0 e _) (by intro y hy; obtain rfl := List.mem_singleton.1 hy; exact HE.out) (by simp only [List.length_append, List.length_singleton]; omega) (HXa.out.alloc _).size ?_; intro v9 w9 ho1 hg1 hat1; obtain ⟨C9, n9, c9, rfl⟩ := ho1.shape3; have HO9 := Lib.hid ho1; have HX9 := Lib.hid ((HOa.out.alloc (Obj.cells #[.string e.1, .string e.2] 58)).ext_app (HXa.out.alloc _) hg1); clear ho1 hg1 hat1))
            clear b0 b1
            have d0 : ∀ W, Ext w9 W → W.cell? ⟨g, o + k * 2, none⟩ = some (.string L[k].1) := fun W hW => (HC.out W (HX9.out.trans hW)).1
            have b0 : ∀ W, Ext w9 W → W.cell? ⟨w.heap.size, 0, none⟩ = some (.string e.1) := fun W hW => (HB.out W (HX9.out.trans hW)).1
            refine wp_region_held_drew (S := fun W => Ext w9 W) (by kernel_rfl) (Ext.refl _).drew (fun hHeld => ?_)
            refine wpAnyH_take (i := 0) (oi := ?oiz93) (v := ?vz93) ?hiz93 (by kernel_rfl) (by kernel_rfl) (by kernel_rfl) ?hQz93 ?hyz93 (by assumption) ?restz93
            case hiz93 => simp only [List.getElem?_toArray, List.getElem?_cons_zero, List.getElem?_cons_succ]; rfl
            case hQz93 => exact fun _ _ _ h => h
            case hyz93 => exact Or.inl ⟨by rfl, by intro w hSw; (try dsimp only at hSw); go_simp; with_reducible rfl⟩
            try simp only [Act.put, List.setIfInBounds_toArray, List.set_cons_zero, List.set_cons_succ]
            refine wpAnyH_take (i := 1) (oi := ?oiz94) (v := ?vz94) ?hiz94 (by kernel_rfl) (by kernel_rfl) (by kernel_rfl) ?hQz94 ?hyz94 (by assumption) ?restz94
            case hiz94 => simp only [List.getElem?_toArray, List.getElem?_cons_zero, List.getElem?_cons_succ]; rfl
            case hQz94 => exact fun _ _ _ h => h
            case hyz94 => exact Or.inl ⟨by rfl, by intro w hSw; (try dsimp only at hSw); go_simp; with_reducible rfl⟩
            try simp only [Act.put, List.setIfInBounds_toArray, List.set_cons_zero, List.set_cons_succ]
            refine wpAnyH_take (i := 2) (oi := ?oiz95) (v := ?vz95) ?hiz95 (by kernel_rfl) (by kernel_rfl) (by kernel_rfl) ?hQz95 ?hyz95 (by assumption) ?restz95
            case hiz95 => simp only [List.getElem?_toArray, List.getElem?_cons_zero, List.getElem?_cons_succ]; rfl
            case hQz95 => exact fun _ _ _ h => h
            case hyz95 => exact Or.inl ⟨by rfl, by intro w hSw; (try dsimp only at hSw); go_simp; with_reducible rfl⟩
            try simp only [Act.put, List.setIfInBounds_toArray, List.set_cons_zero, List.set_cons_succ]
            refine wpAnyH_take (i := 3) (oi := ?oiz96) (v := ?vz96) ?hiz96 (by kernel_rfl) (by kernel_rfl) (by kernel_rfl) ?hQz96 ?hyz96 (by assumption) ?restz96
            case hiz96 => simp only [List.getElem?_toArray, List.getElem?_cons_zero, List.getElem?_cons_succ]; rfl
            case hQz96 => exact fun _ _ _ h => h
            case hyz96 => exact Or.inl ⟨by rfl, by intro w hSw; (try dsimp only at hSw); go_simp; with_reducible rfl⟩
            try simp only [Act.put, List.setIfInBounds_toArray, List.set_cons_zero, List.set_cons_succ]
            refine wpAnyH_take (i := 4) (oi := ?oiz97) (v := ?vz97) ?hiz97 (by kernel_rfl) (by kernel_rfl) (by kernel_rfl) ?hQz97 ?hyz97 (by assumption) ?restz97
            case hiz97 => simp only [List.getElem?_toArray, List.getElem?_cons_zero, List.getElem?_cons_succ]; rfl
            case hQz97 => exact fun _ _ _ h => h
            case hyz97 => exact Or.inl ⟨by rfl, by intro w hSw; (try dsimp only at hSw); go_simp; with_reducible rfl⟩
            try simp only [Act.put, List.setIfInBounds_toArray, List.set_cons_zero, List.set_cons_succ]
            refine wpAnyH_take (i := 5) (oi := ?oiz98) (v := ?vz98) ?hiz98 (by kernel_rfl) (by kernel_rfl) (by kernel_rfl) ?hQz98 ?hyz98 (by assumption) ?restz98
            case hiz98 => simp only [List.getElem?_toArray, List.getElem?_cons_zero, List.getElem?_cons_succ]; rfl
            case hQz98 => exact fun _ _ _ h => h
            case hyz98 => exact Or.inl ⟨by rfl, by intro w hSw; (try dsimp only at hSw); go_simp; with_reducible rfl⟩
            try simp only [Act.put, List.setIfInBounds_toArray, List.set_cons_zero, List.set_cons_succ]
            refine wpAnyH_take (i := 6) (oi := ?oiz99) (v := ?vz99) ?hiz99 (by kernel_rfl) (by kernel_rfl) (by kernel_rfl) ?hQz99 ?hyz99 (by assumption) ?restz99
            case hiz99 => simp only [List.getElem?_toArray, List.getElem?_cons_zero, List.getElem?_cons_succ]; rfl
            case hQz99 => exact fun _ _ _ h => h
            case hyz99 => exact Or.inl ⟨by rfl, by intro w hSw; (try dsimp only at hSw); go_simp; with_reducible rfl⟩
            try simp only [Act.put, List.setIfInBounds_toArray, List.set_cons_zero, List.set_cons_succ]
            refine wpAnyH_take (i := 7) (oi := ?oiz100) (v := ?vz100) ?hiz100 (by kernel_rfl) (by kernel_rfl) (by kernel_rfl) ?hQz100 ?hyz100 (by assumption) ?restz100
            case hiz100 => simp only [List.getElem?_toArray, List.getElem?_cons_zero, List.getElem?_cons_succ]; rfl
            case hQz100 => exact fun _ _ _ h => h
            case hyz100 => exact Or.inl ⟨by rfl, by intro w hSw; (try dsimp only at hSw); go_simp; with_reducible rfl⟩
            try simp only [Act.put, List.setIfInBounds_toArray, List.set_cons_zero, List.set_cons_succ]
            refine wpAnyH_done (by kernel_rfl) ?_ _
            clear d0 b0
            generalize w9.drew = wb at *
            have HXb := Lib.hid (HX9.out.trans hHeld)
            have HOb := Lib.hid (HO9.out.ext hHeld)
            clear hHeld
            go_wp2
            go_roundw
            case rel => exact ⟨k + 1, (R ++ [e], true), by omega, by go_num, rfl, by rw [HN.out, HST.out, HQ.out], HOb.out, by simp; omega, HXb.out⟩
            case measure => simp [intOf]; omega
          | false =>
            have h1' : Op.bytesLess L[k].1.toList e.1.toList = false := by rw [ltB_eq]; exact h1
            have hnm : L[k].1 ≠ e.1 := fun q => by rw [q] at h2; simp at h2
            have HQ := Lib.hid (show putStep e (R, false) L[k] = (R ++ [e] ++ [L[k]], true) by simp [putStep, h1, hnm, ltB_irrefl])
            clear h1 hnm
            have d0 : ∀ W, Ext wr W → W.cell? ⟨g, o + k * 2, none⟩ = some (.string L[k].1) := fun W hW => (HC.out W (HX.out.trans hW)).1
            have b0 : ∀ W, Ext wr W → W.cell? ⟨w.heap.size, 0, none⟩ = some (.string e.1) := fun W hW => (HB.out W (HX.out.trans hW)).1
            go_wp2_with fail
            refine wp_region_held_drew (S := fun W => Ext wr W) (by kernel_rfl) (Ext.refl _).drew (fun hHeld => ?_)
            refine wpAnyH_take (i := 0) (oi := ?oiz101) (v := ?vz101) ?hiz101 (by kernel_rfl) (by kernel_rfl) (by kernel_rfl) ?hQz101 ?hyz101 (by assumption) ?restz101
            case hiz101 => simp only [List.getElem?_toArray, List.getElem?_cons_zero, List.getElem?_cons_succ]; rfl
            case hQz101 => exact fun _ _ _ h => h
            case hyz101 => exact Or.inl ⟨by rfl, by intro w hSw; (try dsimp only at hSw); go_simp; with_reducible rfl⟩
            try simp only [Act.put, List.setIfInBounds_toArray, List.set_cons_zero, List.set_cons_succ]
            refine wpAnyH_take (i := 1) (oi := ?oiz102) (v := ?vz102) ?hiz102 (by kernel_rfl) (by kernel_rfl) (by kernel_rfl) ?hQz102 ?hyz102 (by assumption) ?restz102
            case hiz102 => simp only [List.getElem?_toArray, List.getElem?_cons_zero, List.getElem?_cons_succ]; rfl
            case hQz102 => exact fun _ _ _ h => h
            case hyz102 => exact Or.inl ⟨by rfl, by intro w hSw; (try dsimp only at hSw); go_simp; with_reducible rfl⟩
            try simp only [Act.put, List.setIfInBounds_toArray, List.set_cons_zero, List.set_cons_succ]
            refine wpAnyH_take (i := 2) (oi := ?oiz103) (v := ?vz103) ?hiz103 (by kernel_rfl) (by kernel_rfl) (by kernel_rfl) ?hQz103 ?hyz103 (by assumption) ?restz103
            case hiz103 => simp only [List.getElem?_toArray, List.getElem?_cons_zero, List.getElem?_cons_succ]; rfl
            case hQz103 => exact fun _ _ _ h => h
            case hyz103 => exact Or.inl ⟨by rfl, by intro w hSw; (try dsimp only at hSw); go_simp; with_reducible rfl⟩
            try simp only [Act.put, List.setIfInBounds_toArray, List.set_cons_zero, List.set_cons_succ]
            refine wpAnyH_take (i := 3) (oi := ?oiz104) (v := ?vz104) ?hiz104 (by kernel_rfl) (by kernel_rfl) (by kernel_rfl) ?hQz104 ?hyz104 (by assumption) ?restz104
            case hiz104 => simp only [List.getElem?_toArray, List.getElem?_cons_zero, List.getElem?_cons_succ]; rfl
            case hQz104 => exact fun _ _ _ h => h
            case hyz104 => exact Or.inl ⟨by rfl, by intro w hSw; (try dsimp only at hSw); go_simp; with_reducible rfl⟩
            try simp only [Act.put, List.setIfInBounds_toArray, List.set_cons_zero, List.set_cons_succ]
            refine wpAnyH_take (i := 4) (oi := ?oiz105) (v := ?vz105) ?hiz105 (by kernel_rfl) (by kernel_rfl) (by kernel_rfl) ?hQz105 ?hyz105 (by assumption) ?restz105
            case hiz105 => simp only [List.getElem?_toArray, List.getElem?_cons_zero, List.getElem?_cons_succ]; rfl
            case hQz105 => exact fun _ _ _ h => h
            case hyz105 => exact Or.inl ⟨by rfl, by intro w hSw; (try dsimp only at hSw); go_simp; with_reducible rfl⟩
            try simp only [Act.put, List.setIfInBounds_toArray, List.set_cons_zero, List.set_cons_succ]
            refine wpAnyH_take (i := 5) (oi := ?oiz106) (v := ?vz106) ?hiz106 (by kernel_rfl) (by kernel_rfl) (by kernel_rfl) ?hQz106 ?hyz106 (by assumption) ?restz106
            case hiz106 => simp only [List.getElem?_toArray, List.getElem?_cons_zero, List.getElem?_cons_succ]; rfl
            case hQz106 => exact fun _ _ _ h => h
            case hyz106 => exact Or.inl ⟨by rfl, by intro w hSw; (try dsimp only at hSw); go_simp; with_reducible rfl⟩
            try simp only [Act.put, List.setIfInBounds_toArray, List.set_cons_zero, List.set_cons_succ]
            refine wpAnyH_take (i := 6) (oi := ?oiz107) (v := ?vz107) ?hiz107 (by kernel_rfl) (by kernel_rfl) (by kernel_rfl) ?hQz107 ?hyz107 (by assumption) ?restz107
            case hiz107 => simp only [List.getElem?_toArray, List.getElem?_cons_zero, List.getElem?_cons_succ]; rfl
            case hQz107 => exact fun _ _ _ h => h
            case hyz107 => exact Or.inl ⟨by rfl, by intro w hSw; (try dsimp only at hSw); go_simp; with_reducible rfl⟩
            try simp only [Act.put, List.setIfInBounds_toArray, List.set_cons_zero, List.set_cons_succ]
            refine wpAnyH_take (i := 7) (oi := ?oiz108) (v := ?vz108) ?hiz108 (by kernel_rfl) (by kernel_rfl) (by kernel_rfl) ?hQz108 ?hyz108 (by assumption) ?restz108
            case hiz108 => simp only [List.getElem?_toArray, List.getElem?_cons_zero, List.getElem?_cons_succ]; rfl
            case hQz108 => exact fun _ _ _ h => h
            case hyz108 => exact Or.inl ⟨by rfl, by intro w hSw; (try dsimp only at hSw); go_simp; with_reducible rfl⟩
            try simp only [Act.put, List.setIfInBounds_toArray, List.set_cons_zero, List.set_cons_succ]
            refine wpAnyH_take (i := 8) (oi := ?oiz109) (v := ?vz109) ?hiz109 (by kernel_rfl) (by kernel_rfl) (by kernel_rfl) ?hQz109 ?hyz109 (by assumption) ?restz109
            case hiz109 => simp only [List.getElem?_toArray, List.getElem?_cons_zero, List.getElem?_cons_succ]; rfl
            case hQz109 => exact fun _ _ _ h => h
            case hyz109 => exact Or.inl ⟨by rfl, by intro w hSw; (try dsimp only at hSw); go_simp; with_reducible rfl⟩
            try simp only [Act.put, List.setIfInBounds_toArray, List.set_cons_zero, List.set_cons_succ]
            refine wpAnyH_take (i := 9) (oi := ?oiz110) (v := ?vz110) ?hiz110 (by kernel_rfl) (by kernel_rfl) (by kernel_rfl) ?hQz110 ?hyz110 (by assumption) ?restz110
            case hiz110 => simp only [List.getElem?_toArray, List.getElem?_cons_zero, List.getElem?_cons_succ]; rfl
            case hQz110 => exact fun _ _ _ h => h
            case hyz110 => exact Or.inl ⟨by rfl, by intro w hSw; (try dsimp only at hSw); go_simp; with_reducible rfl⟩
            try simp only [Act.put, List.setIfInBounds_toArray, List.set_cons_zero, List.set_cons_succ]
            refine wpAnyH_take (i := 10) (oi := ?oiz111) (v := ?vz111) ?hiz111 (by kernel_rfl) (by kernel_rfl) (by kernel_rfl) ?hQz111 ?hyz111 (by assumption) ?restz111
            case hiz111 => simp only [List.getElem?_toArray, List.getElem?_cons_zero, List.getElem?_cons_succ]; rfl
            case hQz111 => exact fun _ _ _ h => h
            case hyz111 => exact Or.inl ⟨by rfl, by intro w hSw; (try dsimp only at hSw); go_simp; with_reducible rfl⟩
            try simp only [Act.put, List.setIfInBounds_toArray, List.set_cons_zero, List.set_cons_succ]
            refine wpAnyH_take (i := 11) (oi := ?oiz112) (v := ?vz112) ?hiz112 (by kernel_rfl) (by kernel_rfl) (by kernel_rfl) ?hQz112 ?hyz112 (by assumption) ?restz112
            case hiz112 => simp only [List.getElem?_toArray, List.getElem?_cons_zero, List.getElem?_cons_succ]; rfl
            case hQz112 => exact fun _ _ _ h => h
            case hyz112 => exact Or.inl ⟨by rfl, by intro w hSw; (try dsimp only at hSw); go_simp; with_reducible rfl⟩
            try simp only [Act.put, List.setIfInBounds_toArray, List.set_cons_zero, List.set_cons_succ]
            refine wpAnyH_done (by kernel_rfl) ?_ _
            clear d0 b0
            generalize wr.drew = w0 at *
            have HXa := Lib.hid (HX.out.trans hHeld)
            have HOa := Lib.hid (HO.out.ext hHeld)
            clear hHeld HX HO
            have b0 := (HB.out w0 HXa.out).1
            have b1 := (HB.out w0 HXa.out).2
            go_wp2_with (first | (refine wpl_load ⟨w.heap.size, 0, none⟩ [.string e.1, .string e.2] aggEntryI rfl _ rfl rfl (fun j u hu => by rw [Addr.add_lit, Nat.zero_add]; match j, hu with | 0, hu => rw [b0]; simpa using hu | 1, hu => rw [b1]; simpa using hu) ?_) | (at_builtin; refine wpl_append rowEnt rfl _ _ rfl (v := .slice C cn cc) rfl (HOa.out.alloc _) _ _ rfl (A := some ⟨w0.heap.size, 0, none⟩) (ys := [e]) rfl (rd_ent w0 e _) (by intro y hy; obtain rfl := List.mem_singleton.1 hy; exact HE.out) (by simp only [List.length_append, List.length_singleton]; omega) (HXa.out.alloc _).size ?_; intro v9 w9 ho1 hg1 hat1; obtain ⟨C9, n9, c9, rfl⟩ := ho1.shape3; have HO9 := Lib.hid ho1; have HX9 := Lib.hid ((HOa.out.alloc (Obj.cells #[.string e.1, .string e.2] 58)).ext_app (HXa.out.alloc _) hg1); clear ho1 hg1 hat1))
            clear b0 b1
            have d0 : ∀ W, Ext w9 W → W.cell? ⟨g, o + k * 2, none⟩ = some (.string L[k].1) := fun W hW => (HC.out W (HX9.out.trans hW)).1
            have b0 : ∀ W, Ext w9 W → W.cell? ⟨w.heap.size, 0, none⟩ = some (.string e.1) := fun W hW => (HB.out W (HX9.out.trans hW)).1
            refine wp_region_held_drew (S := fun W => Ext w9 W) (by kernel_rfl) (Ext.refl _).drew (fun hHeld => ?_)
            refine wpAnyH_take (i := 0) (oi := ?oiz113) (v := ?vz113) ?hiz113 (by kernel_rfl) (by kernel_rfl) (by kernel_rfl) ?hQz113 ?hyz113 (by assumption) ?restz113
            case hiz113 => simp only [List.getElem?_toArray, List.getElem?_cons_zero, List.getElem?_cons_succ]; rfl
            case hQz113 => exact fun _ _ _ h => h
            case hyz113 => exact Or.inl ⟨by rfl, by intro w hSw; (try dsimp only at hSw); go_simp; with_reducible rfl⟩
            try simp only [Act.put, List.setIfInBounds_toArray, List.set_cons_zero, List.set_cons_succ]
            refine wpAnyH_take (i := 1) (oi := ?oiz114) (v := ?vz114) ?hiz114 (by kernel_rfl) (by kernel_rfl) (by kernel_rfl) ?hQz114 ?hyz114 (by assumption) ?restz114
            case hiz114 => simp only [List.getElem?_toArray, List.getElem?_cons_zero, List.getElem?_cons_succ]; rfl
            case hQz114 => exact fun _ _ _ h => h
            case hyz114 => exact Or.inl ⟨by rfl, by intro w hSw; (try dsimp only at hSw); go_simp; with_reducible rfl⟩
            try simp only [Act.put, List.setIfInBounds_toArray, List.set_cons_zero, List.set_cons_succ]
            refine wpAnyH_take (i := 2) (oi := ?oiz115) (v := ?vz115) ?hiz115 (by kernel_rfl) (by kernel_rfl) (by kernel_rfl) ?hQz115 ?hyz115 (by assumption) ?restz115
            case hiz115 => simp only [List.getElem?_toArray, List.getElem?_cons_zero, List.getElem?_cons_succ]; rfl
            case hQz115 => exact fun _ _ _ h => h
            case hyz115 => exact Or.inl ⟨by rfl, by intro w hSw; (try dsimp only at hSw); go_simp; with_reducible rfl⟩
            try simp only [Act.put, List.setIfInBounds_toArray, List.set_cons_zero, List.set_cons_succ]
            refine wpAnyH_take (i := 3) (oi := ?oiz116) (v := ?vz116) ?hiz116 (by kernel_rfl) (by kernel_rfl) (by kernel_rfl) ?hQz116 ?hyz116 (by assumption) ?restz116
            case hiz116 => simp only [List.getElem?_toArray, List.getElem?_cons_zero, List.getElem?_cons_succ]; rfl
            case hQz116 => exact fun _ _ _ h => h
            case hyz116 => exact Or.inl ⟨by rfl, by intro w hSw; (try dsimp only at hSw); go_simp; with_reducible rfl⟩
            try simp only [Act.put, List.setIfInBounds_toArray, List.set_cons_zero, List.set_cons_succ]
            refine wpAnyH_take (i := 4) (oi := ?oiz117) (v := ?vz117) ?hiz117 (by kernel_rfl) (by kernel_rfl) (by kernel_rfl) ?hQz117 ?hyz117 (by assumption) ?restz117
            case hiz117 => simp only [List.getElem?_toArray, List.getElem?_cons_zero, List.getElem?_cons_succ]; rfl
            case hQz117 => exact fun _ _ _ h => h
            case hyz117 => exact Or.inl ⟨by rfl, by intro w hSw; (try dsimp only at hSw); go_simp; with_reducible rfl⟩
            try simp only [Act.put, List.setIfInBounds_toArray, List.set_cons_zero, List.set_cons_succ]
            refine wpAnyH_take (i := 5) (oi := ?oiz118) (v := ?vz118) ?hiz118 (by kernel_rfl) (by kernel_rfl) (by kernel_rfl) ?hQz118 ?hyz118 (by assumption) ?restz118
            case hiz118 => simp only [List.getElem?_toArray, List.getElem?_cons_zero, List.getElem?_cons_succ]; rfl
            case hQz118 => exact fun _ _ _ h => h
            case hyz118 => exact Or.inl ⟨by rfl, by intro w hSw; (try dsimp only at hSw); go_simp; with_reducible rfl⟩
            try simp only [Act.put, List.setIfInBounds_toArray, List.set_cons_zero, List.set_cons_succ]
            refine wpAnyH_take (i := 6) (oi := ?oiz119) (v := ?vz119) ?hiz119 (by kernel_rfl) (by kernel_rfl) (by kernel_rfl) ?hQz119 ?hyz119 (by assumption) ?restz119
            case hiz119 => simp only [List.getElem?_toArray, List.getElem?_cons_zero, List.getElem?_cons_succ]; rfl
            case hQz119 => exact fun _ _ _ h => h
            case hyz119 => exact Or.inl ⟨by rfl, by intro w hSw; (try dsimp only at hSw); go_simp; with_reducible rfl⟩
            try simp only [Act.put, List.setIfInBounds_toArray, List.set_cons_zero, List.set_cons_succ]
            refine wpAnyH_take (i := 7) (oi := ?oiz120) (v := ?vz120) ?hiz120 (by kernel_rfl) (by kernel_rfl) (by kernel_rfl) ?hQz120 ?hyz120 (by assumption) ?restz120
            case hiz120 => simp only [List.getElem?_toArray, List.getElem?_cons_zero, List.getElem?_cons_succ]; rfl
            case hQz120 => exact fun _ _ _ h => h
            case hyz120 => exact Or.inl ⟨by rfl, by intro w hSw; (try dsimp only at hSw); go_simp; with_reducible rfl⟩
            try simp only [Act.put, List.setIfInBounds_toArray, List.set_cons_zero, List.set_cons_succ]
            refine wpAnyH_done (by kernel_rfl) ?_ _
            clear d0 b0
            generalize w9.drew = wb at *
            have HXb := Lib.hid (HX9.out.trans hHeld)
            have HOb := Lib.hid (HO9.out.ext hHeld)
            clear hHeld
            have d0 := (HC.out wb HXb.out).1
            have d1 := (HC.out wb HXb.out).2
            go_wp2_with (first | (refine wpl_load ⟨g, o + k * 2, none⟩ [.string L[k].1, .string L[k].2] aggEntryI rfl _ rfl rfl (fun j u hu => by rw [Addr.add_lit]; match j, hu with | 0, hu => rw [Nat.add_zero, d0]; simpa using hu | 1, hu => rw [d1]; simpa using hu) ?_) | (at_builtin; refine wpl_append rowEnt rfl _ _ rfl (v := .slice C9 n9 c9) rfl (HOb.out.alloc _) _ _ rfl (A := some ⟨wb.heap.size, 0, none⟩) (ys := [L[k]]) rfl (rd_ent wb L[k] _) (by intro y hy; obtain rfl := List.mem_singleton.1 hy; exact HX0.out) (by simp only [List.length_append, List.length_singleton]; omega) (HXb.out.alloc _).size ?_; intro vz wz ho1 hg1 hat1; obtain ⟨Cz, nz, cz, rfl⟩ := ho1.shape3; have HOz := Lib.hid ho1; have HXz := Lib.hid ((HOb.out.alloc (Obj.cells #[.string L[k].1, .string L[k].2] 58)).ext_app (HXb.out.alloc _) hg1); clear ho1 hg1 hat1))
            go_roundw
            case rel => exact ⟨k + 1, (R ++ [e] ++ [L[k]], true), by omega, by go_num, rfl, by rw [HN.out, HST.out, HQ.out], HOz.out, by simp; omega, HXz.out⟩
            case measure => simp [intOf]; omega
    · obtain rfl : k = L.length := by omega
      rw [List.take_length] at HST
      have HF := Lib.hid (show putF e L = (R, fl) from HST.out)
      cases fl with
      | true =>
        go_wp2
        go_ret
        exact ⟨_, rfl, by rw [HF.out]; exact HO.out.le HXX.out.size, HXX.out.trans HX.out⟩
      | false =>
        have b0 := (HB.out wr HX.out).1
        have b1 := (HB.out wr HX.out).2
        go_wp2_with (first
          | (refine wpl_load ⟨w.heap.size, 0, none⟩ [.string e.1, .string e.2] aggEntryI rfl _ rfl rfl (fun j u hu => by rw [Addr.add_lit, Nat.zero_add]; match j, hu with | 0, hu => rw [b0]; simpa using hu | 1, hu => rw [b1]; simpa using hu) ?_)
          | (at_builtin; refine wpl_append rowEnt rfl _ _ rfl (v := .slice C cn cc) rfl (HO.out.alloc _) _ _ rfl (A := some ⟨wr.heap.size, 0, none⟩) (ys := [e]) rfl (rd_ent wr e _) (by intro y hy; obtain rfl := List.mem_singleton.1 hy; exact HE.out) (by simp only [List.length_append, List.length_singleton]; omega) (HX.out.alloc _).size ?_; intro v9 w9 ho1 hg1 hat1; obtain ⟨C9, n9, c9, rfl⟩ := ho1.shape3; have HO9 := Lib.hid ho1; have HX9 := Lib.hid ((HO.out.alloc (Obj.cells #[.string e.1, .string e.2] 58)).ext_app (HX.out.alloc _) hg1); clear ho1 hg1 hat1))
        go_ret
        exact ⟨_, rfl, by rw [HF.out]; exact HO9.out.le HXX.out.size, HXX.out.trans HX9.out⟩
end Go.Proofs.Ytikpakhccmdmcaa
/- An entry put into a map: the reference. No condition. -/
namespace Go.Proofs.Ytikpakhccmdmcaa
open Go.RowKit
set_option linter.unusedVariables false
set_option linter.unusedSimpArgs false

def putR (L : List En) (e : En) : List En × Int := if okE L && entB e.1 e.2 then (if 64 < (putEnd e (putF e L)).length then ([], 3) else (putEnd e (putF e L), 0)) else ([], 1)
end Go.Proofs.Ytikpakhccmdmcaa
/- The entries of a range: the program's predicate; the first entry outside. No condition. -/
namespace Go.Proofs.Ytikpakhccmdmcaa
open Go.RowKit
set_option linter.unusedVariables false
set_option linter.unusedSimpArgs false

set_option maxHeartbeats 400000 in
theorem cloneE_any (v : Value) (xs : List En) (w : World) (S : Nat → Prop) (h : RdL tEnt w S v xs) (hl : xs.length * 32 ≤ 140737488351232) :
    Calls Try.prog 74 #[v] w fun e w' => ∃ v', e = .returned v' ∧ Own tEnt 58 w' w.heap.size v' xs ∧ Ext w w' := by
  obtain ⟨A, cap, rfl, hcap, hlen, hrd, hok⟩ := h
  have Hrd := Lib.hid hrd
  have Hok := Lib.hid hok
  clear hrd hok
  rcases A with _ | ad
  · have h0 : xs.length = 0 := by
      rcases Nat.eq_zero_or_pos xs.length with h0 | h0
      · exact h0
      · obtain ⟨g, o, h, _⟩ := Hrd.out.2 h0
        cases h
    obtain rfl : xs = [] := List.eq_nil_of_length_eq_zero h0
    have he : ∀ W : World, (binOp .eql 26 (.slice none 0 cap) (.slice none 0 0)).run Try.prog W = .ok (.bool true) W := fun W => Lib.run_eql_slice_nil W 26 _ none 0 cap 0 0 Try.underlying26
    go_enter Try.func74, Try.ntmps74
    go_wp2_with fail
    go_ret
    exact ⟨_, rfl, Own.nil _ _ _ _, Ext.refl _⟩
  · have he : ∀ W : World, (binOp .eql 26 (.slice (some ad) xs.length cap) (.slice none 0 0)).run Try.prog W = .ok (.bool false) W := fun W => Lib.run_eql_slice_nil W 26 _ (some ad) xs.length cap 0 0 Try.underlying26
    go_enter Try.func74, Try.ntmps74
    go_wp2_with (at_builtin; refine wpl_append rowEnt rfl _ _ rfl rfl (Own.empty tEnt _ 58 w.heap.size (Nat.le_refl _)) _ _ rfl rfl (Hrd.out.ext (by decide) (ext_alloc _ _)) Hok.out (by simp; omega) (by simp) ?_; intro v1 w1 ho1 hg1 hat1; obtain ⟨A1, c1, rfl⟩ := ho1.shape; have HO := Lib.hid ho1; have HG := Lib.hid hg1; clear ho1 hg1 hat1)
    go_ret
    exact ⟨_, rfl, HO.out, (ext_alloc _ _).grown HG.out (fun k hk => Nat.le_of_eq (Option.some.inj hk))⟩


end Go.Proofs.Ytikpakhccmdmcaa
/- An entry put into a map: the program. No condition. -/
namespace Go.Proofs.Ytikpakhccmdmcaa
open Go.RowKit
set_option linter.unusedVariables false
set_option linter.unusedSimpArgs false

def putI (L : List En) (e : En) : List En × Int := if hasE L e.1 then (L.set (posE L e.1) e, 0) else if L.length = 64 then ([], 3) else (insR L (posE L e.1) e, 0)
/-- both make the same -/
theorem putI_eq {L : List En} {e : En} (hb : okE L = true) (hb2 : entB e.1 e.2 = true) : putR L e = putI L e := by
  obtain ⟨hinc, h64⟩ := okE_incs' hb
  have hp := (posE_facts L e.1).1
  simp only [putR, hb, hb2, Bool.and_true, if_true, putF_eq hinc, putI]
  cases hh : hasE L e.1 with
  | true =>
    have hlt := hasE_lt' hh
    have e1 : L.set (posE L e.1) e = L.take (posE L e.1) ++ [e] ++ L.drop (posE L e.1 + 1) := by
      rw [List.set_eq_take_append_cons_drop, if_pos hlt, List.append_assoc, List.singleton_append]
    have e2 : (L.take (posE L e.1) ++ [e] ++ L.drop (posE L e.1 + 1)).length = L.length := by rw [← e1, List.length_set]
    simp only [if_true]
    rw [e2, if_neg (by omega), e1]
  | false =>
    have e1 : (L.take (posE L e.1) ++ [e] ++ L.drop (posE L e.1)).length = L.length + 1 := insR_length e hp
    simp only [Bool.false_eq_true, if_false]
    rw [e1]
    by_cases h : L.length = 64
    · rw [if_pos (by omega), if_pos h]
    · rw [if_neg (by omega), if_neg h]; rfl
set_option maxHeartbeats 1000000 in
set_option maxRecDepth 100000 in
theorem put_any (v : Value) (L : List En) (e : En) (he : tEnt.ok e) (hinc : incs L L.length = true) (h64 : L.length ≤ 64) (w : World) (S : Nat → Prop) (h : RdL tEnt w S v L) :
    Calls Try.prog 77 #[v, .agg #[.string e.1, .string e.2]] w fun q w' => ∃ v', q = .returned (.tuple #[v', .int .i64 (putI L e).2]) ∧ Own tEnt 58 w' w.heap.size v' (putI L e).1 ∧ Ext w w' := by
  have hpl := (posE_facts L e.1).1
  have hwx : ∃ wx, wx = w.alloc (.cells #[.string e.1, .string e.2] 58) := ⟨_, rfl⟩
  obtain ⟨wx, hwx⟩ := hwx
  have HB := Lib.hid (show ∀ W, Ext wx W → W.cell? ⟨w.heap.size, 0, none⟩ = some (.string e.1) ∧ W.cell? ⟨w.heap.size, 1, none⟩ = some (.string e.2) from fun W hW => by
    subst hwx
    exact ⟨hW.cell (by rw [(Blk.new w _ _).cell]; rfl), hW.cell (by rw [(Blk.new w _ _).cell]; rfl)⟩)
  have HXX := Lib.hid (show Ext w wx by subst hwx; exact ext_alloc _ _)
  have HSX := Lib.hid (show wx.heap.size = w.heap.size + 1 by subst hwx; simp)
  have H := Lib.hid h
  have hclone := cloneE_any v L wx S (h.ext (by decide) HXX.out) (by omega)
  obtain ⟨k, hk⟩ : ∃ k, posE L e.1 = k := ⟨_, rfl⟩
  have hf := fun v W S hW => find_any v L hinc e.1 W S hW
  rw [hk] at hpl
  simp only [hk] at hf
  obtain ⟨A, cap, rfl, hcap, hlen, _⟩ := h
  cases hh : hasE L e.1 with
  | true =>
    have hlt := hasE_lt' hh
    rw [hk] at hlt
    simp only [putI, hh, if_true, hk]
    simp only [hh] at hf
    clear hh hk hinc
    go_enter Try.func77, Try.ntmps77
    go_wp2_with fail
    rw [← hwx]
    refine hclone.mono ?_
    rintro q w1 ⟨v1, rfl, ho, hx⟩
    have b0 := (HB.out _ hx).1
    have hr := ho.rd
    have hbw := ho.base_le
    have HO := Lib.hid ho
    have HX := Lib.hid (HXX.out.trans hx)
    have HX0 := Lib.hid hx
    obtain ⟨A1, c1, rfl⟩ := ho.shape
    clear ho hx hclone hwx
    go_wp2_with fail
    refine (hf _ w1 _ hr).mono ?_
    rintro q w2 ⟨rfl, hx⟩
    have b0 := (HB.out _ (HX0.out.trans hx)).1
    have b1 := (HB.out _ (HX0.out.trans hx)).2
    have HX2 := Lib.hid (HX.out.trans hx)
    have ho2 := HO.out.ext hx
    obtain ⟨g, cap2, cur, hv, hgb, hgl, hB, hcs, hnc, hcm, hat⟩ := at_of_own ho2 (by omega)
    injection hv with hv1 hv2 hv3
    subst hv1 hv3
    have HB2 := Lib.hid hB
    have HAT := Lib.hid hat
    have HOK := Lib.hid HO.out.2.2
    have hst : St 2 #[.string e.1, .string e.2] := ⟨rfl, fun u hu => by simp at hu; rcases hu with rfl | rfl <;> rfl⟩
    have hne : w.heap.size ≠ g := by have := HSX.out; omega
    have i1 : (0 : Int) ≤ (k : Int) := by omega
    have i2 : (k : Int) < (L.length : Int) := by omega
    clear hx hat hB ho2 HO hr hbw hf
    go_wp2_with (first
      | (refine wpl_load ⟨w.heap.size, 0, none⟩ [.string e.1, .string e.2] aggEntryI rfl _ rfl rfl (fun j u hu => by rw [Addr.add_lit, Nat.zero_add]; match j, hu with | 0, hu => rw [b0]; simpa using hu | 1, hu => rw [b1]; simpa using hu) ?_)
      | (refine wpl_storeP (off := k * 2) HB2.out aggEntryI hst (by rw [hcs]; omega) rfl _ _ rfl rfl rfl rfl ?_))
    go_ret2
    refine ⟨_, rfl, ?_, HX2.out.setRow (by have := HSX.out; omega) _⟩
    have hfit : k * 2 + 2 ≤ cur.size := by rw [hcs]; omega
    have hsz : (splice cur (k * 2) [.string e.1, .string e.2]).size = c1 * 2 := by rw [splice_size _ _ _ hfit, hcs]
    have := own_of_at (base := w.heap.size) (cap := c1) (xs := L.set k e) (HB2.out.setRow (splice cur (k * 2) [.string e.1, .string e.2])) (by have := HSX.out; omega) hsz (by rw [List.length_set]; exact hnc) hcm (by rw [List.length_set]; omega) (fun x hx => by
      rcases List.mem_or_eq_of_mem_set hx with hx | rfl
      · exact HOK.out x hx
      · exact he) (fun i hi => by
      rw [List.length_set] at hi
      rw [List.getElem_set]
      split
      · subst_vars
        exact at_put cur _ e hfit
      · exact at_far hfit (by omega) (HAT.out i hi))
    rw [List.length_set] at this
    exact this
  | false =>
    by_cases hl : L.length = 64
    · simp only [putI, hh, Bool.false_eq_true, if_false, if_pos hl]
      simp only [hh] at hf
      have l1 : ((L.length : Int) == 64) = true := by rw [hl]; rfl
      have HL := Lib.hid hl
      clear hh hk hinc hl
      go_enter Try.func77, Try.ntmps77
      go_wp2_with fail
      rw [← hwx]
      refine hclone.mono ?_
      rintro q w1 ⟨v1, rfl, ho, hx⟩
      have b0 := (HB.out _ hx).1
      have hr := ho.rd
      have HX := Lib.hid (HXX.out.trans hx)
      obtain ⟨A1, c1, rfl⟩ := ho.shape
      clear ho hx hclone hwx
      go_wp2_with fail
      refine (hf _ w1 _ hr).mono ?_
      rintro q w2 ⟨rfl, hx⟩
      have HX2 := Lib.hid (HX.out.trans hx)
      clear hx hr hf
      go_wp2
      go_ret2
      exact ⟨_, rfl, Own.nil _ _ _ _, HX2.out⟩
    · simp only [putI, hh, Bool.false_eq_true, if_false, if_neg hl, hk]
      simp only [hh] at hf
      have l1 : ((L.length : Int) == 64) = false := by rw [beq_eq_false_iff_ne]; omega
      clear hh hk hinc
      go_enter Try.func77, Try.ntmps77
      go_wp2_with fail
      rw [← hwx]
      refine hclone.mono ?_
      rintro q w1 ⟨v1, rfl, ho, hx⟩
      have b0 := (HB.out _ hx).1
      have hr := ho.rd
      have HX := Lib.hid (HXX.out.trans hx)
      have HX0 := Lib.hid hx
      have HO := Lib.hid ho
      obtain ⟨A1, c1, rfl⟩ := ho.shape
      clear ho hx hclone hwx
      go_wp2_with fail
      refine (hf _ w1 _ hr).mono ?_
      rintro q w2 ⟨rfl, hx⟩
      have b0 := (HB.out _ (HX0.out.trans hx)).1
      have b1 := (HB.out _ (HX0.out.trans hx)).2
      have HX2 := Lib.hid (HX.out.trans hx)
      have HX20 := Lib.hid (HX0.out.trans hx)
      have HO2 := Lib.hid (HO.out.ext hx)
      have HW := Lib.hid (show wx.heap.size ≤ w2.heap.size from HX20.out.size)
      have HBL := Lib.hid HO2.out.base_le
      have hins := insE_any _ L k e he (w2.alloc (.cells #[.string e.1, .string e.2] 58)) wx.heap.size w2.heap.size 58 (HO2.out.alloc _) hpl h64 (Blk.new w2 _ _) (by have := HW.out; simp; omega) (fun h => by have := HBL.out _ h; omega)
      clear hx hr hf HO
      go_wp2_with (refine wpl_load ⟨w.heap.size, 0, none⟩ [.string e.1, .string e.2] aggEntryI rfl _ rfl rfl (fun j u hu => by rw [Addr.add_lit, Nat.zero_add]; match j, hu with | 0, hu => rw [b0]; simpa using hu | 1, hu => rw [b1]; simpa using hu) ?_)
      refine hins.mono ?_
      rintro q w3 ⟨v3, rfl, ho, hg⟩
      have HO3 := Lib.hid (ho.le (base' := w.heap.size) (by have := HSX.out; omega))
      have HX3 := Lib.hid ((HX2.out.alloc _).grown hg (fun q hq => by have := HBL.out q hq; have := HSX.out; omega))
      clear ho hg hins
      go_wp2
      go_ret2
      exact ⟨_, rfl, HO3.out, HX3.out⟩
end Go.Proofs.Ytikpakhccmdmcaa
/- The value of a name in a map: the reference and the program. No condition. -/
namespace Go.Proofs.Ytikpakhccmdmcaa
open Go.RowKit
set_option linter.unusedVariables false
set_option linter.unusedSimpArgs false

def getR (L : List En) (s : ByteArray) : ByteArray × Int := if okE L && nameB s then (if hasE L s then ((gE L (posE L s)).2, 0) else (⟨#[]⟩, 6)) else (⟨#[]⟩, 1)
theorem okE_incs {L : List En} (h : okE L = true) : incs L L.length = true ∧ L.length ≤ 64 := by
  rw [okE_eq] at h
  simpa using h
theorem hasE_lt {L : List En} {s : ByteArray} (h : hasE L s = true) : posE L s < L.length := by
  rw [hasE_eq] at h
  simp at h
  exact h.1
set_option maxHeartbeats 1000000 in
set_option maxRecDepth 100000 in
theorem implGetEntry_any (v : Value) (L : List En) (s : ByteArray) (hsz : s.size ≤ 140737488351232) (w : World) (S : Nat → Prop) (h : RdL tEnt w S v L) :
    Calls Try.prog 46 #[v, .string s] w fun e w' => e = .returned (.tuple #[.string (getR L s).1, .int .i64 (getR L s).2]) ∧ Ext w w' := by
  have H := Lib.hid h
  have hc := validEntries_any v L w S h
  have hn := isName_any s hsz
  obtain ⟨A, cap, rfl, hcap, hlen, _⟩ := h
  cases hb : okE L with
  | false =>
    simp only [getR, hb, Bool.false_and, Bool.false_eq_true, if_false]
    simp only [hb] at hc
    clear hb
    go_enter Try.func46, Try.ntmps46
    go_wp2_with fail
    refine hc.mono ?_
    rintro e w1 ⟨rfl, hx⟩
    have HX := Lib.hid hx
    clear hx
    go_wp2
    go_ret2
    exact ⟨rfl, HX.out⟩
  | true =>
    obtain ⟨hinc, h64⟩ := okE_incs hb
    have HI := Lib.hid hinc
    simp only [hb] at hc
    cases hb2 : nameB s with
    | false =>
      simp only [getR, hb, hb2, Bool.and_false, Bool.false_eq_true, if_false]
      simp only [hb2] at hn
      clear hb hb2 hinc
      go_enter Try.func46, Try.ntmps46
      go_wp2_with fail
      refine hc.mono ?_
      rintro e w1 ⟨rfl, hx⟩
      have HX := Lib.hid hx
      clear hx
      go_wp2_with fail
      refine (hn _).mono ?_
      rintro e w' ⟨rfl, rfl⟩
      go_wp2
      go_ret2
      exact ⟨rfl, HX.out⟩
    | true =>
      simp only [hb2] at hn
      have hf := fun W hW => find_any (.slice A L.length cap) L HI.out s W S hW
      cases hb3 : hasE L s with
      | false =>
        simp only [getR, hb, hb2, hb3, Bool.and_true, if_true, Bool.false_eq_true, if_false]
        simp only [hb3] at hf
        clear hb hb2 hb3 hinc
        go_enter Try.func46, Try.ntmps46
        go_wp2_with fail
        refine hc.mono ?_
        rintro e w1 ⟨rfl, hx⟩
        have HX := Lib.hid hx
        clear hx
        go_wp2_with fail
        refine (hn _).mono ?_
        rintro e w' ⟨rfl, rfl⟩
        go_wp2_with fail
        refine (hf _ (H.out.ext (by decide) HX.out)).mono ?_
        rintro e w2 ⟨rfl, hx⟩
        have HX2 := Lib.hid (HX.out.trans hx)
        clear hx
        go_wp2
        go_ret2
        exact ⟨rfl, HX2.out⟩
      | true =>
        simp only [getR, hb, hb2, hb3, Bool.and_true, if_true]
        have hlt := hasE_lt hb3
        simp only [hb3] at hf
        obtain ⟨k, hk⟩ : ∃ k, posE L s = k := ⟨_, rfl⟩
        rw [hk] at hlt ⊢
        simp only [hk] at hf
        rw [gE_lt hlt]
        clear hb hb2 hb3 hinc hk
        have hi : (0 : Int) ≤ (k : Int) := by omega
        have hi2 : (k : Int) < (L.length : Int) := by omega
        go_enter Try.func46, Try.ntmps46
        go_wp2_with fail
        refine hc.mono ?_
        rintro e w1 ⟨rfl, hx⟩
        have HX := Lib.hid hx
        clear hx
        go_wp2_with fail
        refine (hn _).mono ?_
        rintro e w' ⟨rfl, rfl⟩
        go_wp2_with fail
        refine (hf _ (H.out.ext (by decide) HX.out)).mono ?_
        rintro e w2 ⟨rfl, hx⟩
        have HX2 := Lib.hid (HX.out.trans hx)
        clear hx
        obtain ⟨A2, cap2, e, _, _, hrd, hok⟩ := H.out
        injection e with e1 e2 e3
        subst e1 e3
        obtain ⟨g, o, rfl, hs0, hc2⟩ := hrd.elem hok k hlt
        have d1 : w2.cell? ⟨g, o + k * 2 + 1, none⟩ = some (.string L[k].2) := HX2.out.cell (hc2 1 _ rfl)
        clear hrd hok hc2
        go_wp2
        go_ret2
        exact ⟨rfl, HX2.out⟩

end Go.Proofs.Ytikpakhccmdmcaa
/- A name struck out of a map: the program. No condition. -/
namespace Go.Proofs.Ytikpakhccmdmcaa
open Go.RowKit
set_option linter.unusedVariables false
set_option linter.unusedSimpArgs false

theorem notN_true {s : ByteArray} {e : En} (h : e.1 ≠ s) : notN s e = true := by
  rw [notN_eq, bne_iff_ne]
  exact fun q => h (toList_inj q)
theorem del_filter {L : List En} {s : ByteArray} (hinc : incs L L.length = true) (hh : hasE L s = true) : L.filter (notN s) = L.take (posE L s) ++ L.drop (posE L s + 1) := by
  obtain ⟨k, hk⟩ : ∃ k, posE L s = k := ⟨_, rfl⟩
  have h1 := hh
  rw [hasE_eq, hk] at h1
  simp only [decide_eq_true_eq] at h1
  obtain ⟨hlt, he⟩ := h1
  rw [gE_lt hlt] at he
  have hne : ∀ p (hp : p < L.length), p ≠ k → notN s L[p] = true := fun p hp hpk => notN_true fun e => hpk (by
    have := posE_hit hinc p hp (s := s) (by rw [gE_lt hp]; exact e)
    omega)
  rw [hk]
  conv => lhs; rw [← List.take_append_drop k L, List.drop_eq_getElem_cons hlt, List.filter_append, List.filter_cons]
  have h0 : notN s L[k] = false := by rw [notN_eq, he]; simp
  rw [h0]
  simp only [Bool.false_eq_true, if_false]
  congr 1
  · rw [List.filter_eq_self]
    intro x hx
    obtain ⟨i, hi, rfl⟩ := List.getElem_of_mem hx
    rw [List.length_take] at hi
    rw [List.getElem_take]
    exact hne i (by omega) (by omega)
  · rw [List.filter_eq_self]
    intro x hx
    obtain ⟨i, hi, rfl⟩ := List.getElem_of_mem hx
    rw [List.length_drop] at hi
    rw [List.getElem_drop]
    exact hne _ (by omega) (by omega)
end Go.Proofs.Ytikpakhccmdmcaa
/- Maps stay maps when an entry is put or struck out. No condition. -/
namespace Go.Proofs.Ytikpakhccmdmcaa
open Go.RowKit
set_option linter.unusedVariables false
set_option linter.unusedSimpArgs false

def ltE (a b : En) : Prop := ltB a.1 b.1 = true
theorem incs_pair {L : List En} : incs L L.length = true ↔ (∀ e ∈ L, entB e.1 e.2 = true) ∧ L.Pairwise ltE := by
  constructor
  · intro h
    refine ⟨?_, ?_⟩
    · intro e he
      have h2 := h
      rw [incs, List.all_eq_true] at h2
      obtain ⟨i, hi, rfl⟩ := List.getElem_of_mem he
      have := h2 i (List.mem_range.2 hi)
      simp only [incC, Bool.and_eq_true] at this
      rw [gE_lt hi] at this
      exact this.1
    · rw [List.pairwise_iff_getElem]
      intro i j hi hj hij
      have := incs_lt h i j hij hj
      rw [gE_lt hi, gE_lt hj] at this
      exact this
  · rintro ⟨h1, h2⟩
    rw [incs, List.all_eq_true]
    intro i hi
    have hi := List.mem_range.1 hi
    rw [incC, gE_lt hi, h1 _ (List.getElem_mem hi), Bool.true_and, Bool.or_eq_true]
    rcases Nat.eq_zero_or_pos i with rfl | hp
    · exact .inl rfl
    · right
      rw [gE_lt (by omega)]
      exact (List.pairwise_iff_getElem.1 h2) (i - 1) i (by omega) hi (by omega)
theorem incs_filter {L : List En} (h : incs L L.length = true) (p : En → Bool) : incs (L.filter p) (L.filter p).length = true := by
  rw [incs_pair] at h ⊢
  exact ⟨fun e he => h.1 e (List.mem_filter.1 he).1, h.2.filter p⟩
/-- an entry put in keeps the order -/
theorem incs_put {L : List En} {e : En} (h : incs L L.length = true) (he : entB e.1 e.2 = true) : incs (putEnd e (putF e L)) (putEnd e (putF e L)).length = true := by
  have h0 := h
  rw [putF_eq h]
  rw [incs_pair] at h ⊢
  obtain ⟨h1, h2⟩ := h
  obtain ⟨hle, hb, ha⟩ := posE_facts L e.1
  obtain ⟨k, hk⟩ : ∃ k, posE L e.1 = k := ⟨_, rfl⟩
  have hH := hasE_eq L e.1
  rw [hk] at hle hb ha hH ⊢
  obtain ⟨j, hj⟩ : ∃ j, (if hasE L e.1 then k + 1 else k) = j := ⟨_, rfl⟩
  rw [hj]
  have hkj : k ≤ j := by rw [← hj]; split <;> omega
  have hlt : ∀ x ∈ L.take k, ltE x e := by
    intro x hx
    obtain ⟨i, hi, rfl⟩ := List.getElem_of_mem hx
    rw [List.length_take] at hi
    rw [List.getElem_take]
    have := hb i (by omega)
    rwa [gE_lt (by omega)] at this
  have hpw := List.pairwise_iff_getElem.1 h2
  have hgt : ∀ y ∈ L.drop j, ltE e y := by
    intro y hy
    obtain ⟨i, hi, rfl⟩ := List.getElem_of_mem hy
    rw [List.length_drop] at hi
    rw [List.getElem_drop]
    have hkl : k < L.length := by omega
    have hkf := ha hkl
    rw [gE_lt hkl] at hkf
    cases hh : hasE L e.1 with
    | true =>
      have hj2 : j = k + 1 := by rw [← hj, hh]; rfl
      subst hj2
      have hke : L[k].1 = e.1 := by
        rw [hh] at hH
        have := (of_decide_eq_true hH.symm).2
        rwa [gE_lt hkl] at this
      have := hpw k (k + 1 + i) hkl (by omega) (by omega)
      unfold ltE at this ⊢
      rwa [hke] at this
    | false =>
      have hj2 : j = k := by rw [← hj, hh]; rfl
      subst hj2
      have hne : L[j].1 ≠ e.1 := fun q => by
        rw [hh] at hH
        have := of_decide_eq_false hH.symm
        exact this ⟨hkl, by rw [gE_lt hkl]; exact q⟩
      have h3 : ltB e.1 L[j].1 = true := by
        cases q : ltB e.1 L[j].1 with
        | true => rfl
        | false => exact absurd (ltB_total hkf q) hne
      rcases Nat.eq_zero_or_pos i with rfl | hp
      · exact h3
      · exact ltB_trans h3 (hpw j (j + i) hkl (by omega) (by omega))
  refine ⟨?_, ?_⟩
  · intro x hx
    simp only [List.mem_append, List.mem_singleton] at hx
    rcases hx with (hx | rfl) | hx
    · exact h1 x (List.mem_of_mem_take hx)
    · exact he
    · exact h1 x (List.mem_of_mem_drop hx)
  · rw [List.pairwise_append, List.pairwise_append]
    refine ⟨⟨h2.sublist (List.take_sublist _ _), List.pairwise_singleton _ _, ?_⟩, h2.sublist (List.drop_sublist _ _), ?_⟩
    · intro x hx y hy
      obtain rfl := List.mem_singleton.1 hy
      exact hlt x hx
    · intro x hx y hy
      simp only [List.mem_append, List.mem_singleton] at hx
      rcases hx with hx | rfl
      · exact ltB_trans (hlt x hx) (hgt y hy)
      · exact hgt y hy
end Go.Proofs.Ytikpakhccmdmcaa
/- Changes made one after the other, plainly. No condition. -/
namespace Go.Proofs.Ytikpakhccmdmcaa
open Go.RowKit
set_option linter.unusedVariables false
set_option linter.unusedSimpArgs false

theorem rd_ent0 {w : World} {S : Nat → Prop} {A : Option Addr} {c n : Nat} {xs : List En} (h : RdL tEnt w S (.slice A n c) xs) : Rd w S tEnt.sz A xs.length (xs.flatMap tEnt.enc) := by
  obtain ⟨A', cap, e, h1, h2, h3, h4⟩ := h
  injection e with e1 e2 e3
  subst e1
  exact h3
/-- a change that does not fit -/
def badC (out : List En) (c : Chg) : Bool := (c.ho != hasE out c.n) || (hasE out c.n && ((gE out (posE out c.n)).2.toList != c.o.toList))
/-- one change: the code, and the map -/
def aplS (out : List En) (c : Chg) : Int × List En := if badC out c then (4, []) else if c.hn then (if 64 < (putEnd (c.n, c.nw) (putF (c.n, c.nw) out)).length then (3, []) else (0, putEnd (c.n, c.nw) (putF (c.n, c.nw) out))) else (0, out.filter (notN c.n))
theorem aplS_bad {out : List En} {c : Chg} (h : badC out c = true) : aplS out c = (4, []) := by rw [aplS, if_pos h]
theorem aplS_lim {out : List En} {c : Chg} (h : badC out c = false) (h2 : c.hn = true) (h3 : 64 < (putEnd (c.n, c.nw) (putF (c.n, c.nw) out)).length) : aplS out c = (3, []) := by rw [aplS, if_neg (by rw [h]; decide), if_pos h2, if_pos h3]
theorem aplS_put {out : List En} {c : Chg} (h : badC out c = false) (h2 : c.hn = true) (h3 : ¬ 64 < (putEnd (c.n, c.nw) (putF (c.n, c.nw) out)).length) : aplS out c = (0, putEnd (c.n, c.nw) (putF (c.n, c.nw) out)) := by rw [aplS, if_neg (by rw [h]; decide), if_pos h2, if_neg h3]
theorem aplS_del {out : List En} {c : Chg} (h : badC out c = false) (h2 : c.hn = false) : aplS out c = (0, out.filter (notN c.n)) := by rw [aplS, if_neg (by rw [h]; decide), if_neg (by rw [h2]; decide)]
def aplF : List En → List Chg → List En × Int
  | out, [] => (out, 0)
  | out, c :: r => if (aplS out c).1 = 0 then aplF (aplS out c).2 r else ([], (aplS out c).1)
theorem aplF_nil (out : List En) : aplF out [] = (out, 0) := rfl
theorem aplF_cons (out : List En) (c : Chg) (r : List Chg) : aplF out (c :: r) = if (aplS out c).1 = 0 then aplF (aplS out c).2 r else ([], (aplS out c).1) := rfl
attribute [irreducible] aplF
/-- what ApplyChanges returns -/
def aplR (L : List En) (C : List Chg) : List En × Int := if okE L && okCs C then aplF L C else ([], 1)
theorem chgB_name {c : Chg} (h : chgB c = true) : nameB c.n = true ∧ c.nw.size ≤ 64 ∧ (c.ho = true ∨ c.hn = true) := by
  unfold chgB valB at h
  simp only [Bool.and_eq_true, Bool.or_eq_true, decide_eq_true_eq] at h
  exact ⟨h.1.1.1.1, h.1.1.2.1, h.1.2⟩
theorem chgB_ent {c : Chg} (h : chgB c = true) : entB c.n c.nw = true := by
  obtain ⟨h1, h2, _⟩ := chgB_name h
  rw [entB_eq, h1, decide_eq_true h2]
  rfl
theorem okE_mk {L : List En} (h1 : incs L L.length = true) (h2 : L.length ≤ 64) : okE L = true := by rw [okE_eq, h1, decide_eq_true h2]; rfl
theorem okE_put {L : List En} {c : Chg} (h : okE L = true) (hc : chgB c = true) (hl : ¬ 64 < (putEnd (c.n, c.nw) (putF (c.n, c.nw) L)).length) : okE (putEnd (c.n, c.nw) (putF (c.n, c.nw) L)) = true :=
  okE_mk (incs_put (okE_incs' h).1 (chgB_ent hc)) (by omega)
theorem okE_del {L : List En} {s : ByteArray} (h : okE L = true) : okE (L.filter (notN s)) = true :=
  okE_mk (incs_filter (okE_incs' h).1 _) (Nat.le_trans (List.length_filter_le _ _) (okE_incs' h).2)
theorem aplF_len (C : List Chg) (out : List En) (h : out.length ≤ 64) : (aplF out C).1.length ≤ 64 := by
  induction C generalizing out with
  | nil => rw [aplF_nil]; exact h
  | cons c r ih =>
    rw [aplF_cons]
    split
    · refine ih _ ?_
      rename_i h0
      unfold aplS at h0 ⊢
      split at h0
      · simp at h0
      · rename_i hb
        rw [if_neg hb]
        split at h0
        · rename_i hn
          rw [if_pos hn]
          split at h0
          · simp at h0
          · rename_i hl
            rw [if_neg hl]
            show (putEnd _ _).length ≤ 64
            omega
        · rename_i hn
          rw [if_neg hn]
          exact Nat.le_trans (List.length_filter_le _ _) h
    · exact Nat.zero_le _
end Go.Proofs.Ytikpakhccmdmcaa
/- Changes made one after the other: the reference. No condition. -/
namespace Go.Proofs.Ytikpakhccmdmcaa
open Go.RowKit
set_option linter.unusedVariables false
set_option linter.unusedSimpArgs false

set_option maxHeartbeats 4000000 in
set_option maxRecDepth 100000 in
theorem l04Apply_any (v u : Value) (L : List En) (C : List Chg) (hL : okE L = true) (hC : okCs C = true) (w : World) (S S' : Nat → Prop) (h : RdL tEnt w S v L) (h' : RdL tChg w S' u C) :
    Calls Try.prog 69 #[v, u] w fun e w' => ∃ v', e = .returned (.tuple #[v', .int .i64 (aplF L C).2]) ∧ Own tEnt 58 w' w.heap.size v' (aplF L C).1 ∧ Ext w w' := by
  obtain ⟨R, hR⟩ : ∃ R, aplF L C = R := ⟨_, rfl⟩
  rw [hR]
  have HR := Lib.hid hR
  have H := Lib.hid h
  obtain ⟨A, cap, rfl, hcap, hlen, hrdL, hokL⟩ := h
  obtain ⟨A', cap', rfl, hcap', hlen', hrd, hok⟩ := h'
  have Hrd := Lib.hid hrd
  have Hok := Lib.hid hok
  have HRL := Lib.hid hrdL
  have HKL := Lib.hid hokL
  have HCC := Lib.hid hC
  have HLL := Lib.hid hL
  have h64 := (okE_incs' hL).2
  clear hrd hok hR hrdL hokL hC hL
  go_enter Try.func69, Try.ntmps69
  go_wp2_with (at_builtin; refine wpl_append rowEnt rfl _ _ rfl (v := .slice (some ⟨w.heap.size, 0, none⟩) 0 0) rfl (Own.empty tEnt w 58 w.heap.size (Nat.le_refl _)) _ _ rfl (ys := L) rfl (HRL.out.ext (by decide) (ext_alloc _ _)) HKL.out (by simp only [List.length_nil]; omega) (by simp) ?_; intro v0 w0 ho1 hg1 hat1; rw [List.nil_append] at ho1; have HX0 := Lib.hid ((ext_alloc w _).grown hg1 (fun k hk => Nat.le_of_eq (Option.some.inj hk))); have HO0 := Lib.hid ho1; clear ho1 hg1 hat1)
  go_loopw [6, 7] (fun o i wr => ∃ (k : Nat) (out : List En), k ≤ C.length ∧ i = .int .i64 k ∧ Own tEnt 58 wr w.heap.size o out ∧ okE out = true ∧ aplF out (C.drop k) = R ∧ Ext w wr) (fun _ i _ => C.length - (intOf i).toNat)
  case atStart => exact ⟨0, L, by omega, rfl, HO0.out, HLL.out, by rw [List.drop_zero]; exact HR.out, HX0.out⟩
  case round =>
    clear HR HLL h64 HX0 HO0
    obtain ⟨k, out, hk, rfl, ho, hoko, hF, hx⟩ := hrel
    have HX := Lib.hid hx
    have HOKO := Lib.hid hoko
    have HO := Lib.hid ho
    obtain ⟨D, dc, rfl⟩ := ho.shape
    clear hx ho
    by_cases hlt : k < C.length
    · rw [List.drop_eq_getElem_cons hlt, aplF_cons] at hF
      obtain ⟨g, o, rfl, hs0, hc⟩ := Hrd.out.elem Hok.out k hlt
      have hcb := okCs_at HCC.out hlt
      have hcok : tChg.ok C[k] := Hok.out _ (List.getElem_mem hlt)
      generalize C[k] = c at hF hc hcb hcok
      have HF := Lib.hid hF
      have HCB := Lib.hid hcb
      have HD := Lib.hid (show ∀ j u, ([.string c.n, .bool c.ho, .string c.o, .bool c.hn, .string c.nw] : List Value)[j]? = some u → wr.cell? ⟨g, o + k * 5 + j, none⟩ = some u from fun j u hu => HX.out.cell (hc j u hu))
      have hst : St 5 #[.string c.n, .bool c.ho, .string c.o, .bool c.hn, .string c.nw] := ⟨rfl, fun u hu => tChg.one c u (by simpa [tChg] using hu)⟩
      have hi : (0 : Int) ≤ (k : Int) := by omega
      have hi2 : (k : Int) < (C.length : Int) := by omega
      obtain ⟨wb, hwb⟩ : ∃ wb, wb = wr.alloc (.cells #[.string c.n, .bool c.ho, .string c.o, .bool c.hn, .string c.nw] 103) := ⟨_, rfl⟩
      have hxb : Ext wr wb := by rw [hwb]; exact ext_alloc _ _
      have b8 : Blk wb wr.heap.size 103 #[.string c.n, .bool c.ho, .string c.o, .bool c.hn, .string c.nw] := by rw [hwb]; exact Blk.new _ _ _
      have d0 := b8.at_ 0 (v := .string c.n) rfl
      have d1 := b8.at_ 1 (v := .bool c.ho) rfl
      have d2 := b8.at_ 2 (v := .string c.o) rfl
      have d3 := b8.at_ 3 (v := .bool c.hn) rfl
      have d4 := b8.at_ 4 (v := .string c.nw) rfl
      have d0a : (wr.alloc (.cells #[.string c.n, .bool c.ho, .string c.o, .bool c.hn, .string c.nw] 103)).cell? ⟨wr.heap.size, 0, none⟩ = some (.string c.n) := by rw [← hwb]; exact d0
      have HXb := Lib.hid (HX.out.trans hxb)
      have HOb := Lib.hid (HO.out.ext hxb)
      clear hxb b8
      have hinc := okE_incs' hoko
      have hfind := l04Find_any (.slice D out.length dc) out hinc.1 c.n wb _ HOb.out.rd
      have hput := fun W (hW : Ext wb W) => l04Put_any (.slice D out.length dc) out (c.n, c.nw) ⟨hcok.1, hcok.2.2⟩ W (fun _ => True) ((HOb.out.rd.mono (fun _ _ => trivial)).ext (by decide) hW) hinc.2
      have hwo := fun W (hW : Ext wb W) => l04Without_any (.slice D out.length dc) out c.n W (fun _ => True) ((HOb.out.rd.mono (fun _ _ => trivial)).ext (by decide) hW) hinc.2
      have HFI := Lib.hid (findI_eq out c.n)
      cases hh : hasE out c.n with
      | false =>
        have e0 : findI out c.n = -1 := by rw [HFI.out, hh]; rfl
        rw [e0] at hfind
        cases hho : c.ho with
        | true =>
          have HQ := Lib.hid (show (([] : List En), (4 : Int)) = R by rw [← HF.out, aplS_bad (by rw [badC, hh, hho]; rfl)]; rfl)
          rw [hho] at d1
          clear hF e0 hput hwo hho
          go_wp2_with (first
            | (refine wpl_load ⟨g, o + k * 5, none⟩ [.string c.n, .bool c.ho, .string c.o, .bool c.hn, .string c.nw] aggChangeI rfl _ rfl rfl (fun j u hu => by rw [Addr.add_lit]; exact HD.out j u hu) ?_)
            | (refine wpl_storeNewB aggChangeI hst rfl rfl _ _ rfl rfl rfl rfl ?_))
          rw [← hwb]
          clear hwb d0a
          refine hfind.mono ?_
          rintro e w' ⟨rfl, rfl⟩
          go_wp2
          go_quiet (fail)
          go_wp2
          go_ret2
          exact ⟨_, by rw [← HQ.out]; rfl, by rw [← HQ.out]; exact Own.empty tEnt _ 58 _ (HXb.out.drewN _).size, (HXb.out.drewN _).alloc _⟩
        | false =>
          have HBAD := Lib.hid (show badC out c = false by rw [badC, hh, hho]; rfl)
          have hhn : c.hn = true := by rcases (chgB_name hcb).2.2 with h | h; rw [hho] at h; cases h; exact h
          rw [hho] at d1
          rw [hhn] at d3
          have HHN := Lib.hid hhn
          clear hF e0 hwo hho hhn
          by_cases hl : 64 < (putEnd (c.n, c.nw) (putF (c.n, c.nw) out)).length
          · have HQ := Lib.hid (show (([] : List En), (3 : Int)) = R by rw [← HF.out, aplS_lim HBAD.out HHN.out hl]; rfl)
            have HL := Lib.hid hl
            go_wp2_with (first
              | (refine wpl_load ⟨g, o + k * 5, none⟩ [.string c.n, .bool c.ho, .string c.o, .bool c.hn, .string c.nw] aggChangeI rfl _ rfl rfl (fun j u hu => by rw [Addr.add_lit]; exact HD.out j u hu) ?_)
              | (refine wpl_storeNewB aggChangeI hst rfl rfl _ _ rfl rfl rfl rfl ?_))
            rw [← hwb]
            clear hwb d0a
            refine hfind.mono ?_
            rintro e w' ⟨rfl, rfl⟩
            go_wp2
            go_quiet (fail)
            go_wp2_with fail
            refine (hput _ ((Ext.refl _).drewN _)).mono ?_
            rintro e w4 ⟨v4, rfl, ho, hx⟩
            have HX4 := Lib.hid ((HXb.out.drewN _).trans hx)
            have hl4 : (64 : Int) < ((putEnd (c.n, c.nw) (putF (c.n, c.nw) out)).length : Int) := by have := HL.out; omega
            obtain ⟨A4, c4, rfl⟩ := ho.shape
            clear ho hx hput hl
            go_wp2
            go_ret2
            exact ⟨_, by rw [← HQ.out]; rfl, by rw [← HQ.out]; exact Own.empty tEnt _ 58 _ HX4.out.size, HX4.out.alloc _⟩
          · have HQ := Lib.hid (show aplF (putEnd (c.n, c.nw) (putF (c.n, c.nw) out)) (C.drop (k + 1)) = R by rw [← HF.out, aplS_put HBAD.out HHN.out hl]; rfl)
            have HL := Lib.hid hl
            have HOKN := Lib.hid (okE_put HOKO.out HCB.out hl)
            go_wp2_with (first
              | (refine wpl_load ⟨g, o + k * 5, none⟩ [.string c.n, .bool c.ho, .string c.o, .bool c.hn, .string c.nw] aggChangeI rfl _ rfl rfl (fun j u hu => by rw [Addr.add_lit]; exact HD.out j u hu) ?_)
              | (refine wpl_storeNewB aggChangeI hst rfl rfl _ _ rfl rfl rfl rfl ?_))
            rw [← hwb]
            clear hwb d0a
            refine hfind.mono ?_
            rintro e w' ⟨rfl, rfl⟩
            go_wp2
            go_quiet (fail)
            go_wp2_with fail
            refine (hput _ ((Ext.refl _).drewN _)).mono ?_
            rintro e w4 ⟨v4, rfl, ho, hx⟩
            have HX4 := Lib.hid ((HXb.out.drewN _).trans hx)
            have HO4 := Lib.hid (ho.le (base' := w.heap.size) (HXb.out.drewN _).size)
            have hl4 : ¬ (64 : Int) < ((putEnd (c.n, c.nw) (putF (c.n, c.nw) out)).length : Int) := by have := HL.out; omega
            obtain ⟨A4, c4, rfl⟩ := ho.shape
            clear ho hx hput hl
            go_wp2
            go_roundw
            case rel => exact ⟨k + 1, _, by omega, by go_num, HO4.out, HOKN.out, HQ.out, HX4.out⟩
            case measure => simp [intOf]; omega
      | true =>
        have hlp := hasE_lt' hh
        obtain ⟨q, hq⟩ : ∃ q, posE out c.n = q := ⟨_, rfl⟩
        have e0 : findI out c.n = q := by rw [HFI.out, hh, hq]; rfl
        rw [e0] at hfind
        rw [hq] at hlp
        have hbad : badC out c = ((c.ho != true) || (out[q].2.toList != c.o.toList)) := by rw [badC, hh, hq, gE_lt hlp, Bool.true_and]
        obtain ⟨go, oo, eo, _, hco⟩ := (rd_ent0 HOb.out.rd).elem HO.out.2.2 q hlp
        subst eo
        have dv : wb.cell? ⟨go, oo + q * 2 + 1, none⟩ = some (.string out[q].2) := hco 1 _ rfl
        have hj : (0 : Int) ≤ (q : Int) := by omega
        have hj2 : (q : Int) < (out.length : Int) := by omega
        clear hco
        cases hho : c.ho with
        | false =>
          have HQ := Lib.hid (show (([] : List En), (4 : Int)) = R by rw [← HF.out, aplS_bad (by rw [hbad, hho]; rfl)]; rfl)
          rw [hho] at d1
          clear hF e0 hput hwo hbad hho
          go_wp2_with (first
            | (refine wpl_load ⟨g, o + k * 5, none⟩ [.string c.n, .bool c.ho, .string c.o, .bool c.hn, .string c.nw] aggChangeI rfl _ rfl rfl (fun j u hu => by rw [Addr.add_lit]; exact HD.out j u hu) ?_)
            | (refine wpl_storeNewB aggChangeI hst rfl rfl _ _ rfl rfl rfl rfl ?_))
          rw [← hwb]
          clear hwb d0a
          refine hfind.mono ?_
          rintro e w' ⟨rfl, rfl⟩
          go_wp2
          go_quiet (fail)
          go_wp2
          go_ret2
          exact ⟨_, by rw [← HQ.out]; rfl, by rw [← HQ.out]; exact Own.empty tEnt _ 58 _ (HXb.out.drewN _).size, (HXb.out.drewN _).alloc _⟩
        | true =>
          rw [hho] at d1
          cases hv : (out[q].2.toList == c.o.toList) with
          | false =>
            have hv2 : (out[q].2.toList != c.o.toList) = true := by rw [bne, hv]; rfl
            have HQ := Lib.hid (show (([] : List En), (4 : Int)) = R by rw [← HF.out, aplS_bad (by rw [hbad, hho, hv2]; rfl)]; rfl)
            clear hF e0 hput hwo hbad hv2 hho
            go_wp2_with (first
              | (refine wpl_load ⟨g, o + k * 5, none⟩ [.string c.n, .bool c.ho, .string c.o, .bool c.hn, .string c.nw] aggChangeI rfl _ rfl rfl (fun j u hu => by rw [Addr.add_lit]; exact HD.out j u hu) ?_)
              | (refine wpl_storeNewB aggChangeI hst rfl rfl _ _ rfl rfl rfl rfl ?_))
            rw [← hwb]
            clear hwb d0a
            refine hfind.mono ?_
            rintro e w' ⟨rfl, rfl⟩
            go_wp2
            go_quiet (fail)
            go_wp2
            go_ret2
            exact ⟨_, by rw [← HQ.out]; rfl, by rw [← HQ.out]; exact Own.empty tEnt _ 58 _ (HXb.out.drewN _).size, (HXb.out.drewN _).alloc _⟩
          | true =>
            have hv2 : (out[q].2.toList != c.o.toList) = false := by rw [bne, hv]; rfl
            have HBAD := Lib.hid (show badC out c = false by rw [hbad, hho, hv2]; rfl)
            cases hhn : c.hn with
            | true =>
              rw [hhn] at d3
              have HHN := Lib.hid hhn
              clear hF e0 hwo hbad hv2 hho hhn
              by_cases hl : 64 < (putEnd (c.n, c.nw) (putF (c.n, c.nw) out)).length
              · have HQ := Lib.hid (show (([] : List En), (3 : Int)) = R by rw [← HF.out, aplS_lim HBAD.out HHN.out hl]; rfl)
                have HL := Lib.hid hl
                go_wp2_with (first
                  | (refine wpl_load ⟨g, o + k * 5, none⟩ [.string c.n, .bool c.ho, .string c.o, .bool c.hn, .string c.nw] aggChangeI rfl _ rfl rfl (fun j u hu => by rw [Addr.add_lit]; exact HD.out j u hu) ?_)
                  | (refine wpl_storeNewB aggChangeI hst rfl rfl _ _ rfl rfl rfl rfl ?_))
                rw [← hwb]
                clear hwb d0a
                refine hfind.mono ?_
                rintro e w' ⟨rfl, rfl⟩
                go_wp2
                go_quiet (fail)
                go_wp2_with fail
                refine (hput _ ((Ext.refl _).drewN _)).mono ?_
                rintro e w4 ⟨v4, rfl, ho, hx⟩
                have HX4 := Lib.hid ((HXb.out.drewN _).trans hx)
                have hl4 : (64 : Int) < ((putEnd (c.n, c.nw) (putF (c.n, c.nw) out)).length : Int) := by have := HL.out; omega
                obtain ⟨A4, c4, rfl⟩ := ho.shape
                clear ho hx hput hl
                go_wp2
                go_ret2
                exact ⟨_, by rw [← HQ.out]; rfl, by rw [← HQ.out]; exact Own.empty tEnt _ 58 _ HX4.out.size, HX4.out.alloc _⟩
              · have HQ := Lib.hid (show aplF (putEnd (c.n, c.nw) (putF (c.n, c.nw) out)) (C.drop (k + 1)) = R by rw [← HF.out, aplS_put HBAD.out HHN.out hl]; rfl)
                have HL := Lib.hid hl
                have HOKN := Lib.hid (okE_put HOKO.out HCB.out hl)
                go_wp2_with (first
                  | (refine wpl_load ⟨g, o + k * 5, none⟩ [.string c.n, .bool c.ho, .string c.o, .bool c.hn, .string c.nw] aggChangeI rfl _ rfl rfl (fun j u hu => by rw [Addr.add_lit]; exact HD.out j u hu) ?_)
                  | (refine wpl_storeNewB aggChangeI hst rfl rfl _ _ rfl rfl rfl rfl ?_))
                rw [← hwb]
                clear hwb d0a
                refine hfind.mono ?_
                rintro e w' ⟨rfl, rfl⟩
                go_wp2
                go_quiet (fail)
                go_wp2_with fail
                refine (hput _ ((Ext.refl _).drewN _)).mono ?_
                rintro e w4 ⟨v4, rfl, ho, hx⟩
                have HX4 := Lib.hid ((HXb.out.drewN _).trans hx)
                have HO4 := Lib.hid (ho.le (base' := w.heap.size) (HXb.out.drewN _).size)
                have hl4 : ¬ (64 : Int) < ((putEnd (c.n, c.nw) (putF (c.n, c.nw) out)).length : Int) := by have := HL.out; omega
                obtain ⟨A4, c4, rfl⟩ := ho.shape
                clear ho hx hput hl
                go_wp2
                go_roundw
                case rel => exact ⟨k + 1, _, by omega, by go_num, HO4.out, HOKN.out, HQ.out, HX4.out⟩
                case measure => simp [intOf]; omega
            | false =>
              rw [hhn] at d3
              have HQ := Lib.hid (show aplF (out.filter (notN c.n)) (C.drop (k + 1)) = R by rw [← HF.out, aplS_del HBAD.out hhn]; rfl)
              have HOKN := Lib.hid (okE_del (s := c.n) HOKO.out)
              have hl4 : ¬ (64 : Int) < ((out.filter (notN c.n)).length : Int) := by have := (okE_incs' HOKN.out).2; omega
              clear hF e0 hput hbad hv2 hho hhn
              go_wp2_with (first
                | (refine wpl_load ⟨g, o + k * 5, none⟩ [.string c.n, .bool c.ho, .string c.o, .bool c.hn, .string c.nw] aggChangeI rfl _ rfl rfl (fun j u hu => by rw [Addr.add_lit]; exact HD.out j u hu) ?_)
                | (refine wpl_storeNewB aggChangeI hst rfl rfl _ _ rfl rfl rfl rfl ?_))
              rw [← hwb]
              clear hwb d0a
              refine hfind.mono ?_
              rintro e w' ⟨rfl, rfl⟩
              go_wp2
              go_quiet (fail)
              go_wp2_with fail
              refine (hwo _ ((Ext.refl _).drewN _)).mono ?_
              rintro e w4 ⟨v4, rfl, ho, hx⟩
              have HX4 := Lib.hid ((HXb.out.drewN _).trans hx)
              have HO4 := Lib.hid (ho.le (base' := w.heap.size) (HXb.out.drewN _).size)
              obtain ⟨A4, c4, rfl⟩ := ho.shape
              clear ho hx hwo
              go_wp2
              go_roundw
              case rel => exact ⟨k + 1, _, by omega, by go_num, HO4.out, HOKN.out, HQ.out, HX4.out⟩
              case measure => simp [intOf]; omega
    · obtain rfl : k = C.length := by omega
      rw [List.drop_eq_nil_of_le (Nat.le_refl _), aplF_nil] at hF
      have HQ := Lib.hid hF
      clear hF
      go_wp2
      go_ret2
      exact ⟨_, by rw [← HQ.out]; rfl, by rw [← HQ.out]; exact HO.out, HX.out⟩
end Go.Proofs.Ytikpakhccmdmcaa
/- Changes made one after the other, as it is asked for: the reference. No condition. -/
namespace Go.Proofs.Ytikpakhccmdmcaa
open Go.RowKit
set_option linter.unusedVariables false
set_option linter.unusedSimpArgs false

set_option maxHeartbeats 1000000 in
set_option maxRecDepth 100000 in
theorem specApply_any (v u : Value) (L : List En) (C : List Chg) (w : World) (S S' : Nat → Prop) (h : RdL tEnt w S v L) (h' : RdL tChg w S' u C) :
    Calls Try.prog 32 #[v, u] w fun e w' => ∃ v', e = .returned (.tuple #[v', .int .i64 (aplR L C).2]) ∧ Own tEnt 58 w' w.heap.size v' (aplR L C).1 ∧ Ext w w' := by
  have hc := l04Ok_any v L w S h
  have hap := fun (hb : okE L = true) (hb2 : okCs C = true) W (hW : Ext w W) => l04Apply_any v u L C hb hb2 W S S' (h.ext (by decide) hW) (h'.ext (by decide) hW)
  obtain ⟨A, cap, rfl, hcap, hlen, _⟩ := h
  obtain ⟨A', cap', rfl, hcap', hlen', hrd, hok⟩ := h'
  have Hrd := Lib.hid hrd
  have Hok := Lib.hid hok
  have HAP := Lib.hid hap
  clear hrd hok hap
  go_enter Try.func32, Try.ntmps32
  go_wp2_with fail
  refine hc.mono ?_
  rintro e w1 ⟨rfl, hx⟩
  have HX1 := Lib.hid hx
  clear hx hc
  go_wp2_with fail
  go_loopw [6, 7] (fun b i wr => ∃ (k : Nat) (t : Bool), k ≤ C.length ∧ i = .int .i64 k ∧ b = .bool t ∧ (t = true → okE L = true ∧ ∀ p (hp : p < C.length), p < k → chgB C[p] = true) ∧ (t = false → (okE L && okCs C) = false) ∧ Ext w wr) (fun _ i _ => C.length - (intOf i).toNat)
  case atStart => exact ⟨0, okE L, by omega, rfl, rfl, fun h => ⟨h, fun p hp h => by omega⟩, fun h => by rw [h]; rfl, HX1.out⟩
  case round =>
    obtain ⟨k, t, hk, rfl, rfl, h1, h2, hx⟩ := hrel
    have HX := Lib.hid hx
    have H1 := Lib.hid h1
    have H2 := Lib.hid h2
    clear hx h1 h2 HX1
    cases t with
    | false =>
      have HQ := Lib.hid (show aplR L C = ([], 1) by rw [aplR, H2.out rfl]; rfl)
      clear H1 H2
      by_cases hlt : k < C.length
      · have hi2 : (k : Int) < (C.length : Int) := by omega
        go_wp2
        go_ret2
        exact ⟨_, by rw [HQ.out]; rfl, by rw [HQ.out]; exact Own.empty tEnt _ 58 _ HX.out.size, HX.out.alloc _⟩
      · have hi2 : ¬ (k : Int) < (C.length : Int) := by omega
        go_wp2
        go_ret2
        exact ⟨_, by rw [HQ.out]; rfl, by rw [HQ.out]; exact Own.empty tEnt _ 58 _ HX.out.size, HX.out.alloc _⟩
    | true =>
      obtain ⟨hb, hm⟩ := H1.out rfl
      have HB := Lib.hid hb
      have HM := Lib.hid hm
      clear H1 H2 hb hm
      by_cases hlt : k < C.length
      · obtain ⟨g, o, rfl, hs0, hc⟩ := Hrd.out.elem Hok.out k hlt
        have hi : (0 : Int) ≤ (k : Int) := by omega
        have hi2 : (k : Int) < (C.length : Int) := by omega
        have hch := l04Change_any C[k] (Hok.out _ (List.getElem_mem hlt)) g (o + k * 5) wr (fun W hW j u hu => hW.cell (HX.out.cell (hc j u hu)))
        clear hc
        cases hq : chgB C[k] with
        | true =>
          rw [hq] at hch
          go_wp2_with fail
          refine hch.mono ?_
          rintro e w2 ⟨rfl, hx⟩
          have HX2 := Lib.hid (HX.out.trans hx)
          clear hx hch
          go_wp2
          go_roundw
          case rel => exact ⟨k + 1, true, by omega, by go_num, rfl, fun _ => ⟨HB.out, fun p hp h => by
            by_cases e : p = k
            · subst e; exact hq
            · exact HM.out p hp (by omega)⟩, (fun h => absurd h (by decide)), HX2.out⟩
          case measure => simp [intOf]; omega
        | false =>
          rw [hq] at hch
          go_wp2_with fail
          refine hch.mono ?_
          rintro e w2 ⟨rfl, hx⟩
          have HX2 := Lib.hid (HX.out.trans hx)
          clear hx hch
          go_wp2
          go_roundw
          case rel => exact ⟨k + 1, false, by omega, by go_num, rfl, (fun h => absurd h (by decide)), (fun _ => by rw [okCs_bad hlt hq, Bool.and_false]), HX2.out⟩
          case measure => simp [intOf]; omega
      · obtain rfl : k = C.length := by omega
        have hb2 : okCs C = true := okCs_good fun p hp => HM.out p hp hp
        have hap := HAP.out HB.out hb2 _ HX.out
        have e1 : aplR L C = aplF L C := by rw [aplR, HB.out, hb2]; rfl
        have HE := Lib.hid e1
        clear e1 hb2
        go_wp2_with fail
        refine hap.mono ?_
        rintro e w2 ⟨v2, rfl, ho, hx⟩
        have HO := Lib.hid (ho.le (base' := w.heap.size) HX.out.size)
        have HX2 := Lib.hid (HX.out.trans hx)
        obtain ⟨A2, n2, c2, rfl⟩ := ho.shape3
        clear ho hx hap
        go_wp2
        go_ret2
        exact ⟨_, by rw [HE.out]; rfl, by rw [HE.out]; exact HO.out, HX2.out⟩
end Go.Proofs.Ytikpakhccmdmcaa
/- Changes made one after the other: the program. No condition. -/
namespace Go.Proofs.Ytikpakhccmdmcaa
open Go.RowKit
set_option linter.unusedVariables false
set_option linter.unusedSimpArgs false

set_option maxHeartbeats 4000000 in
set_option maxRecDepth 100000 in
theorem implApply_any (v u : Value) (L : List En) (C : List Chg) (w : World) (S S' : Nat → Prop) (h : RdL tEnt w S v L) (h' : RdL tChg w S' u C) :
    Calls Try.prog 34 #[v, u] w fun e w' => ∃ v', e = .returned (.tuple #[v', .int .i64 (aplR L C).2]) ∧ Own tEnt 58 w' w.heap.size v' (aplR L C).1 ∧ Ext w w' := by
  have H := Lib.hid h
  have H' := Lib.hid h'
  have hc := validEntries_any v L w S h
  have hcc := fun W (hW : Ext w W) => chgContains_any u C W S' (h'.ext (by decide) hW)
  have hclone := fun (h64 : L.length ≤ 64) W (hW : Ext w W) => cloneE_any v L W S (h.ext (by decide) hW) (by omega)
  obtain ⟨A, cap, rfl, hcap, hlen, _⟩ := h
  obtain ⟨A', cap', rfl, hcap', hlen', hrd, hok⟩ := h'
  have Hrd := Lib.hid hrd
  have Hok := Lib.hid hok
  clear hrd hok
  cases hb : okE L with
  | false =>
    simp only [aplR, hb, Bool.false_and, Bool.false_eq_true, if_false]
    simp only [hb] at hc
    clear hb hclone hcc
    go_enter Try.func34, Try.ntmps34
    go_wp2_with fail
    refine hc.mono ?_
    rintro e w1 ⟨rfl, hx⟩
    have HX := Lib.hid hx
    clear hx
    go_wp2
    go_ret2
    exact ⟨_, rfl, Own.nil _ _ _ _, HX.out⟩
  | true =>
    simp only [hb] at hc
    have HLL := Lib.hid hb
    replace hclone := hclone (okE_incs' hb).2
    cases hb2 : okCs C with
    | false =>
      simp only [aplR, hb, hb2, Bool.and_false, Bool.false_eq_true, if_false]
      simp only [hb2] at hcc
      clear hb hb2 hclone
      go_enter Try.func34, Try.ntmps34
      go_wp2_with fail
      refine hc.mono ?_
      rintro e w1 ⟨rfl, hx⟩
      have HX := Lib.hid hx
      clear hx
      go_wp2_with fail
      refine (hcc _ HX.out).mono ?_
      rintro e w2 ⟨rfl, hx⟩
      have HX2 := Lib.hid (HX.out.trans hx)
      clear hx
      go_wp2
      go_ret2
      exact ⟨_, rfl, Own.nil _ _ _ _, HX2.out⟩
    | true =>
      simp only [aplR, hb, hb2, Bool.and_true, if_true]
      simp only [hb2] at hcc
      have HCC := Lib.hid hb2
      obtain ⟨R, hR⟩ : ∃ R, aplF L C = R := ⟨_, rfl⟩
      rw [hR]
      have HR := Lib.hid hR
      clear hb hb2 hR
      go_enter Try.func34, Try.ntmps34
      go_wp2_with fail
      refine hc.mono ?_
      rintro e w1 ⟨rfl, hx⟩
      have HX1 := Lib.hid hx
      clear hx
      go_wp2_with fail
      refine (hcc _ HX1.out).mono ?_
      rintro e w2 ⟨rfl, hx⟩
      have HX2 := Lib.hid (HX1.out.trans hx)
      clear hx
      go_wp2_with fail
      refine (hclone _ HX2.out).mono ?_
      rintro e w3 ⟨v3, rfl, ho, hx⟩
      have HO3 := Lib.hid (ho.le (base' := w.heap.size) HX2.out.size)
      have HX3 := Lib.hid (HX2.out.trans hx)
      clear hx ho hc hcc hclone
      go_wp2_with fail
      go_loopw [6, 23] (fun o i wr => ∃ (k : Nat) (out : List En), k ≤ C.length ∧ i = .int .i64 k ∧ Own tEnt 58 wr w.heap.size o out ∧ okE out = true ∧ aplF out (C.drop k) = R ∧ Ext w wr) (fun _ i _ => C.length - (intOf i).toNat)
      case atStart => exact ⟨0, L, by omega, rfl, HO3.out, HLL.out, by rw [List.drop_zero]; exact HR.out, HX3.out⟩
      case round =>
        clear HR HLL HX3 HO3 HX1 HX2
        obtain ⟨k, out, hk, rfl, ho, hoko, hF, hx⟩ := hrel
        have HX := Lib.hid hx
        have HOKO := Lib.hid hoko
        have HO := Lib.hid ho
        obtain ⟨D, dc, rfl⟩ := ho.shape
        clear hx ho
        by_cases hlt : k < C.length
        · rw [List.drop_eq_getElem_cons hlt, aplF_cons] at hF
          obtain ⟨g, o, rfl, hs0, hc⟩ := Hrd.out.elem Hok.out k hlt
          have hcb := okCs_at HCC.out hlt
          have hcok : tChg.ok C[k] := Hok.out _ (List.getElem_mem hlt)
          generalize C[k] = c at hF hc hcb hcok
          have HF := Lib.hid hF
          have HCB := Lib.hid hcb
          have HD := Lib.hid (show ∀ j u, ([.string c.n, .bool c.ho, .string c.o, .bool c.hn, .string c.nw] : List Value)[j]? = some u → wr.cell? ⟨g, o + k * 5 + j, none⟩ = some u from fun j u hu => HX.out.cell (hc j u hu))
          have hst : St 5 #[.string c.n, .bool c.ho, .string c.o, .bool c.hn, .string c.nw] := ⟨rfl, fun u hu => tChg.one c u (by simpa [tChg] using hu)⟩
          have hi : (0 : Int) ≤ (k : Int) := by omega
          have hi2 : (k : Int) < (C.length : Int) := by omega
          obtain ⟨wb, hwb⟩ : ∃ wb, wb = wr.alloc (.cells #[.string c.n, .bool c.ho, .string c.o, .bool c.hn, .string c.nw] 103) := ⟨_, rfl⟩
          have hxb : Ext wr wb := by rw [hwb]; exact ext_alloc _ _
          have HB8 := Lib.hid (show Blk wb wr.heap.size 103 #[.string c.n, .bool c.ho, .string c.o, .bool c.hn, .string c.nw] by rw [hwb]; exact Blk.new _ _ _)
          have d0a : (wr.alloc (.cells #[.string c.n, .bool c.ho, .string c.o, .bool c.hn, .string c.nw] 103)).cell? ⟨wr.heap.size, 0, none⟩ = some (.string c.n) := by rw [← hwb]; exact HB8.out.at_ 0 (v := .string c.n) rfl
          have HXb := Lib.hid (HX.out.trans hxb)
          have HOb := Lib.hid (HO.out.ext hxb)
          clear hxb
          have hinc := okE_incs' hoko
          have hfind := find_any (.slice D out.length dc) out hinc.1 c.n wb (fun _ => True) (HOb.out.rd.mono (fun _ _ => trivial))
          have hput := fun W (hW : Ext wb W) => put_any (.slice D out.length dc) out (c.n, c.nw) ⟨hcok.1, hcok.2.2⟩ hinc.1 hinc.2 W (fun _ => True) ((HOb.out.rd.mono (fun _ _ => trivial)).ext (by decide) hW)
          have hpi := putI_eq hoko (e := (c.n, c.nw)) (chgB_ent hcb)
          rw [putR, hoko, chgB_ent hcb] at hpi
          simp only [Bool.and_self, if_true] at hpi
          have HPI := Lib.hid hpi
          obtain ⟨q, hq⟩ : ∃ q, posE out c.n = q := ⟨_, rfl⟩
          have HQP := Lib.hid hq
          rw [hq] at hfind
          clear hpi hq
          cases hh : hasE out c.n with
          | false =>
            rw [hh] at hfind
            cases hho : c.ho with
            | true =>
              have HQ := Lib.hid (show (([] : List En), (4 : Int)) = R by rw [← HF.out, aplS_bad (by rw [badC, hh, hho]; rfl)]; rfl)
              have HHO := Lib.hid hho
              clear hF hput hh hho
              go_wp2_with (first
                | (refine wpl_load ⟨g, o + k * 5, none⟩ [.string c.n, .bool c.ho, .string c.o, .bool c.hn, .string c.nw] aggChangeI rfl _ rfl rfl (fun j u hu => by rw [Addr.add_lit]; exact HD.out j u hu) ?_)
                | (refine wpl_storeNewB aggChangeI hst rfl rfl _ _ rfl rfl rfl rfl ?_))
              rw [← hwb]
              clear hwb d0a
              refine hfind.mono ?_
              rintro e w2 ⟨rfl, hx⟩
              have HX2 := Lib.hid (HXb.out.trans hx)
              have HO2 := Lib.hid (HOb.out.ext hx)
              have d0 := (HB8.out.ext hx).at_ 0 (v := .string c.n) rfl
              have d1 := (HB8.out.ext hx).at_ 1 (v := .bool c.ho) rfl
              have d2 := (HB8.out.ext hx).at_ 2 (v := .string c.o) rfl
              have d3 := (HB8.out.ext hx).at_ 3 (v := .bool c.hn) rfl
              have d4 := (HB8.out.ext hx).at_ 4 (v := .string c.nw) rfl
              rw [HHO.out] at d1
              clear hx
              go_wp2
              go_quiet (fail)
              go_wp2
              go_ret2
              exact ⟨_, by rw [← HQ.out]; rfl, by rw [← HQ.out]; exact Own.nil _ _ _ _, HX2.out.drewN _⟩
            | false =>
              have HBAD := Lib.hid (show badC out c = false by rw [badC, hh, hho]; rfl)
              have hhn : c.hn = true := by rcases (chgB_name hcb).2.2 with h | h; rw [hho] at h; cases h; exact h
              have HHO := Lib.hid hho
              have HHN := Lib.hid hhn
              clear hF hh hho hhn
              go_wp2_with (first
                | (refine wpl_load ⟨g, o + k * 5, none⟩ [.string c.n, .bool c.ho, .string c.o, .bool c.hn, .string c.nw] aggChangeI rfl _ rfl rfl (fun j u hu => by rw [Addr.add_lit]; exact HD.out j u hu) ?_)
                | (refine wpl_storeNewB aggChangeI hst rfl rfl _ _ rfl rfl rfl rfl ?_))
              rw [← hwb]
              clear hwb d0a
              refine hfind.mono ?_
              rintro e w2 ⟨rfl, hx⟩
              have HX2 := Lib.hid (HXb.out.trans hx)
              have HO2 := Lib.hid (HOb.out.ext hx)
              have d0 := (HB8.out.ext hx).at_ 0 (v := .string c.n) rfl
              have d1 := (HB8.out.ext hx).at_ 1 (v := .bool c.ho) rfl
              have d2 := (HB8.out.ext hx).at_ 2 (v := .string c.o) rfl
              have d3 := (HB8.out.ext hx).at_ 3 (v := .bool c.hn) rfl
              have d4 := (HB8.out.ext hx).at_ 4 (v := .string c.nw) rfl
              rw [HHO.out] at d1
              rw [HHN.out] at d3
              have HXbx := Lib.hid hx
              clear hx
              by_cases hl : 64 < (putEnd (c.n, c.nw) (putF (c.n, c.nw) out)).length
              · have HQ := Lib.hid (show (([] : List En), (3 : Int)) = R by rw [← HF.out, aplS_lim HBAD.out HHN.out hl]; rfl)
                have hpi := HPI.out
                rw [if_pos hl] at hpi
                simp only [← hpi] at hput
                clear hpi hl
                go_wp2
                go_quiet (fail)
                go_wp2_with fail
                refine (hput _ (HXbx.out.drewN _)).mono ?_
                rintro e w4 ⟨v4, rfl, ho, hx⟩
                have HX4 := Lib.hid ((HX2.out.drewN _).trans hx)
                obtain ⟨A4, n4, c4, rfl⟩ := ho.shape3
                clear ho hx hput
                go_wp2
                go_ret2
                exact ⟨_, by rw [← HQ.out]; rfl, by rw [← HQ.out]; exact Own.nil _ _ _ _, HX4.out⟩
              · have HQ := Lib.hid (show aplF (putEnd (c.n, c.nw) (putF (c.n, c.nw) out)) (C.drop (k + 1)) = R by rw [← HF.out, aplS_put HBAD.out HHN.out hl]; rfl)
                have HOKN := Lib.hid (okE_put HOKO.out HCB.out hl)
                have hpi := HPI.out
                rw [if_neg hl] at hpi
                simp only [← hpi] at hput
                clear hpi hl
                go_wp2
                go_quiet (fail)
                go_wp2_with fail
                refine (hput _ (HXbx.out.drewN _)).mono ?_
                rintro e w4 ⟨v4, rfl, ho, hx⟩
                have HX4 := Lib.hid ((HX2.out.drewN _).trans hx)
                have HO4 := Lib.hid (ho.le (base' := w.heap.size) (HX2.out.drewN _).size)
                obtain ⟨A4, n4, c4, rfl⟩ := ho.shape3
                clear ho hx hput
                go_wp2
                go_roundw
                case rel => exact ⟨k + 1, _, by omega, by go_num, HO4.out, HOKN.out, HQ.out, HX4.out⟩
                case measure => simp [intOf]; omega
          | true =>
            have hlp := hasE_lt' hh
            rw [HQP.out] at hlp
            rw [hh] at hfind
            have HHH := Lib.hid hh
            have hbad : badC out c = ((c.ho != true) || (out[q].2.toList != c.o.toList)) := by rw [badC, hh, HQP.out, gE_lt hlp, Bool.true_and]
            obtain ⟨go, oo, eo, _, hco⟩ := (rd_ent0 HOb.out.rd).elem HO.out.2.2 q hlp
            subst eo
            have HV := Lib.hid (show wb.cell? ⟨go, oo + q * 2 + 1, none⟩ = some (.string out[q].2) from hco 1 _ rfl)
            have hj : (0 : Int) ≤ (q : Int) := by omega
            have hj2 : (q : Int) < (out.length : Int) := by omega
            clear hco hh
            cases hho : c.ho with
            | false =>
              have HQ := Lib.hid (show (([] : List En), (4 : Int)) = R by rw [← HF.out, aplS_bad (by rw [hbad, hho]; rfl)]; rfl)
              have HHO := Lib.hid hho
              clear hF hput hbad hho
              go_wp2_with (first
                | (refine wpl_load ⟨g, o + k * 5, none⟩ [.string c.n, .bool c.ho, .string c.o, .bool c.hn, .string c.nw] aggChangeI rfl _ rfl rfl (fun j u hu => by rw [Addr.add_lit]; exact HD.out j u hu) ?_)
                | (refine wpl_storeNewB aggChangeI hst rfl rfl _ _ rfl rfl rfl rfl ?_))
              rw [← hwb]
              clear hwb d0a
              refine hfind.mono ?_
              rintro e w2 ⟨rfl, hx⟩
              have HX2 := Lib.hid (HXb.out.trans hx)
              have HO2 := Lib.hid (HOb.out.ext hx)
              have d0 := (HB8.out.ext hx).at_ 0 (v := .string c.n) rfl
              have d1 := (HB8.out.ext hx).at_ 1 (v := .bool c.ho) rfl
              have d2 := (HB8.out.ext hx).at_ 2 (v := .string c.o) rfl
              have d3 := (HB8.out.ext hx).at_ 3 (v := .bool c.hn) rfl
              have d4 := (HB8.out.ext hx).at_ 4 (v := .string c.nw) rfl
              rw [HHO.out] at d1
              clear hx
              go_wp2
              go_quiet (fail)
              go_wp2
              go_ret2
              exact ⟨_, by rw [← HQ.out]; rfl, by rw [← HQ.out]; exact Own.nil _ _ _ _, HX2.out.drewN _⟩
            | true =>
              have HHO := Lib.hid hho
              cases hv : (out[q].2.toList == c.o.toList) with
              | false =>
                have hv2 : (out[q].2.toList != c.o.toList) = true := by rw [bne, hv]; rfl
                have HQ := Lib.hid (show (([] : List En), (4 : Int)) = R by rw [← HF.out, aplS_bad (by rw [hbad, hho, hv2]; rfl)]; rfl)
                clear hF hput hbad hv2 hho
                go_wp2_with (first
                  | (refine wpl_load ⟨g, o + k * 5, none⟩ [.string c.n, .bool c.ho, .string c.o, .bool c.hn, .string c.nw] aggChangeI rfl _ rfl rfl (fun j u hu => by rw [Addr.add_lit]; exact HD.out j u hu) ?_)
                  | (refine wpl_storeNewB aggChangeI hst rfl rfl _ _ rfl rfl rfl rfl ?_))
                rw [← hwb]
                clear hwb d0a
                refine hfind.mono ?_
                rintro e w2 ⟨rfl, hx⟩
                have HX2 := Lib.hid (HXb.out.trans hx)
                have HO2 := Lib.hid (HOb.out.ext hx)
                have d0 := (HB8.out.ext hx).at_ 0 (v := .string c.n) rfl
                have d1 := (HB8.out.ext hx).at_ 1 (v := .bool c.ho) rfl
                have d2 := (HB8.out.ext hx).at_ 2 (v := .string c.o) rfl
                have d3 := (HB8.out.ext hx).at_ 3 (v := .bool c.hn) rfl
                have d4 := (HB8.out.ext hx).at_ 4 (v := .string c.nw) rfl
                rw [HHO.out] at d1
                have dv := hx.cell HV.out
                clear hx
                go_wp2
                go_quiet (fail)
                go_wp2
                go_ret2
                exact ⟨_, by rw [← HQ.out]; rfl, by rw [← HQ.out]; exact Own.nil _ _ _ _, HX2.out.drewN _⟩
              | true =>
                have hv2 : (out[q].2.toList != c.o.toList) = false := by rw [bne, hv]; rfl
                have HBAD := Lib.hid (show badC out c = false by rw [hbad, hho, hv2]; rfl)
                cases hhn : c.hn with
                | true =>
                  have HHN := Lib.hid hhn
                  clear hF hbad hv2 hho hhn
                  go_wp2_with (first
                    | (refine wpl_load ⟨g, o + k * 5, none⟩ [.string c.n, .bool c.ho, .string c.o, .bool c.hn, .string c.nw] aggChangeI rfl _ rfl rfl (fun j u hu => by rw [Addr.add_lit]; exact HD.out j u hu) ?_)
                    | (refine wpl_storeNewB aggChangeI hst rfl rfl _ _ rfl rfl rfl rfl ?_))
                  rw [← hwb]
                  clear hwb d0a
                  refine hfind.mono ?_
                  rintro e w2 ⟨rfl, hx⟩
                  have HX2 := Lib.hid (HXb.out.trans hx)
                  have HO2 := Lib.hid (HOb.out.ext hx)
                  have d0 := (HB8.out.ext hx).at_ 0 (v := .string c.n) rfl
                  have d1 := (HB8.out.ext hx).at_ 1 (v := .bool c.ho) rfl
                  have d2 := (HB8.out.ext hx).at_ 2 (v := .string c.o) rfl
                  have d3 := (HB8.out.ext hx).at_ 3 (v := .bool c.hn) rfl
                  have d4 := (HB8.out.ext hx).at_ 4 (v := .string c.nw) rfl
                  rw [HHO.out] at d1
                  rw [HHN.out] at d3
                  have dv := hx.cell HV.out
                  have HXbx := Lib.hid hx
                  clear hx
                  by_cases hl : 64 < (putEnd (c.n, c.nw) (putF (c.n, c.nw) out)).length
                  · have HQ := Lib.hid (show (([] : List En), (3 : Int)) = R by rw [← HF.out, aplS_lim HBAD.out HHN.out hl]; rfl)
                    have hpi := HPI.out
                    rw [if_pos hl] at hpi
                    simp only [← hpi] at hput
                    clear hpi hl
                    go_wp2
                    go_quiet (fail)
                    go_wp2_with fail
                    refine (hput _ (HXbx.out.drewN _)).mono ?_
                    rintro e w4 ⟨v4, rfl, ho, hx⟩
                    have HX4 := Lib.hid ((HX2.out.drewN _).trans hx)
                    obtain ⟨A4, n4, c4, rfl⟩ := ho.shape3
                    clear ho hx hput
                    go_wp2
                    go_ret2
                    exact ⟨_, by rw [← HQ.out]; rfl, by rw [← HQ.out]; exact Own.nil _ _ _ _, HX4.out⟩
                  · have HQ := Lib.hid (show aplF (putEnd (c.n, c.nw) (putF (c.n, c.nw) out)) (C.drop (k + 1)) = R by rw [← HF.out, aplS_put HBAD.out HHN.out hl]; rfl)
                    have HOKN := Lib.hid (okE_put HOKO.out HCB.out hl)
                    have hpi := HPI.out
                    rw [if_neg hl] at hpi
                    simp only [← hpi] at hput
                    clear hpi hl
                    go_wp2
                    go_quiet (fail)
                    go_wp2_with fail
                    refine (hput _ (HXbx.out.drewN _)).mono ?_
                    rintro e w4 ⟨v4, rfl, ho, hx⟩
                    have HX4 := Lib.hid ((HX2.out.drewN _).trans hx)
                    have HO4 := Lib.hid (ho.le (base' := w.heap.size) (HX2.out.drewN _).size)
                    obtain ⟨A4, n4, c4, rfl⟩ := ho.shape3
                    clear ho hx hput
                    go_wp2
                    go_roundw
                    case rel => exact ⟨k + 1, _, by omega, by go_num, HO4.out, HOKN.out, HQ.out, HX4.out⟩
                    case measure => simp [intOf]; omega
                | false =>
                  have HQ := Lib.hid (show aplF (out.filter (notN c.n)) (C.drop (k + 1)) = R by rw [← HF.out, aplS_del HBAD.out hhn]; rfl)
                  have HOKN := Lib.hid (okE_del (s := c.n) HOKO.out)
                  have HDF := Lib.hid (del_filter hinc.1 HHH.out)
                  have HHN := Lib.hid hhn
                  have h64 := hinc.2
                  have hq1 : IntKind.i64.wrap ((q : Int) + 1) = (q : Int) + 1 := by rw [IntKind.wrap_i64]; omega
                  clear hF hput hbad hv2 hho hhn
                  go_wp2_with (first
                    | (refine wpl_load ⟨g, o + k * 5, none⟩ [.string c.n, .bool c.ho, .string c.o, .bool c.hn, .string c.nw] aggChangeI rfl _ rfl rfl (fun j u hu => by rw [Addr.add_lit]; exact HD.out j u hu) ?_)
                    | (refine wpl_storeNewB aggChangeI hst rfl rfl _ _ rfl rfl rfl rfl ?_))
                  rw [← hwb]
                  clear hwb d0a
                  refine hfind.mono ?_
                  rintro e w2 ⟨rfl, hx⟩
                  have HX2 := Lib.hid (HXb.out.trans hx)
                  have HO2 := Lib.hid (HOb.out.ext hx)
                  have d0 := (HB8.out.ext hx).at_ 0 (v := .string c.n) rfl
                  have d1 := (HB8.out.ext hx).at_ 1 (v := .bool c.ho) rfl
                  have d2 := (HB8.out.ext hx).at_ 2 (v := .string c.o) rfl
                  have d3 := (HB8.out.ext hx).at_ 3 (v := .bool c.hn) rfl
                  have d4 := (HB8.out.ext hx).at_ 4 (v := .string c.nw) rfl
                  rw [HHO.out] at d1
                  rw [HHN.out] at d3
                  have dv := hx.cell HV.out
                  clear hx
                  go_wp2
                  go_quiet (fail)
                  go_wp2_with fail
                  refine (sdel_any _ out q _ w.heap.size (HO2.out.drewN _) hlp h64).mono ?_
                  rintro e w4 ⟨v4, rfl, ho, hg4⟩
                  have HX4 := Lib.hid ((HX2.out.drewN _).grown hg4 (fun k hk => (HO2.out.base_le k hk).1))
                  have HO4 := Lib.hid ho
                  obtain ⟨A4, n4, c4, rfl⟩ := ho.shape3
                  rw [HQP.out] at HDF
                  rw [← HDF.out] at HO4
                  clear ho hg4
                  go_wp2
                  go_roundw
                  case rel => exact ⟨k + 1, _, by omega, by go_num, HO4.out, HOKN.out, HQ.out, HX4.out⟩
                  case measure => simp [intOf]; omega
        · obtain rfl : k = C.length := by omega
          rw [List.drop_eq_nil_of_le (Nat.le_refl _), aplF_nil] at hF
          have HQ := Lib.hid hF
          clear hF
          go_wp2
          go_ret2
          exact ⟨_, by rw [← HQ.out]; rfl, by rw [← HQ.out]; exact HO.out, HX.out⟩
end Go.Proofs.Ytikpakhccmdmcaa
/- The texts that mark entries. No condition. -/
namespace Go.Proofs.Ytikpakhccmdmcaa
open Go.RowKit
set_option linter.unusedVariables false
set_option linter.unusedSimpArgs false

theorem convS {A : Option Addr} {cap : Nat} {xs : List Int} {w : World} {S : Nat → Prop} (h : RdL tByte w S (.slice A xs.length cap) xs) : (convert 126 9 (.slice A xs.length cap)).run Try.prog w = .ok (.string (strOfNums xs)) w := by
  obtain ⟨A', cap', e, hcap, hlen, hrd, hok⟩ := h
  obtain ⟨rfl, _, rfl⟩ := Value.slice.inj e
  rw [flat_bytes] at hrd
  rcases Nat.eq_zero_or_pos xs.length with h0 | h0
  · obtain rfl : xs = [] := List.eq_nil_of_length_eq_zero h0
    rw [run_convert_bytes_string w _ _ _ A _ cap Try.underlying126 Try.underlying5 Try.underlying9]
    cases A <;> simp [Conv.bytesToString, loadCells] <;> rfl
  · obtain ⟨g, o, rfl, _, hc⟩ := hrd.2 h0
    exact run_convert_bytes_arg w _ _ Try.underlying126 Try.underlying5 g o xs.length cap xs rfl (fun i hi => hc i _ (nums_at _ _ _ hi)) _ Try.underlying9
/-- the digits of n ahead of s -/
def digs (n : Nat) (s : ByteArray) : ByteArray := if n = 0 then s else digs (n / 10) (strOfNums [(48 + (n % 10 : Nat) : Int)] ++ s)
termination_by n
decreasing_by omega
theorem digs_zero (s : ByteArray) : digs 0 s = s := by rw [digs]; rfl
theorem digs_pos {n : Nat} (h : 0 < n) (s : ByteArray) : digs n s = digs (n / 10) (strOfNums [(48 + (n % 10 : Nat) : Int)] ++ s) := by rw [digs, if_neg (by omega)]
/-- the text of a mark -/
@[irreducible] def mtxt (m : Int) : ByteArray := ⟨#[109]⟩ ++ digs m.toNat ⟨#[]⟩
theorem mtxt_eq (m : Int) : mtxt m = ⟨#[109]⟩ ++ digs m.toNat ⟨#[]⟩ := by rw [mtxt]
set_option maxHeartbeats 1000000 in
set_option maxRecDepth 100000 in
theorem markText_any (m : Int) (h0 : 0 < m) (h1 : m ≤ 1000000000000000) (w : World) :
    Calls Try.prog 53 #[.int .i64 m] w fun e w' => e = .returned (.string (mtxt m)) ∧ Ext w w' := by
  obtain ⟨M, rfl⟩ : ∃ M : Nat, m = (M : Int) := ⟨m.toNat, by omega⟩
  have HT := Lib.hid (mtxt_eq (M : Int))
  go_enter Try.func53, Try.ntmps53
  go_wp2
  go_loopw [0, 3] (fun q s wr => ∃ (k : Nat) (S : ByteArray), k ≤ M ∧ q = .int .i64 k ∧ s = .string S ∧ digs k S = digs M ⟨#[]⟩ ∧ S.size + k ≤ M ∧ Ext w wr) (fun q _ _ => (intOf q).toNat)
  case atStart => exact ⟨M, _, by omega, rfl, rfl, rfl, by show 0 + M ≤ M; omega, Ext.refl _⟩
  case round =>
    obtain ⟨k, S, hk, rfl, rfl, hd, hz, hx⟩ := hrel
    have HX := Lib.hid hx
    have HD := Lib.hid hd
    clear hx hd
    by_cases hp : 0 < k
    · have hcv : ∀ (W : World) (v : Int), v = 48 + ((k % 10 : Nat) : Int) → (convert 126 9 (.slice (some ⟨W.heap.size, 0, none⟩) 1 1)).run Try.prog (W.alloc (.cells #[.int .u8 v] 5)) = .ok (.string (strOfNums [(48 + (k % 10 : Nat) : Int)])) (W.alloc (.cells #[.int .u8 v] 5)) := by
        rintro W v rfl
        exact convS (xs := [(48 + (k % 10 : Nat) : Int)]) (Own.of_blk8 (base := 0) (e := 5) (Blk.new W 5 _) (Nat.zero_le _) (by simp) (by intro y hy; simp at hy; subst hy; omega)).rd
      have HC := Lib.hid hcv
      have hs1 : (strOfNums [48 + (k : Int) % 10]).size = 1 := strOfNums_size _
      have hcc : ((k % 10 : Nat) : Int) = (k : Int) % 10 := by omega
      have he : digs (k / 10) (strOfNums [48 + (k : Int) % 10] ++ S) = digs M ⟨#[]⟩ := by
        rw [← HD.out, digs_pos hp, hcc]
      have hz2 : (strOfNums [48 + (k : Int) % 10] ++ S).size + k / 10 ≤ M := by
        rw [ByteArray.size_append, hs1]; omega
      have HE := Lib.hid he
      have HZ := Lib.hid hz2
      clear he hz2
      go_wp2
      go_roundw
      case rel => exact ⟨k / 10, _, by omega, by go_num, rfl, HE.out, HZ.out, HX.out.alloc _⟩
      case measure => simp [intOf]; omega
    · obtain rfl : k = 0 := by omega
      go_wp2
      go_ret
      exact ⟨by rw [HT.out]; simp; rw [← HD.out, digs_zero], HX.out⟩
end Go.Proofs.Ytikpakhccmdmcaa
/- Commits: copied, counted, held against each other. No condition. -/
namespace Go.Proofs.Ytikpakhccmdmcaa
open Go.RowKit
set_option linter.unusedVariables false
set_option linter.unusedSimpArgs false

structure Cm where
  root : List Int
  par : List (List Int)
  num : Int
  note : ByteArray
def Cm.cells (x : Cm) (v : Value) : Array Value := (nums .u8 x.root ++ [v, .int .i64 x.num, .string x.note]).toArray
/-- the cells of a commit -/
def RCommit (w : World) (S : Nat → Prop) (cs : Array Value) (x : Cm) : Prop :=
  ∃ v, cs = x.cells v ∧ RdL tKey w S v x.par ∧ K32 x.root ∧ (Lit.int .i64 x.num).wf = true ∧ x.note.size ≤ 140737488351232
section
variable {w w' : World} {S : Nat → Prop} {cs : Array Value} {x : Cm}
theorem RCommit.ext (h : RCommit w S cs x) (e : Ext w w') : RCommit w' S cs x := by
  obtain ⟨v, h1, h2, h3⟩ := h
  exact ⟨v, h1, h2.ext (by decide) e, h3⟩
theorem Cm.st (hr : K32 x.root) (A : Option Addr) (n c : Nat) : St 35 (x.cells (.slice A n c)) := by
  refine ⟨by simp [Cm.cells, nums_length, hr.1], fun u hu => ?_⟩
  rw [Cm.cells, List.toList_toArray] at hu
  rcases List.mem_append.1 hu with hu | hu
  · exact one_nums _ _ u hu
  · simp at hu; rcases hu with rfl | rfl | rfl <;> rfl
theorem RCommit.st (h : RCommit w S cs x) : St 35 cs := by
  obtain ⟨v, rfl, ⟨A, cap, rfl, _⟩, h3, _⟩ := h
  exact Cm.st h3 _ _ _
theorem Cm.at_ (hr : K32 x.root) (v : Value) : (x.cells v)[32]? = some v ∧ (x.cells v)[33]? = some (.int .i64 x.num) ∧ (x.cells v)[34]? = some (.string x.note) := by
  have := hr.1
  refine ⟨?_, ?_, ?_⟩ <;> rw [Cm.cells, List.getElem?_toArray, List.getElem?_append_right (by rw [nums_length]; omega), nums_length, this] <;> rfl
theorem Cm.root_at (v : Value) (j : Nat) (u : Value) (hu : (numsA .u8 x.root)[j]? = some u) : (x.cells v)[0 + j]? = some u := by
  have hj : j < x.root.length := by have := (Array.getElem?_eq_some_iff.1 hu).1; simpa [numsA, nums] using this
  rw [Nat.zero_add, Cm.cells, List.getElem?_toArray, List.getElem?_append_left (by rw [nums_length]; exact hj)]
  simpa [numsA] using hu
end
theorem Own.setRow_below {α : Type} {T : Ty α} {e : TypeId} {w : World} {base g : Nat} {v : Value} {xs : List α} (h : Own T e w base v xs) (hg : g < base) (row : Array Value) : Own T e (w.setRow g row) base v xs :=
  h.kept (row := some g) ⟨rfl, rfl, rfl, by simp, fun k _ hk => setRow_other _ _ _ _ (fun e => hk (by rw [e]))⟩ (.inr fun e => by have := (h.base_le _ e).1; omega)
end Go.Proofs.Ytikpakhccmdmcaa
/- Marks laid on lists of entries, and read. No condition. -/
namespace Go.Proofs.Ytikpakhccmdmcaa
open Go.RowKit
set_option linter.unusedVariables false
set_option linter.unusedSimpArgs false

/-- the entries of v hold the marks m, m + 1, .. -/
def MarkedE (w : World) (S : Nat → Prop) (v : Value) (n : Nat) (m : Int) : Prop :=
  ∃ A cap, v = .slice A n cap ∧ n ≤ 140737488355328 ∧ (0 < n → ∃ g o, A = some ⟨g, o, none⟩ ∧ S g ∧ ∀ j : Nat, j < n * 2 → w.cell? ⟨g, o + j, none⟩ = some (.string (mtxt (m + j))))
theorem MarkedE.ext {w w' : World} {S : Nat → Prop} {v : Value} {n : Nat} {m : Int} (h : MarkedE w S v n m) (e : Ext w w') : MarkedE w' S v n m := by
  obtain ⟨A, cap, h1, h2, h3⟩ := h
  refine ⟨A, cap, h1, h2, fun hn => ?_⟩
  obtain ⟨g, o, h4, h5, h6⟩ := h3 hn
  exact ⟨g, o, h4, h5, fun j hj => e.cell (h6 j hj)⟩
set_option maxHeartbeats 1000000 in
set_option maxRecDepth 100000 in
theorem markEntryS_any (v : Value) (n : Nat) (m : Int) (w : World) (lo : Nat) (h : Wr w lo 2 v n) (hm : 0 < m) (hmn : m + n * 2 ≤ 1000000000000000) :
    Calls Try.prog 18 #[v, .int .i64 m] w fun e w' => e = .returned (.int .i64 (m + n * 2)) ∧ MarkedE w' (fun g => lo ≤ g ∧ some g = v.ownBlock) v n m ∧ w.grownBy w' v.ownBlock := by
  obtain ⟨A, cap, rfl, hcap, hlen, hw⟩ := h
  have HW := Lib.hid hw
  clear hw
  by_cases h0 : n = 0
  · subst h0
    go_enter Try.func18, Try.ntmps18
    go_wp2
    go_loopw [1, 5] (fun q i wr => q = .int .i64 m ∧ i = .int .i64 0 ∧ wr = w) (fun _ _ _ => 0)
    case atStart => exact ⟨rfl, rfl, rfl⟩
    case round =>
      obtain ⟨rfl, rfl, rfl⟩ := hrel
      go_wp2
      go_ret
      exact ⟨ret_int (by simp), ⟨A, cap, rfl, by omega, fun h => by omega⟩, grown_refl _ _⟩
  · obtain ⟨g, o, cur, t, rfl, hlo, hB, hsz⟩ := HW.out (by omega)
    have HB := Lib.hid hB
    clear hB
    go_enter Try.func18, Try.ntmps18
    go_wp2
    go_loopw [1, 5] (fun q i wr => ∃ k : Nat, k ≤ n ∧ q = .int .i64 (m + (k : Int) * 2) ∧ i = .int .i64 k ∧ (∃ cur', Blk wr g t cur' ∧ cur'.size = cur.size ∧ ∀ j : Nat, j < k * 2 → cur'[o + j]? = some (.string (mtxt (m + j)))) ∧ w.grownBy wr (some g))
      (fun _ i _ => n - (intOf i).toNat)
    case atStart => exact ⟨0, by omega, by simp, rfl, ⟨cur, HB.out, rfl, fun j hj => by omega⟩, grown_refl _ _⟩
    case round =>
      obtain ⟨k, hk, rfl, rfl, ⟨cur', hB', hs', hc'⟩, hg⟩ := hrel
      have HG := Lib.hid hg
      have HC := Lib.hid hc'
      have HS := Lib.hid hs'
      have HB' := Lib.hid hB'
      clear hg hc' hs' hB'
      by_cases hlt : k < n
      · have hmt0 := markText_any (m + (k : Int) * 2) (by omega) (by omega)
        have hmt1 := markText_any (m + (k : Int) * 2 + 1) (by omega) (by omega)
        have hi : (0 : Int) ≤ (k : Int) := by omega
        have hi2 : (k : Int) < (n : Int) := by omega
        go_wp2_with fail
        refine (hmt0 _).mono ?_
        rintro e w1 ⟨rfl, hx⟩
        have HB1 := Lib.hid (HB'.out.ext hx)
        have HG1 := Lib.hid (grown_ext HG.out hx)
        clear hx HB' HG
        have hin : o + k * 2 < cur'.size := by rw [HS.out]; omega
        have hcell : w1.cell? ⟨g, o + k * 2, none⟩ = some cur'[o + k * 2] := HB1.out.at_ _ (Array.getElem?_eq_getElem hin)
        have hfr := HB1.out.free (o + k * 2)
        go_wp2_with fail
        refine (hmt1 _).mono ?_
        rintro e w2 ⟨rfl, hx⟩
        have HB2 := Lib.hid ((HB1.out.set (o + k * 2) (.string (mtxt (m + (k : Int) * 2)))).ext hx)
        have HG2 := Lib.hid (grown_ext (grown_set HG1.out (i := o + k * 2) (.string (mtxt (m + (k : Int) * 2)))) hx)
        clear hx HB1 HG1 hcell hfr
        obtain ⟨c2, hc2⟩ : ∃ c2, cur'.setIfInBounds (o + k * 2) (.string (mtxt (m + (k : Int) * 2))) = c2 := ⟨_, rfl⟩
        rw [hc2] at HB2
        have HC2 := Lib.hid hc2
        have hs2 : c2.size = cur.size := by rw [← hc2, Array.size_setIfInBounds, HS.out]
        clear hc2
        have hin2 : o + k * 2 + 1 < c2.size := by rw [hs2]; omega
        have hcell : w2.cell? ⟨g, o + k * 2 + 1, none⟩ = some c2[o + k * 2 + 1] := HB2.out.at_ _ (Array.getElem?_eq_getElem hin2)
        have hfr := HB2.out.free (o + k * 2 + 1)
        go_wp2
        go_roundw
        case rel => exact ⟨k + 1, by omega, by go_num, by go_num, ⟨_, HB2.out.set (o + k * 2 + 1) _, by rw [Array.size_setIfInBounds, hs2], fun p hp => by
          by_cases hp1 : p = k * 2 + 1
          · subst hp1
            rw [← Nat.add_assoc, Array.getElem?_setIfInBounds_self_of_lt hin2]
            congr 3
            push_cast
            omega
          · rw [Array.getElem?_setIfInBounds_ne (by omega), ← HC2.out]
            by_cases hp0 : p = k * 2
            · subst hp0
              rw [Array.getElem?_setIfInBounds_self_of_lt hin]
              congr 3
            · rw [Array.getElem?_setIfInBounds_ne (by omega)]
              exact HC.out p (by omega)⟩, grown_set HG2.out _⟩
        case measure => simp [intOf]; omega
      · obtain rfl : k = n := by omega
        go_wp2
        go_ret
        refine ⟨rfl, ⟨_, cap, rfl, hlen, fun _ => ⟨g, o, rfl, ⟨hlo, rfl⟩, fun j hj => by rw [HB'.out.cell, HC.out j hj]⟩⟩, HG.out⟩
set_option maxHeartbeats 1000000 in
set_option maxRecDepth 100000 in
theorem heldEntryS_any (v : Value) (n : Nat) (m : Int) (w : World) (S : Nat → Prop) (h : MarkedE w S v n m) (hm : 0 < m) (hmn : m + n * 2 ≤ 1000000000000000) :
    Calls Try.prog 30 #[v, .int .i64 m] w fun e w' => e = .returned (.int .i64 (m + n * 2)) ∧ Ext w w' := by
  obtain ⟨A, cap, rfl, hlen, hw⟩ := h
  have HW := Lib.hid hw
  clear hw
  go_enter Try.func30, Try.ntmps30
  go_wp2
  go_loopw [1, 5] (fun q i wr => ∃ k : Nat, k ≤ n ∧ q = .int .i64 (m + (k : Int) * 2) ∧ i = .int .i64 k ∧ Ext w wr) (fun _ i _ => n - (intOf i).toNat)
  case atStart => exact ⟨0, by omega, by simp, rfl, Ext.refl _⟩
  case round =>
    obtain ⟨k, hk, rfl, rfl, hx⟩ := hrel
    have HX := Lib.hid hx
    clear hx
    by_cases hlt : k < n
    · obtain ⟨g, o, rfl, hs, hc⟩ := HW.out (by omega)
      have HC := Lib.hid hc
      clear hc
      have hmt0 := markText_any (m + (k : Int) * 2) (by omega) (by omega)
      have hmt1 := markText_any (m + (k : Int) * 2 + 1) (by omega) (by omega)
      have hi : (0 : Int) ≤ (k : Int) := by omega
      have hi2 : (k : Int) < (n : Int) := by omega
      have d0 : ∀ W, Ext wr W → W.cell? ⟨g, o + k * 2, none⟩ = some (.string (mtxt (m + (k : Int) * 2))) := fun W hW => by
        have := (HX.out.trans hW).cell (HC.out (k * 2) (by omega))
        rw [this]
        congr 3
      have hne : ((mtxt (m + (k : Int) * 2)).toList != (mtxt (m + (k : Int) * 2)).toList) = false := by simp
      have hne1 : ((mtxt (m + (k : Int) * 2 + 1)).toList != (mtxt (m + (k : Int) * 2 + 1)).toList) = false := by simp
      go_wp2_with fail
      refine wp_region_held_drew (S := fun W => Ext wr W) (by kernel_rfl) (Ext.refl _).drew (fun hHeld => ?_)
      refine wpAnyH_take (i := 0) (oi := ?oiz1) (v := ?vz1) ?hiz1 (by kernel_rfl) (by kernel_rfl) (by kernel_rfl) ?hQz1 ?hyz1 (by assumption) ?restz1
      case hiz1 => simp only [List.getElem?_toArray, List.getElem?_cons_zero, List.getElem?_cons_succ]; rfl
      case hQz1 => exact fun _ _ _ h => h
      case hyz1 => exact Or.inl ⟨by rfl, by intro w hSw; (try dsimp only at hSw); go_simp; with_reducible rfl⟩
      try simp only [Act.put, List.setIfInBounds_toArray, List.set_cons_zero, List.set_cons_succ]
      refine wpAnyH_take (i := 1) (oi := ?oiz2) (v := ?vz2) ?hiz2 (by kernel_rfl) (by kernel_rfl) (by kernel_rfl) ?hQz2 ?hyz2 (by assumption) ?restz2
      case hiz2 => simp only [List.getElem?_toArray, List.getElem?_cons_zero, List.getElem?_cons_succ]; rfl
      case hQz2 => exact fun _ _ _ h => h
      case hyz2 => exact Or.inl ⟨by rfl, by intro w hSw; (try dsimp only at hSw); go_simp; with_reducible rfl⟩
      try simp only [Act.put, List.setIfInBounds_toArray, List.set_cons_zero, List.set_cons_succ]
      refine wpAnyH_take (i := 2) (oi := ?oiz3) (v := ?vz3) ?hiz3 (by kernel_rfl) (by kernel_rfl) (by kernel_rfl) ?hQz3 ?hyz3 (by assumption) ?restz3
      case hiz3 => simp only [List.getElem?_toArray, List.getElem?_cons_zero, List.getElem?_cons_succ]; rfl
      case hQz3 => exact fun _ _ _ h => h
      case hyz3 => exact Or.inl ⟨by rfl, by intro w hSw; (try dsimp only at hSw); go_simp; with_reducible rfl⟩
      try simp only [Act.put, List.setIfInBounds_toArray, List.set_cons_zero, List.set_cons_succ]
      refine wpAnyH_take (i := 3) (oi := ?oiz4) (v := ?vz4) ?hiz4 (by kernel_rfl) (by kernel_rfl) (by kernel_rfl) ?hQz4 ?hyz4 (by assumption) ?restz4
      case hiz4 => simp only [List.getElem?_toArray, List.getElem?_cons_zero, List.getElem?_cons_succ]; rfl
      case hQz4 => exact fun _ _ _ h => h
      case hyz4 => exact Or.inl ⟨by rfl, by intro w hSw; (try dsimp only at hSw); go_simp; with_reducible rfl⟩
      try simp only [Act.put, List.setIfInBounds_toArray, List.set_cons_zero, List.set_cons_succ]
      refine wpAnyH_take (i := 4) (oi := ?oiz5) (v := ?vz5) ?hiz5 (by kernel_rfl) (by kernel_rfl) (by kernel_rfl) ?hQz5 ?hyz5 (by assumption) ?restz5
      case hiz5 => simp only [List.getElem?_toArray, List.getElem?_cons_zero, List.getElem?_cons_succ]; rfl
      case hQz5 => exact fun _ _ _ h => h
      case hyz5 => exact Or.inl ⟨by rfl, by intro w hSw; (try dsimp only at hSw); go_simp; with_reducible rfl⟩
      try simp only [Act.put, List.setIfInBounds_toArray, List.set_cons_zero, List.set_cons_succ]
      refine wpAnyH_take (i := 5) (oi := ?oiz6) (v := ?vz6) ?hiz6 (by kernel_rfl) (by kernel_rfl) (by kernel_rfl) ?hQz6 ?hyz6 (by assumption) ?restz6
      case hiz6 => simp only [List.getElem?_toArray, List.getElem?_cons_zero, List.getElem?_cons_succ]; rfl
      case hQz6 => exact fun _ _ _ h => h
      case hyz6 => exact Or.inl ⟨by rfl, by intro w hSw; (try dsimp only at hSw); go_simp; with_reducible rfl⟩
      try simp only [Act.put, List.setIfInBounds_toArray, List.set_cons_zero, List.set_cons_succ]
      refine wpAnyH_ready (rs := [6]) (by kernel_rfl) (by simp) (AllReadyH.cons (o := ?oy76) ?hy76 (fun K hK => ?sy76) AllReadyH.nil)
      case hy76 => simp only [List.getElem?_toArray, List.getElem?_cons_zero, List.getElem?_cons_succ]; rfl
      go_simp
      refine (hmt0 _).mono ?_
      rintro e w9 ⟨rfl, hx⟩
      have hH2 := hHeld.trans hx
      refine hK.out _ _ hH2 (fun _ => ?_)
      clear hHeld hK K
      have hHeld := hH2
      clear hH2
      try simp only [Act.put, List.setIfInBounds_toArray, List.set_cons_zero, List.set_cons_succ]
      refine wpAnyH_take (i := 7) (oi := ?oiz8) (v := ?vz8) ?hiz8 (by kernel_rfl) (by kernel_rfl) (by kernel_rfl) ?hQz8 ?hyz8 (by assumption) ?restz8
      case hiz8 => simp only [List.getElem?_toArray, List.getElem?_cons_zero, List.getElem?_cons_succ]; rfl
      case hQz8 => exact fun _ _ _ h => h
      case hyz8 => exact Or.inl ⟨by rfl, by intro w hSw; (try dsimp only at hSw); go_simp; with_reducible rfl⟩
      try simp only [Act.put, List.setIfInBounds_toArray, List.set_cons_zero, List.set_cons_succ]
      refine wpAnyH_done (by kernel_rfl) ?_ _
      have HX2 := Lib.hid (HX.out.trans hHeld)
      clear hHeld d0
      go_wp2_with fail
      generalize w9 = w2 at *
      have d1 : ∀ W, Ext w2 W → W.cell? ⟨g, o + k * 2 + 1, none⟩ = some (.string (mtxt (m + (k : Int) * 2 + 1))) := fun W hW => by
        have := (HX2.out.trans hW).cell (HC.out (k * 2 + 1) (by omega))
        rw [Nat.add_assoc, this]
        congr 3
        push_cast
        omega
      refine wp_region_held_drew (S := fun W => Ext w2 W) (by kernel_rfl) (Ext.refl _).drew (fun hHeld => ?_)
      refine wpAnyH_take (i := 0) (oi := ?oiz9) (v := ?vz9) ?hiz9 (by kernel_rfl) (by kernel_rfl) (by kernel_rfl) ?hQz9 ?hyz9 (by assumption) ?restz9
      case hiz9 => simp only [List.getElem?_toArray, List.getElem?_cons_zero, List.getElem?_cons_succ]; rfl
      case hQz9 => exact fun _ _ _ h => h
      case hyz9 => exact Or.inl ⟨by rfl, by intro w hSw; (try dsimp only at hSw); go_simp; with_reducible rfl⟩
      try simp only [Act.put, List.setIfInBounds_toArray, List.set_cons_zero, List.set_cons_succ]
      refine wpAnyH_take (i := 1) (oi := ?oiz10) (v := ?vz10) ?hiz10 (by kernel_rfl) (by kernel_rfl) (by kernel_rfl) ?hQz10 ?hyz10 (by assumption) ?restz10
      case hiz10 => simp only [List.getElem?_toArray, List.getElem?_cons_zero, List.getElem?_cons_succ]; rfl
      case hQz10 => exact fun _ _ _ h => h
      case hyz10 => exact Or.inl ⟨by rfl, by intro w hSw; (try dsimp only at hSw); go_simp; with_reducible rfl⟩
      try simp only [Act.put, List.setIfInBounds_toArray, List.set_cons_zero, List.set_cons_succ]
      refine wpAnyH_take (i := 2) (oi := ?oiz11) (v := ?vz11) ?hiz11 (by kernel_rfl) (by kernel_rfl) (by kernel_rfl) ?hQz11 ?hyz11 (by assumption) ?restz11
      case hiz11 => simp only [List.getElem?_toArray, List.getElem?_cons_zero, List.getElem?_cons_succ]; rfl
      case hQz11 => exact fun _ _ _ h => h
      case hyz11 => exact Or.inl ⟨by rfl, by intro w hSw; (try dsimp only at hSw); go_simp; with_reducible rfl⟩
      try simp only [Act.put, List.setIfInBounds_toArray, List.set_cons_zero, List.set_cons_succ]
      refine wpAnyH_take (i := 3) (oi := ?oiz12) (v := ?vz12) ?hiz12 (by kernel_rfl) (by kernel_rfl) (by kernel_rfl) ?hQz12 ?hyz12 (by assumption) ?restz12
      case hiz12 => simp only [List.getElem?_toArray, List.getElem?_cons_zero, List.getElem?_cons_succ]; rfl
      case hQz12 => exact fun _ _ _ h => h
      case hyz12 => exact Or.inl ⟨by rfl, by intro w hSw; (try dsimp only at hSw); go_simp; with_reducible rfl⟩
      try simp only [Act.put, List.setIfInBounds_toArray, List.set_cons_zero, List.set_cons_succ]
      refine wpAnyH_take (i := 4) (oi := ?oiz13) (v := ?vz13) ?hiz13 (by kernel_rfl) (by kernel_rfl) (by kernel_rfl) ?hQz13 ?hyz13 (by assumption) ?restz13
      case hiz13 => simp only [List.getElem?_toArray, List.getElem?_cons_zero, List.getElem?_cons_succ]; rfl
      case hQz13 => exact fun _ _ _ h => h
      case hyz13 => exact Or.inl ⟨by rfl, by intro w hSw; (try dsimp only at hSw); go_simp; with_reducible rfl⟩
      try simp only [Act.put, List.setIfInBounds_toArray, List.set_cons_zero, List.set_cons_succ]
      refine wpAnyH_take (i := 5) (oi := ?oiz14) (v := ?vz14) ?hiz14 (by kernel_rfl) (by kernel_rfl) (by kernel_rfl) ?hQz14 ?hyz14 (by assumption) ?restz14
      case hiz14 => simp only [List.getElem?_toArray, List.getElem?_cons_zero, List.getElem?_cons_succ]; rfl
      case hQz14 => exact fun _ _ _ h => h
      case hyz14 => exact Or.inl ⟨by rfl, by intro w hSw; (try dsimp only at hSw); go_simp; with_reducible rfl⟩
      try simp only [Act.put, List.setIfInBounds_toArray, List.set_cons_zero, List.set_cons_succ]
      refine wpAnyH_ready (rs := [6]) (by kernel_rfl) (by simp) (AllReadyH.cons (o := ?oy156) ?hy156 (fun K hK => ?sy156) AllReadyH.nil)
      case hy156 => simp only [List.getElem?_toArray, List.getElem?_cons_zero, List.getElem?_cons_succ]; rfl
      go_simp
      refine (hmt1 _).mono ?_
      rintro e w9 ⟨rfl, hx⟩
      have hH2 := hHeld.trans hx
      refine hK.out _ _ hH2 (fun _ => ?_)
      clear hHeld hK K
      have hHeld := hH2
      clear hH2
      try simp only [Act.put, List.setIfInBounds_toArray, List.set_cons_zero, List.set_cons_succ]
      refine wpAnyH_take (i := 7) (oi := ?oiz16) (v := ?vz16) ?hiz16 (by kernel_rfl) (by kernel_rfl) (by kernel_rfl) ?hQz16 ?hyz16 (by assumption) ?restz16
      case hiz16 => simp only [List.getElem?_toArray, List.getElem?_cons_zero, List.getElem?_cons_succ]; rfl
      case hQz16 => exact fun _ _ _ h => h
      case hyz16 => exact Or.inl ⟨by rfl, by intro w hSw; (try dsimp only at hSw); go_simp; with_reducible rfl⟩
      try simp only [Act.put, List.setIfInBounds_toArray, List.set_cons_zero, List.set_cons_succ]
      refine wpAnyH_done (by kernel_rfl) ?_ _
      have HX3 := Lib.hid (HX2.out.trans hHeld)
      clear hHeld
      go_wp2
      go_roundw
      case rel => exact ⟨k + 1, by omega, by go_num, by go_num, HX3.out⟩
      case measure => simp [intOf]; omega
    · go_wp2
      go_ret
      obtain rfl : k = n := by omega
      exact ⟨rfl, HX.out⟩
end Go.Proofs.Ytikpakhccmdmcaa
/- Marks laid on lists of changes. No condition. -/
namespace Go.Proofs.Ytikpakhccmdmcaa
open Go.RowKit
set_option linter.unusedVariables false
set_option linter.unusedSimpArgs false

set_option maxHeartbeats 2000000 in
set_option maxRecDepth 100000 in
theorem markChangeS_any (v : Value) (n : Nat) (m : Int) (w : World) (lo : Nat) (h : Wr w lo 5 v n) (hm : 0 < m) (hmn : m + n * 5 ≤ 1000000000000000) :
    Calls Try.prog 36 #[v, .int .i64 m] w fun e w' => e = .returned (.int .i64 (m + n * 5)) ∧ True ∧ w.grownBy w' v.ownBlock := by
  obtain ⟨A, cap, rfl, hcap, hlen, hw⟩ := h
  have HW := Lib.hid hw
  clear hw
  by_cases h0 : n = 0
  · subst h0
    go_enter Try.func36, Try.ntmps36
    go_wp2
    go_loopw [1, 5] (fun q i wr => q = .int .i64 m ∧ i = .int .i64 0 ∧ wr = w) (fun _ _ _ => 0)
    case atStart => exact ⟨rfl, rfl, rfl⟩
    case round =>
      obtain ⟨rfl, rfl, rfl⟩ := hrel
      go_wp2
      go_ret
      exact ⟨ret_int (by simp), trivial, grown_refl _ _⟩
  · obtain ⟨g, o, cur, t, rfl, hlo, hB, hsz⟩ := HW.out (by omega)
    have HB := Lib.hid hB
    clear hB
    go_enter Try.func36, Try.ntmps36
    go_wp2
    go_loopw [1, 5] (fun q i wr => ∃ k : Nat, k ≤ n ∧ q = .int .i64 (m + (k : Int) * 5) ∧ i = .int .i64 k ∧ (∃ cur', Blk wr g t cur' ∧ cur'.size = cur.size) ∧ w.grownBy wr (some g))
      (fun _ i _ => n - (intOf i).toNat)
    case atStart => exact ⟨0, by omega, by simp, rfl, ⟨cur, HB.out, rfl⟩, grown_refl _ _⟩
    case round =>
      obtain ⟨k, hk, rfl, rfl, ⟨cur', hB', hs'⟩, hg⟩ := hrel
      have HG := Lib.hid hg
      have HS := Lib.hid hs'
      have HB' := Lib.hid hB'
      clear hg hs' hB'
      by_cases hlt : k < n
      · have hmt0 := markText_any (m + (k : Int) * 5) (by omega) (by omega)
        have hmt2 := markText_any (m + (k : Int) * 5 + 1 + 1) (by omega) (by omega)
        have hmt4 := markText_any (m + (k : Int) * 5 + 1 + 1 + 1 + 1) (by omega) (by omega)
        have hi : (0 : Int) ≤ (k : Int) := by omega
        have hi2 : (k : Int) < (n : Int) := by omega
        go_wp2_with fail
        refine (hmt0 _).mono ?_
        rintro e w1 ⟨rfl, hx⟩
        obtain ⟨c1, hs1, hb1⟩ : ∃ c1 : Array Value, c1.size = cur.size ∧ Blk w1 g t c1 := ⟨_, HS.out, HB'.out.ext hx⟩
        have HB1 := Lib.hid hb1
        have HG1 := Lib.hid (grown_ext HG.out hx)
        clear hx HB' HG hb1
        have z0 : o + k * 5 < c1.size := by rw [hs1]; omega
        have z1 : o + k * 5 + 1 < c1.size := by rw [hs1]; omega
        have q0 : w1.cell? ⟨g, o + k * 5, none⟩ = some c1[o + k * 5] := HB1.out.at_ _ (Array.getElem?_eq_getElem z0)
        have f0 := HB1.out.free (o + k * 5)
        have q1 : ∀ u, ∃ x, (w1.setCell ⟨g, o + k * 5, none⟩ u).cell? ⟨g, o + k * 5 + 1, none⟩ = some x := fun u => ⟨_, (HB1.out.set (o + k * 5) u).at_ _ (Array.getElem?_eq_getElem (by rw [Array.size_setIfInBounds]; exact z1))⟩
        obtain ⟨x1, q1⟩ := q1 (.string (mtxt (m + (k : Int) * 5)))
        have f1 := (HB1.out.set (o + k * 5) (.string (mtxt (m + (k : Int) * 5)))).free (o + k * 5 + 1)
        go_wp2_with fail
        refine (hmt2 _).mono ?_
        rintro e w2 ⟨rfl, hx⟩
        obtain ⟨c2, hs2, hb2⟩ : ∃ c2 : Array Value, c2.size = cur.size ∧ Blk w2 g t c2 := ⟨_, by rw [Array.size_setIfInBounds, Array.size_setIfInBounds, hs1], ((HB1.out.set (o + k * 5) _).set (o + k * 5 + 1) _).ext hx⟩
        have HG2 := Lib.hid (grown_ext (grown_set (grown_set HG1.out _) _) hx)
        have HB2 := Lib.hid hb2
        clear hx HB1 HG1 q0 f0 q1 f1 z0 z1 hb2
        have z0 : o + k * 5 + 2 < c2.size := by rw [hs2]; omega
        have z1 : o + k * 5 + 3 < c2.size := by rw [hs2]; omega
        have q0 : w2.cell? ⟨g, o + k * 5 + 2, none⟩ = some c2[o + k * 5 + 2] := HB2.out.at_ _ (Array.getElem?_eq_getElem z0)
        have f0 := HB2.out.free (o + k * 5 + 2)
        have q1 : ∀ u, ∃ x, (w2.setCell ⟨g, o + k * 5 + 2, none⟩ u).cell? ⟨g, o + k * 5 + 3, none⟩ = some x := fun u => ⟨_, (HB2.out.set (o + k * 5 + 2) u).at_ _ (Array.getElem?_eq_getElem (by rw [Array.size_setIfInBounds]; exact z1))⟩
        obtain ⟨x1, q1⟩ := q1 (.string (mtxt (m + (k : Int) * 5 + 1 + 1)))
        have f1 := (HB2.out.set (o + k * 5 + 2) (.string (mtxt (m + (k : Int) * 5 + 1 + 1)))).free (o + k * 5 + 3)
        go_wp2_with fail
        refine (hmt4 _).mono ?_
        rintro e w3 ⟨rfl, hx⟩
        obtain ⟨c3, hs3, hb3⟩ : ∃ c3 : Array Value, c3.size = cur.size ∧ Blk w3 g t c3 := ⟨_, by rw [Array.size_setIfInBounds, Array.size_setIfInBounds, hs2], ((HB2.out.set (o + k * 5 + 2) _).set (o + k * 5 + 3) _).ext hx⟩
        have HG3 := Lib.hid (grown_ext (grown_set (grown_set HG2.out _) _) hx)
        have HB3 := Lib.hid hb3
        clear hx HB2 HG2 q0 f0 q1 f1 z0 z1 hb3
        have z0 : o + k * 5 + 4 < c3.size := by rw [hs3]; omega
        have q0 : w3.cell? ⟨g, o + k * 5 + 4, none⟩ = some c3[o + k * 5 + 4] := HB3.out.at_ _ (Array.getElem?_eq_getElem z0)
        have f0 := HB3.out.free (o + k * 5 + 4)
        go_wp2
        go_roundw
        case rel => exact ⟨k + 1, by omega, by go_num, by go_num, ⟨_, HB3.out.set (o + k * 5 + 4) _, by rw [Array.size_setIfInBounds, hs3]⟩, grown_set HG3.out _⟩
        case measure => simp [intOf]; omega
      · obtain rfl : k = n := by omega
        go_wp2
        go_ret
        exact ⟨rfl, trivial, HG.out⟩
end Go.Proofs.Ytikpakhccmdmcaa
/- Marks laid on lists of keys, and read. No condition. -/
namespace Go.Proofs.Ytikpakhccmdmcaa
open Go.RowKit
set_option linter.unusedVariables false
set_option linter.unusedSimpArgs false

/-- the keys of v hold the marks m, m + 1, .. -/
def MarkedK (w : World) (S : Nat → Prop) (v : Value) (n : Nat) (m : Int) : Prop :=
  ∃ A cap, v = .slice A n cap ∧ n ≤ 140737488355328 ∧ (0 < n → ∃ g o, A = some ⟨g, o, none⟩ ∧ S g ∧ ∀ j, j < n * 32 → w.cell? ⟨g, o + j, none⟩ = some (.int .u8 ((m + j) % 256)))
theorem MarkedK.ext {w w' : World} {S : Nat → Prop} {v : Value} {n : Nat} {m : Int} (h : MarkedK w S v n m) (e : Ext w w') : MarkedK w' S v n m := by
  obtain ⟨A, cap, h1, h2, h3⟩ := h
  refine ⟨A, cap, h1, h2, fun hn => ?_⟩
  obtain ⟨g, o, h4, h5, h6⟩ := h3 hn
  exact ⟨g, o, h4, h5, fun j hj => e.cell (h6 j hj)⟩
theorem Own.far_of_lt {α : Type} {T : Ty α} {e : TypeId} {w : World} {base g : Nat} {v : Value} {xs : List α} (h : Own T e w base v xs) (hg : g < base) : some g ≠ v.ownBlock := fun e => by have := (h.base_le _ e.symm).1; omega
theorem Own.far_of_ge {α : Type} {T : Ty α} {e : TypeId} {w : World} {base g : Nat} {v : Value} {xs : List α} (h : Own T e w base v xs) (hg : w.heap.size ≤ g) : some g ≠ v.ownBlock := fun e => by have := (h.base_le _ e.symm).2; omega
end Go.Proofs.Ytikpakhccmdmcaa
