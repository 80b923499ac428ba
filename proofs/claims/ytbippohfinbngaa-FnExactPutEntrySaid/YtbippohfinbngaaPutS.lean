/- An entry put into a map: the reference. No condition. -/
import Derived.Test.YtbippohfinbngaaPutL
import Derived.Test.YtbippohfinbngaaRangeS
namespace Go.Proofs.Ytbippohfinbngaa
open Go.RowKit
set_option linter.unusedVariables false
set_option linter.unusedSimpArgs false

theorem put_next (e : En) (L : List En) (k : Nat) (h : k < L.length) : (L.take (k + 1)).foldl (putStep e) ([], false) = putStep e ((L.take k).foldl (putStep e) ([], false)) L[k] := by
  rw [List.take_succ_eq_append_getElem h, List.foldl_append]; rfl
set_option maxHeartbeats 1000000 in
set_option maxRecDepth 100000 in
theorem l04Put_any (v : Value) (L : List En) (e : En) (he : tEnt.ok e) (w : World) (S : Nat → Prop) (h : RdL tEnt w S v L) (h64 : L.length ≤ 64) :
    Calls Try.prog 83 #[v, .agg #[.string e.1, .string e.2]] w fun q w' => ∃ v', q = .returned v' ∧ Own tEnt 67 w' w.heap.size v' (putEnd e (putF e L)) ∧ Ext w w' := by
  obtain ⟨A, cap, rfl, hcap, hlen, hrd, hok⟩ := h
  have Hok := Lib.hid hok
  have Hrd := Lib.hid hrd
  have HE := Lib.hid he
  clear hrd hok he
  have hwx : ∃ wx, wx = w.alloc (.cells #[.string e.1, .string e.2] 67) ∧ wx.heap.size = w.heap.size + 1 := ⟨_, rfl, by simp⟩
  obtain ⟨wx, hwx, hsx⟩ := hwx
  have HWX := Lib.hid hwx
  have HB := Lib.hid (show ∀ W, Ext wx W → W.cell? ⟨w.heap.size, 0, none⟩ = some (.string e.1) ∧ W.cell? ⟨w.heap.size, 1, none⟩ = some (.string e.2) from fun W hW => by
    subst hwx
    exact ⟨hW.cell (by rw [(Blk.new w _ _).cell]; rfl), hW.cell (by rw [(Blk.new w _ _).cell]; rfl)⟩)
  have HXX := Lib.hid (show Ext w wx by subst hwx; exact ext_alloc _ _)
  go_enter Try.func83, Try.ntmps83
  go_wp2_with fail
  rw [← hwx]
  clear hwx
  go_loopw [5, 6, 7] (fun a f i wr => ∃ (k : Nat) (st : List En × Bool), k ≤ L.length ∧ i = .int .i64 k ∧ f = .bool st.2 ∧ (L.take k).foldl (putStep e) ([], false) = st ∧ Own tEnt 67 wr wx.heap.size a st.1 ∧ st.1.length ≤ 2 * k ∧ Ext wx wr) (fun _ _ i _ => L.length - (intOf i).toNat)
  case atStart => exact ⟨0, ([], false), by omega, rfl, rfl, by rw [List.take_zero]; rfl, by have := Own.empty tEnt wx 67 wx.heap.size (Nat.le_refl _); simpa only [hsx] using this, by simp, ext_alloc _ _⟩
  case round =>
    obtain ⟨k, ⟨R, fl⟩, hk, rfl, rfl, hst, ho, hRl, hx⟩ := hrel
    simp only at ho hRl
    obtain ⟨C, cn, cc, rfl⟩ := ho.shape3
    have HO := Lib.hid ho
    have HX := Lib.hid hx
    have HST := Lib.hid hst
    clear ho hx hst
    by_cases hlt : k < L.length
    · obtain ⟨g, o, rfl, hs0, hc⟩ := Hrd.out.elem Hok.out k hlt
      have HX0 := Lib.hid (show tEnt.ok L[k] from Hok.out _ (List.getElem_mem hlt))
      have HC := Lib.hid (show ∀ W, Ext wx W → W.cell? ⟨g, o + k * 2, none⟩ = some (.string L[k].1) ∧ W.cell? ⟨g, o + k * 2 + 1, none⟩ = some (.string L[k].2) from fun W hW => ⟨(HXX.out.trans hW).cell (hc 0 _ rfl), (HXX.out.trans hW).cell (hc 1 _ rfl)⟩)
      have HN := Lib.hid (put_next e L k hlt)
      have hk0 : (0 : Int) ≤ (k : Int) := by omega
      have hk2 : (k : Int) < (L.length : Int) := by omega
      clear hc
      cases fl with
      | true =>
        cases h1 : ltB L[k].1 e.1 with
        | true =>
          cases h2 : (L[k].1.toList == e.1.toList) with
          | true =>
            exact absurd (toList_inj (by simpa using h2)) (ltB_ne h1)
          | false =>
            have h1' : Op.bytesLess L[k].1.toList e.1.toList = true := by rw [ltB_eq]; exact h1
            have hnm : L[k].1 ≠ e.1 := fun q => by rw [q] at h2; simp at h2
            have HQ := Lib.hid (show putStep e (R, true) L[k] = (R ++ [L[k]], true) by simp [putStep, h1, hnm, ltB_irrefl])
            clear h1 hnm
            have d0 : ∀ W, Ext wr W → W.cell? ⟨g, o + k * 2, none⟩ = some (.string L[k].1) := fun W hW => (HC.out W (HX.out.trans hW)).1
            have b0 : ∀ W, Ext wr W → W.cell? ⟨w.heap.size, 0, none⟩ = some (.string e.1) := fun W hW => (HB.out W (HX.out.trans hW)).1
            go_wp2_with fail
            refine wp_region_held_drew (S := fun W => Ext wr W) (by kernel_rfl) (Ext.refl _).drew (fun hHeld => ?_)
            refine wpAnyH_take (i := 0) (oi := ?oiz1) (v := ?vz1) ?hiz1 (by kernel_rfl) (by kernel_rfl) (by kernel_rfl) ?hQz1 ?hyz1 (by assumption) ?restz1
            case hiz1 => simp only [List.getElem?_toArray, List.getElem?_cons_zero, List.getElem?_cons_succ]; rfl
            case hQz1 => exact fun _ _ _ h => h
            case hyz1 => exact Or.inl ⟨by rfl, by intro w hSw; (try dsimp only at hSw); go_simp; with_reducible rfl⟩
            try simp only [Act.put, List.setIfInBounds_toArray, List.set_cons_zero, List.set_cons_succ]
            refine wpAnyH_take (i := 1) (oi := ?oiz2) (v := ?vz2) ?hiz2 (by kernel_rfl) (by kernel_rfl) (by kernel_rfl) ?hQz2 ?hyz2 (by assumption) ?restz2
            case hiz2 => simp only [List.getElem?_toArray, List.getElem?_cons_zero, List.getElem?_cons_succ]; rfl
            case hQz2 => exact fun _ _ _ h => h
            case hyz2 => exact Or.inl ⟨by rfl, by intro w hSw; (try dsimp only at hSw); go_simp; with_reducible rfl⟩
            try simp only [Act.put, List.setIfInBounds_toArray, List.set_cons_zero, List.set_cons_succ]
            refine wpAnyH_take (i := 2) (oi := ?oiz3) (v := ?vz3) ?hiz3 (by kernel_rfl) (by kernel_rfl) (by kernel_rfl) ?hQz3 ?hyz3 (by assumption) ?restz3
            case hiz3 => simp only [List.getElem?_toArray, List.getElem?_cons_zero, List.getElem?_cons_succ]; rfl
            case hQz3 => exact fun _ _ _ h => h
            case hyz3 => exact Or.inl ⟨by rfl, by intro w hSw; (try dsimp only at hSw); go_simp; with_reducible rfl⟩
            try simp only [Act.put, List.setIfInBounds_toArray, List.set_cons_zero, List.set_cons_succ]
            refine wpAnyH_take (i := 3) (oi := ?oiz4) (v := undef) ?hiz4 (by kernel_rfl) (by kernel_rfl) (by kernel_rfl) ?hQz4 ?hyz4 (by assumption) ?restz4
            case hiz4 => simp only [List.getElem?_toArray, List.getElem?_cons_zero, List.getElem?_cons_succ]; rfl
            case hQz4 => exact fun _ _ _ h => h
            case hyz4 => exact Or.inr ⟨by rfl, rfl⟩
            try simp only [Act.put, List.setIfInBounds_toArray, List.set_cons_zero, List.set_cons_succ]
            refine wpAnyH_take (i := 4) (oi := ?oiz5) (v := undef) ?hiz5 (by kernel_rfl) (by kernel_rfl) (by kernel_rfl) ?hQz5 ?hyz5 (by assumption) ?restz5
            case hiz5 => simp only [List.getElem?_toArray, List.getElem?_cons_zero, List.getElem?_cons_succ]; rfl
            case hQz5 => exact fun _ _ _ h => h
            case hyz5 => exact Or.inr ⟨by rfl, rfl⟩
            try simp only [Act.put, List.setIfInBounds_toArray, List.set_cons_zero, List.set_cons_succ]
            refine wpAnyH_take (i := 5) (oi := ?oiz6) (v := undef) ?hiz6 (by kernel_rfl) (by kernel_rfl) (by kernel_rfl) ?hQz6 ?hyz6 (by assumption) ?restz6
            case hiz6 => simp only [List.getElem?_toArray, List.getElem?_cons_zero, List.getElem?_cons_succ]; rfl
            case hQz6 => exact fun _ _ _ h => h
            case hyz6 => exact Or.inr ⟨by rfl, rfl⟩
            try simp only [Act.put, List.setIfInBounds_toArray, List.set_cons_zero, List.set_cons_succ]
            refine wpAnyH_take (i := 6) (oi := ?oiz7) (v := undef) ?hiz7 (by kernel_rfl) (by kernel_rfl) (by kernel_rfl) ?hQz7 ?hyz7 (by assumption) ?restz7
            case hiz7 => simp only [List.getElem?_toArray, List.getElem?_cons_zero, List.getElem?_cons_succ]; rfl
            case hQz7 => exact fun _ _ _ h => h
            case hyz7 => exact Or.inr ⟨by rfl, rfl⟩
            try simp only [Act.put, List.setIfInBounds_toArray, List.set_cons_zero, List.set_cons_succ]
            refine wpAnyH_take (i := 7) (oi := ?oiz8) (v := undef) ?hiz8 (by kernel_rfl) (by kernel_rfl) (by kernel_rfl) ?hQz8 ?hyz8 (by assumption) ?restz8
            case hiz8 => simp only [List.getElem?_toArray, List.getElem?_cons_zero, List.getElem?_cons_succ]; rfl
            case hQz8 => exact fun _ _ _ h => h
            case hyz8 => exact Or.inr ⟨by rfl, rfl⟩
            try simp only [Act.put, List.setIfInBounds_toArray, List.set_cons_zero, List.set_cons_succ]
            refine wpAnyH_take (i := 8) (oi := ?oiz9) (v := undef) ?hiz9 (by kernel_rfl) (by kernel_rfl) (by kernel_rfl) ?hQz9 ?hyz9 (by assumption) ?restz9
            case hiz9 => simp only [List.getElem?_toArray, List.getElem?_cons_zero, List.getElem?_cons_succ]; rfl
            case hQz9 => exact fun _ _ _ h => h
            case hyz9 => exact Or.inr ⟨by rfl, rfl⟩
            try simp only [Act.put, List.setIfInBounds_toArray, List.set_cons_zero, List.set_cons_succ]
            refine wpAnyH_take (i := 9) (oi := ?oiz10) (v := undef) ?hiz10 (by kernel_rfl) (by kernel_rfl) (by kernel_rfl) ?hQz10 ?hyz10 (by assumption) ?restz10
            case hiz10 => simp only [List.getElem?_toArray, List.getElem?_cons_zero, List.getElem?_cons_succ]; rfl
            case hQz10 => exact fun _ _ _ h => h
            case hyz10 => exact Or.inr ⟨by rfl, rfl⟩
            try simp only [Act.put, List.setIfInBounds_toArray, List.set_cons_zero, List.set_cons_succ]
            refine wpAnyH_take (i := 10) (oi := ?oiz11) (v := undef) ?hiz11 (by kernel_rfl) (by kernel_rfl) (by kernel_rfl) ?hQz11 ?hyz11 (by assumption) ?restz11
            case hiz11 => simp only [List.getElem?_toArray, List.getElem?_cons_zero, List.getElem?_cons_succ]; rfl
            case hQz11 => exact fun _ _ _ h => h
            case hyz11 => exact Or.inr ⟨by rfl, rfl⟩
            try simp only [Act.put, List.setIfInBounds_toArray, List.set_cons_zero, List.set_cons_succ]
            refine wpAnyH_take (i := 11) (oi := ?oiz12) (v := ?vz12) ?hiz12 (by kernel_rfl) (by kernel_rfl) (by kernel_rfl) ?hQz12 ?hyz12 (by assumption) ?restz12
            case hiz12 => simp only [List.getElem?_toArray, List.getElem?_cons_zero, List.getElem?_cons_succ]; rfl
            case hQz12 => exact fun _ _ _ h => h
            case hyz12 => exact Or.inl ⟨by rfl, by intro w hSw; (try dsimp only at hSw); go_simp; with_reducible rfl⟩
            try simp only [Act.put, List.setIfInBounds_toArray, List.set_cons_zero, List.set_cons_succ]
            refine wpAnyH_done (by kernel_rfl) ?_ _
            clear d0 b0
            generalize wr.drew = w0 at *
            have HXa := Lib.hid (HX.out.trans hHeld)
            have HOa := Lib.hid (HO.out.ext hHeld)
            clear hHeld HX HO
            go_wp2_with fail
            have d0 : ∀ W, Ext w0 W → W.cell? ⟨g, o + k * 2, none⟩ = some (.string L[k].1) := fun W hW => (HC.out W (HXa.out.trans hW)).1
            have b0 : ∀ W, Ext w0 W → W.cell? ⟨w.heap.size, 0, none⟩ = some (.string e.1) := fun W hW => (HB.out W (HXa.out.trans hW)).1
            refine wp_region_held_drew (S := fun W => Ext w0 W) (by kernel_rfl) (Ext.refl _).drew (fun hHeld => ?_)
            refine wpAnyH_take (i := 0) (oi := ?oiz13) (v := ?vz13) ?hiz13 (by kernel_rfl) (by kernel_rfl) (by kernel_rfl) ?hQz13 ?hyz13 (by assumption) ?restz13
            case hiz13 => simp only [List.getElem?_toArray, List.getElem?_cons_zero, List.getElem?_cons_succ]; rfl
            case hQz13 => exact fun _ _ _ h => h
            case hyz13 => exact Or.inl ⟨by rfl, by intro w hSw; (try dsimp only at hSw); go_simp; with_reducible rfl⟩
            try simp only [Act.put, List.setIfInBounds_toArray, List.set_cons_zero, List.set_cons_succ]
            refine wpAnyH_take (i := 1) (oi := ?oiz14) (v := ?vz14) ?hiz14 (by kernel_rfl) (by kernel_rfl) (by kernel_rfl) ?hQz14 ?hyz14 (by assumption) ?restz14
            case hiz14 => simp only [List.getElem?_toArray, List.getElem?_cons_zero, List.getElem?_cons_succ]; rfl
            case hQz14 => exact fun _ _ _ h => h
            case hyz14 => exact Or.inl ⟨by rfl, by intro w hSw; (try dsimp only at hSw); go_simp; with_reducible rfl⟩
            try simp only [Act.put, List.setIfInBounds_toArray, List.set_cons_zero, List.set_cons_succ]
            refine wpAnyH_take (i := 2) (oi := ?oiz15) (v := ?vz15) ?hiz15 (by kernel_rfl) (by kernel_rfl) (by kernel_rfl) ?hQz15 ?hyz15 (by assumption) ?restz15
            case hiz15 => simp only [List.getElem?_toArray, List.getElem?_cons_zero, List.getElem?_cons_succ]; rfl
            case hQz15 => exact fun _ _ _ h => h
            case hyz15 => exact Or.inl ⟨by rfl, by intro w hSw; (try dsimp only at hSw); go_simp; with_reducible rfl⟩
            try simp only [Act.put, List.setIfInBounds_toArray, List.set_cons_zero, List.set_cons_succ]
            refine wpAnyH_take (i := 3) (oi := ?oiz16) (v := ?vz16) ?hiz16 (by kernel_rfl) (by kernel_rfl) (by kernel_rfl) ?hQz16 ?hyz16 (by assumption) ?restz16
            case hiz16 => simp only [List.getElem?_toArray, List.getElem?_cons_zero, List.getElem?_cons_succ]; rfl
            case hQz16 => exact fun _ _ _ h => h
            case hyz16 => exact Or.inl ⟨by rfl, by intro w hSw; (try dsimp only at hSw); go_simp; with_reducible rfl⟩
            try simp only [Act.put, List.setIfInBounds_toArray, List.set_cons_zero, List.set_cons_succ]
            refine wpAnyH_take (i := 4) (oi := ?oiz17) (v := ?vz17) ?hiz17 (by kernel_rfl) (by kernel_rfl) (by kernel_rfl) ?hQz17 ?hyz17 (by assumption) ?restz17
            case hiz17 => simp only [List.getElem?_toArray, List.getElem?_cons_zero, List.getElem?_cons_succ]; rfl
            case hQz17 => exact fun _ _ _ h => h
            case hyz17 => exact Or.inl ⟨by rfl, by intro w hSw; (try dsimp only at hSw); go_simp; with_reducible rfl⟩
            try simp only [Act.put, List.setIfInBounds_toArray, List.set_cons_zero, List.set_cons_succ]
            refine wpAnyH_take (i := 5) (oi := ?oiz18) (v := ?vz18) ?hiz18 (by kernel_rfl) (by kernel_rfl) (by kernel_rfl) ?hQz18 ?hyz18 (by assumption) ?restz18
            case hiz18 => simp only [List.getElem?_toArray, List.getElem?_cons_zero, List.getElem?_cons_succ]; rfl
            case hQz18 => exact fun _ _ _ h => h
            case hyz18 => exact Or.inl ⟨by rfl, by intro w hSw; (try dsimp only at hSw); go_simp; with_reducible rfl⟩
            try simp only [Act.put, List.setIfInBounds_toArray, List.set_cons_zero, List.set_cons_succ]
            refine wpAnyH_take (i := 6) (oi := ?oiz19) (v := ?vz19) ?hiz19 (by kernel_rfl) (by kernel_rfl) (by kernel_rfl) ?hQz19 ?hyz19 (by assumption) ?restz19
            case hiz19 => simp only [List.getElem?_toArray, List.getElem?_cons_zero, List.getElem?_cons_succ]; rfl
            case hQz19 => exact fun _ _ _ h => h
            case hyz19 => exact Or.inl ⟨by rfl, by intro w hSw; (try dsimp only at hSw); go_simp; with_reducible rfl⟩
            try simp only [Act.put, List.setIfInBounds_toArray, List.set_cons_zero, List.set_cons_succ]
            refine wpAnyH_take (i := 7) (oi := ?oiz20) (v := ?vz20) ?hiz20 (by kernel_rfl) (by kernel_rfl) (by kernel_rfl) ?hQz20 ?hyz20 (by assumption) ?restz20
            case hiz20 => simp only [List.getElem?_toArray, List.getElem?_cons_zero, List.getElem?_cons_succ]; rfl
            case hQz20 => exact fun _ _ _ h => h
            case hyz20 => exact Or.inl ⟨by rfl, by intro w hSw; (try dsimp only at hSw); go_simp; with_reducible rfl⟩
            try simp only [Act.put, List.setIfInBounds_toArray, List.set_cons_zero, List.set_cons_succ]
            refine wpAnyH_done (by kernel_rfl) ?_ _
            clear d0 b0
            generalize w0.drew = wb at *
            have HXb := Lib.hid (HXa.out.trans hHeld)
            have HOb := Lib.hid (HOa.out.ext hHeld)
            clear hHeld
            have d0 := (HC.out wb HXb.out).1
            have d1 := (HC.out wb HXb.out).2
            go_wp2_with (first | (refine wpl_load ⟨g, o + k * 2, none⟩ [.string L[k].1, .string L[k].2] aggEntryI rfl _ rfl rfl (fun j u hu => by rw [Addr.add_lit]; match j, hu with | 0, hu => rw [Nat.add_zero, d0]; simpa using hu | 1, hu => rw [d1]; simpa using hu) ?_) | (at_builtin; refine wpl_append rowEnt rfl _ _ rfl (v := .slice C cn cc) rfl (HOb.out.alloc _) _ _ rfl (A := some ⟨wb.heap.size, 0, none⟩) (ys := [L[k]]) rfl (rd_ent wb L[k] _) (by intro y hy; obtain rfl := List.mem_singleton.1 hy; exact HX0.out) (by simp only [List.length_append, List.length_singleton]; omega) (HXb.out.alloc _).size ?_; intro vz wz ho1 hg1 hat1; obtain ⟨Cz, nz, cz, rfl⟩ := ho1.shape3; have HOz := Lib.hid ho1; have HXz := Lib.hid ((HOb.out.alloc (Obj.cells #[.string L[k].1, .string L[k].2] 67)).ext_app (HXb.out.alloc _) hg1); clear ho1 hg1 hat1))
            go_roundw
            case rel => exact ⟨k + 1, (R ++ [L[k]], true), by omega, by go_num, rfl, by rw [HN.out, HST.out, HQ.out], HOz.out, by simp; omega, HXz.out⟩
            case measure => simp [intOf]; omega
        | false =>
          cases h2 : (L[k].1.toList == e.1.toList) with
          | true =>
            have h1' : Op.bytesLess L[k].1.toList e.1.toList = false := by rw [ltB_eq]; exact h1
            have hnm : L[k].1 = e.1 := toList_inj (by simpa using h2)
            have HQ := Lib.hid (show putStep e (R, true) L[k] = (R, true) by simp [putStep, h1, hnm, ltB_irrefl])
            clear h1 hnm
            have d0 : ∀ W, Ext wr W → W.cell? ⟨g, o + k * 2, none⟩ = some (.string L[k].1) := fun W hW => (HC.out W (HX.out.trans hW)).1
            have b0 : ∀ W, Ext wr W → W.cell? ⟨w.heap.size, 0, none⟩ = some (.string e.1) := fun W hW => (HB.out W (HX.out.trans hW)).1
            go_wp2_with fail
            refine wp_region_held_drew (S := fun W => Ext wr W) (by kernel_rfl) (Ext.refl _).drew (fun hHeld => ?_)
            refine wpAnyH_take (i := 0) (oi := ?oiz21) (v := ?vz21) ?hiz21 (by kernel_rfl) (by kernel_rfl) (by kernel_rfl) ?hQz21 ?hyz21 (by assumption) ?restz21
            case hiz21 => simp only [List.getElem?_toArray, List.getElem?_cons_zero, List.getElem?_cons_succ]; rfl
            case hQz21 => exact fun _ _ _ h => h
            case hyz21 => exact Or.inl ⟨by rfl, by intro w hSw; (try dsimp only at hSw); go_simp; with_reducible rfl⟩
            try simp only [Act.put, List.setIfInBounds_toArray, List.set_cons_zero, List.set_cons_succ]
            refine wpAnyH_take (i := 1) (oi := ?oiz22) (v := ?vz22) ?hiz22 (by kernel_rfl) (by kernel_rfl) (by kernel_rfl) ?hQz22 ?hyz22 (by assumption) ?restz22
            case hiz22 => simp only [List.getElem?_toArray, List.getElem?_cons_zero, List.getElem?_cons_succ]; rfl
            case hQz22 => exact fun _ _ _ h => h
            case hyz22 => exact Or.inl ⟨by rfl, by intro w hSw; (try dsimp only at hSw); go_simp; with_reducible rfl⟩
            try simp only [Act.put, List.setIfInBounds_toArray, List.set_cons_zero, List.set_cons_succ]
            refine wpAnyH_take (i := 2) (oi := ?oiz23) (v := ?vz23) ?hiz23 (by kernel_rfl) (by kernel_rfl) (by kernel_rfl) ?hQz23 ?hyz23 (by assumption) ?restz23
            case hiz23 => simp only [List.getElem?_toArray, List.getElem?_cons_zero, List.getElem?_cons_succ]; rfl
            case hQz23 => exact fun _ _ _ h => h
            case hyz23 => exact Or.inl ⟨by rfl, by intro w hSw; (try dsimp only at hSw); go_simp; with_reducible rfl⟩
            try simp only [Act.put, List.setIfInBounds_toArray, List.set_cons_zero, List.set_cons_succ]
            refine wpAnyH_take (i := 3) (oi := ?oiz24) (v := undef) ?hiz24 (by kernel_rfl) (by kernel_rfl) (by kernel_rfl) ?hQz24 ?hyz24 (by assumption) ?restz24
            case hiz24 => simp only [List.getElem?_toArray, List.getElem?_cons_zero, List.getElem?_cons_succ]; rfl
            case hQz24 => exact fun _ _ _ h => h
            case hyz24 => exact Or.inr ⟨by rfl, rfl⟩
            try simp only [Act.put, List.setIfInBounds_toArray, List.set_cons_zero, List.set_cons_succ]
            refine wpAnyH_take (i := 4) (oi := ?oiz25) (v := undef) ?hiz25 (by kernel_rfl) (by kernel_rfl) (by kernel_rfl) ?hQz25 ?hyz25 (by assumption) ?restz25
            case hiz25 => simp only [List.getElem?_toArray, List.getElem?_cons_zero, List.getElem?_cons_succ]; rfl
            case hQz25 => exact fun _ _ _ h => h
            case hyz25 => exact Or.inr ⟨by rfl, rfl⟩
            try simp only [Act.put, List.setIfInBounds_toArray, List.set_cons_zero, List.set_cons_succ]
            refine wpAnyH_take (i := 5) (oi := ?oiz26) (v := undef) ?hiz26 (by kernel_rfl) (by kernel_rfl) (by kernel_rfl) ?hQz26 ?hyz26 (by assumption) ?restz26
            case hiz26 => simp only [List.getElem?_toArray, List.getElem?_cons_zero, List.getElem?_cons_succ]; rfl
            case hQz26 => exact fun _ _ _ h => h
            case hyz26 => exact Or.inr ⟨by rfl, rfl⟩
            try simp only [Act.put, List.setIfInBounds_toArray, List.set_cons_zero, List.set_cons_succ]
            refine wpAnyH_take (i := 6) (oi := ?oiz27) (v := undef) ?hiz27 (by kernel_rfl) (by kernel_rfl) (by kernel_rfl) ?hQz27 ?hyz27 (by assumption) ?restz27
            case hiz27 => simp only [List.getElem?_toArray, List.getElem?_cons_zero, List.getElem?_cons_succ]; rfl
            case hQz27 => exact fun _ _ _ h => h
            case hyz27 => exact Or.inr ⟨by rfl, rfl⟩
            try simp only [Act.put, List.setIfInBounds_toArray, List.set_cons_zero, List.set_cons_succ]
            refine wpAnyH_take (i := 7) (oi := ?oiz28) (v := undef) ?hiz28 (by kernel_rfl) (by kernel_rfl) (by kernel_rfl) ?hQz28 ?hyz28 (by assumption) ?restz28
            case hiz28 => simp only [List.getElem?_toArray, List.getElem?_cons_zero, List.getElem?_cons_succ]; rfl
            case hQz28 => exact fun _ _ _ h => h
            case hyz28 => exact Or.inr ⟨by rfl, rfl⟩
            try simp only [Act.put, List.setIfInBounds_toArray, List.set_cons_zero, List.set_cons_succ]
            refine wpAnyH_take (i := 8) (oi := ?oiz29) (v := undef) ?hiz29 (by kernel_rfl) (by kernel_rfl) (by kernel_rfl) ?hQz29 ?hyz29 (by assumption) ?restz29
            case hiz29 => simp only [List.getElem?_toArray, List.getElem?_cons_zero, List.getElem?_cons_succ]; rfl
            case hQz29 => exact fun _ _ _ h => h
            case hyz29 => exact Or.inr ⟨by rfl, rfl⟩
            try simp only [Act.put, List.setIfInBounds_toArray, List.set_cons_zero, List.set_cons_succ]
            refine wpAnyH_take (i := 9) (oi := ?oiz30) (v := undef) ?hiz30 (by kernel_rfl) (by kernel_rfl) (by kernel_rfl) ?hQz30 ?hyz30 (by assumption) ?restz30
            case hiz30 => simp only [List.getElem?_toArray, List.getElem?_cons_zero, List.getElem?_cons_succ]; rfl
            case hQz30 => exact fun _ _ _ h => h
            case hyz30 => exact Or.inr ⟨by rfl, rfl⟩
            try simp only [Act.put, List.setIfInBounds_toArray, List.set_cons_zero, List.set_cons_succ]
            refine wpAnyH_take (i := 10) (oi := ?oiz31) (v := undef) ?hiz31 (by kernel_rfl) (by kernel_rfl) (by kernel_rfl) ?hQz31 ?hyz31 (by assumption) ?restz31
            case hiz31 => simp only [List.getElem?_toArray, List.getElem?_cons_zero, List.getElem?_cons_succ]; rfl
            case hQz31 => exact fun _ _ _ h => h
            case hyz31 => exact Or.inr ⟨by rfl, rfl⟩
            try simp only [Act.put, List.setIfInBounds_toArray, List.set_cons_zero, List.set_cons_succ]
            refine wpAnyH_take (i := 11) (oi := ?oiz32) (v := ?vz32) ?hiz32 (by kernel_rfl) (by kernel_rfl) (by kernel_rfl) ?hQz32 ?hyz32 (by assumption) ?restz32
            case hiz32 => simp only [List.getElem?_toArray, List.getElem?_cons_zero, List.getElem?_cons_succ]; rfl
            case hQz32 => exact fun _ _ _ h => h
            case hyz32 => exact Or.inl ⟨by rfl, by intro w hSw; (try dsimp only at hSw); go_simp; with_reducible rfl⟩
            try simp only [Act.put, List.setIfInBounds_toArray, List.set_cons_zero, List.set_cons_succ]
            refine wpAnyH_done (by kernel_rfl) ?_ _
            clear d0 b0
            generalize wr.drew = w0 at *
            have HXa := Lib.hid (HX.out.trans hHeld)
            have HOa := Lib.hid (HO.out.ext hHeld)
            clear hHeld HX HO
            go_wp2_with fail
            have d0 : ∀ W, Ext w0 W → W.cell? ⟨g, o + k * 2, none⟩ = some (.string L[k].1) := fun W hW => (HC.out W (HXa.out.trans hW)).1
            have b0 : ∀ W, Ext w0 W → W.cell? ⟨w.heap.size, 0, none⟩ = some (.string e.1) := fun W hW => (HB.out W (HXa.out.trans hW)).1
            refine wp_region_held_drew (S := fun W => Ext w0 W) (by kernel_rfl) (Ext.refl _).drew (fun hHeld => ?_)
            refine wpAnyH_take (i := 0) (oi := ?oiz33) (v := ?vz33) ?hiz33 (by kernel_rfl) (by kernel_rfl) (by kernel_rfl) ?hQz33 ?hyz33 (by assumption) ?restz33
            case hiz33 => simp only [List.getElem?_toArray, List.getElem?_cons_zero, List.getElem?_cons_succ]; rfl
            case hQz33 => exact fun _ _ _ h => h
            case hyz33 => exact Or.inl ⟨by rfl, by intro w hSw; (try dsimp only at hSw); go_simp; with_reducible rfl⟩
            try simp only [Act.put, List.setIfInBounds_toArray, List.set_cons_zero, List.set_cons_succ]
            refine wpAnyH_take (i := 1) (oi := ?oiz34) (v := ?vz34) ?hiz34 (by kernel_rfl) (by kernel_rfl) (by kernel_rfl) ?hQz34 ?hyz34 (by assumption) ?restz34
            case hiz34 => simp only [List.getElem?_toArray, List.getElem?_cons_zero, List.getElem?_cons_succ]; rfl
            case hQz34 => exact fun _ _ _ h => h
            case hyz34 => exact Or.inl ⟨by rfl, by intro w hSw; (try dsimp only at hSw); go_simp; with_reducible rfl⟩
            try simp only [Act.put, List.setIfInBounds_toArray, List.set_cons_zero, List.set_cons_succ]
            refine wpAnyH_take (i := 2) (oi := ?oiz35) (v := ?vz35) ?hiz35 (by kernel_rfl) (by kernel_rfl) (by kernel_rfl) ?hQz35 ?hyz35 (by assumption) ?restz35
            case hiz35 => simp only [List.getElem?_toArray, List.getElem?_cons_zero, List.getElem?_cons_succ]; rfl
            case hQz35 => exact fun _ _ _ h => h
            case hyz35 => exact Or.inl ⟨by rfl, by intro w hSw; (try dsimp only at hSw); go_simp; with_reducible rfl⟩
            try simp only [Act.put, List.setIfInBounds_toArray, List.set_cons_zero, List.set_cons_succ]
            refine wpAnyH_take (i := 3) (oi := ?oiz36) (v := ?vz36) ?hiz36 (by kernel_rfl) (by kernel_rfl) (by kernel_rfl) ?hQz36 ?hyz36 (by assumption) ?restz36
            case hiz36 => simp only [List.getElem?_toArray, List.getElem?_cons_zero, List.getElem?_cons_succ]; rfl
            case hQz36 => exact fun _ _ _ h => h
            case hyz36 => exact Or.inl ⟨by rfl, by intro w hSw; (try dsimp only at hSw); go_simp; with_reducible rfl⟩
            try simp only [Act.put, List.setIfInBounds_toArray, List.set_cons_zero, List.set_cons_succ]
            refine wpAnyH_take (i := 4) (oi := ?oiz37) (v := ?vz37) ?hiz37 (by kernel_rfl) (by kernel_rfl) (by kernel_rfl) ?hQz37 ?hyz37 (by assumption) ?restz37
            case hiz37 => simp only [List.getElem?_toArray, List.getElem?_cons_zero, List.getElem?_cons_succ]; rfl
            case hQz37 => exact fun _ _ _ h => h
            case hyz37 => exact Or.inl ⟨by rfl, by intro w hSw; (try dsimp only at hSw); go_simp; with_reducible rfl⟩
            try simp only [Act.put, List.setIfInBounds_toArray, List.set_cons_zero, List.set_cons_succ]
            refine wpAnyH_take (i := 5) (oi := ?oiz38) (v := ?vz38) ?hiz38 (by kernel_rfl) (by kernel_rfl) (by kernel_rfl) ?hQz38 ?hyz38 (by assumption) ?restz38
            case hiz38 => simp only [List.getElem?_toArray, List.getElem?_cons_zero, List.getElem?_cons_succ]; rfl
            case hQz38 => exact fun _ _ _ h => h
            case hyz38 => exact Or.inl ⟨by rfl, by intro w hSw; (try dsimp only at hSw); go_simp; with_reducible rfl⟩
            try simp only [Act.put, List.setIfInBounds_toArray, List.set_cons_zero, List.set_cons_succ]
            refine wpAnyH_take (i := 6) (oi := ?oiz39) (v := ?vz39) ?hiz39 (by kernel_rfl) (by kernel_rfl) (by kernel_rfl) ?hQz39 ?hyz39 (by assumption) ?restz39
            case hiz39 => simp only [List.getElem?_toArray, List.getElem?_cons_zero, List.getElem?_cons_succ]; rfl
            case hQz39 => exact fun _ _ _ h => h
            case hyz39 => exact Or.inl ⟨by rfl, by intro w hSw; (try dsimp only at hSw); go_simp; with_reducible rfl⟩
            try simp only [Act.put, List.setIfInBounds_toArray, List.set_cons_zero, List.set_cons_succ]
            refine wpAnyH_take (i := 7) (oi := ?oiz40) (v := ?vz40) ?hiz40 (by kernel_rfl) (by kernel_rfl) (by kernel_rfl) ?hQz40 ?hyz40 (by assumption) ?restz40
            case hiz40 => simp only [List.getElem?_toArray, List.getElem?_cons_zero, List.getElem?_cons_succ]; rfl
            case hQz40 => exact fun _ _ _ h => h
            case hyz40 => exact Or.inl ⟨by rfl, by intro w hSw; (try dsimp only at hSw); go_simp; with_reducible rfl⟩
            try simp only [Act.put, List.setIfInBounds_toArray, List.set_cons_zero, List.set_cons_succ]
            refine wpAnyH_done (by kernel_rfl) ?_ _
            clear d0 b0
            generalize w0.drew = wb at *
            have HXb := Lib.hid (HXa.out.trans hHeld)
            have HOb := Lib.hid (HOa.out.ext hHeld)
            clear hHeld
            go_wp2
            go_roundw
            case rel => exact ⟨k + 1, (R, true), by omega, by go_num, rfl, by rw [HN.out, HST.out, HQ.out], HOb.out, by simp; omega, HXb.out⟩
            case measure => simp [intOf]; omega
          | false =>
            have h1' : Op.bytesLess L[k].1.toList e.1.toList = false := by rw [ltB_eq]; exact h1
            have hnm : L[k].1 ≠ e.1 := fun q => by rw [q] at h2; simp at h2
            have HQ := Lib.hid (show putStep e (R, true) L[k] = (R ++ [L[k]], true) by simp [putStep, h1, hnm, ltB_irrefl])
            clear h1 hnm
            have d0 : ∀ W, Ext wr W → W.cell? ⟨g, o + k * 2, none⟩ = some (.string L[k].1) := fun W hW => (HC.out W (HX.out.trans hW)).1
            have b0 : ∀ W, Ext wr W → W.cell? ⟨w.heap.size, 0, none⟩ = some (.string e.1) := fun W hW => (HB.out W (HX.out.trans hW)).1
            go_wp2_with fail
            refine wp_region_held_drew (S := fun W => Ext wr W) (by kernel_rfl) (Ext.refl _).drew (fun hHeld => ?_)
            refine wpAnyH_take (i := 0) (oi := ?oiz41) (v := ?vz41) ?hiz41 (by kernel_rfl) (by kernel_rfl) (by kernel_rfl) ?hQz41 ?hyz41 (by assumption) ?restz41
            case hiz41 => simp only [List.getElem?_toArray, List.getElem?_cons_zero, List.getElem?_cons_succ]; rfl
            case hQz41 => exact fun _ _ _ h => h
            case hyz41 => exact Or.inl ⟨by rfl, by intro w hSw; (try dsimp only at hSw); go_simp; with_reducible rfl⟩
            try simp only [Act.put, List.setIfInBounds_toArray, List.set_cons_zero, List.set_cons_succ]
            refine wpAnyH_take (i := 1) (oi := ?oiz42) (v := ?vz42) ?hiz42 (by kernel_rfl) (by kernel_rfl) (by kernel_rfl) ?hQz42 ?hyz42 (by assumption) ?restz42
            case hiz42 => simp only [List.getElem?_toArray, List.getElem?_cons_zero, List.getElem?_cons_succ]; rfl
            case hQz42 => exact fun _ _ _ h => h
            case hyz42 => exact Or.inl ⟨by rfl, by intro w hSw; (try dsimp only at hSw); go_simp; with_reducible rfl⟩
            try simp only [Act.put, List.setIfInBounds_toArray, List.set_cons_zero, List.set_cons_succ]
            refine wpAnyH_take (i := 2) (oi := ?oiz43) (v := ?vz43) ?hiz43 (by kernel_rfl) (by kernel_rfl) (by kernel_rfl) ?hQz43 ?hyz43 (by assumption) ?restz43
            case hiz43 => simp only [List.getElem?_toArray, List.getElem?_cons_zero, List.getElem?_cons_succ]; rfl
            case hQz43 => exact fun _ _ _ h => h
            case hyz43 => exact Or.inl ⟨by rfl, by intro w hSw; (try dsimp only at hSw); go_simp; with_reducible rfl⟩
            try simp only [Act.put, List.setIfInBounds_toArray, List.set_cons_zero, List.set_cons_succ]
            refine wpAnyH_take (i := 3) (oi := ?oiz44) (v := undef) ?hiz44 (by kernel_rfl) (by kernel_rfl) (by kernel_rfl) ?hQz44 ?hyz44 (by assumption) ?restz44
            case hiz44 => simp only [List.getElem?_toArray, List.getElem?_cons_zero, List.getElem?_cons_succ]; rfl
            case hQz44 => exact fun _ _ _ h => h
            case hyz44 => exact Or.inr ⟨by rfl, rfl⟩
            try simp only [Act.put, List.setIfInBounds_toArray, List.set_cons_zero, List.set_cons_succ]
            refine wpAnyH_take (i := 4) (oi := ?oiz45) (v := undef) ?hiz45 (by kernel_rfl) (by kernel_rfl) (by kernel_rfl) ?hQz45 ?hyz45 (by assumption) ?restz45
            case hiz45 => simp only [List.getElem?_toArray, List.getElem?_cons_zero, List.getElem?_cons_succ]; rfl
            case hQz45 => exact fun _ _ _ h => h
            case hyz45 => exact Or.inr ⟨by rfl, rfl⟩
            try simp only [Act.put, List.setIfInBounds_toArray, List.set_cons_zero, List.set_cons_succ]
            refine wpAnyH_take (i := 5) (oi := ?oiz46) (v := undef) ?hiz46 (by kernel_rfl) (by kernel_rfl) (by kernel_rfl) ?hQz46 ?hyz46 (by assumption) ?restz46
            case hiz46 => simp only [List.getElem?_toArray, List.getElem?_cons_zero, List.getElem?_cons_succ]; rfl
            case hQz46 => exact fun _ _ _ h => h
            case hyz46 => exact Or.inr ⟨by rfl, rfl⟩
            try simp only [Act.put, List.setIfInBounds_toArray, List.set_cons_zero, List.set_cons_succ]
            refine wpAnyH_take (i := 6) (oi := ?oiz47) (v := undef) ?hiz47 (by kernel_rfl) (by kernel_rfl) (by kernel_rfl) ?hQz47 ?hyz47 (by assumption) ?restz47
            case hiz47 => simp only [List.getElem?_toArray, List.getElem?_cons_zero, List.getElem?_cons_succ]; rfl
            case hQz47 => exact fun _ _ _ h => h
            case hyz47 => exact Or.inr ⟨by rfl, rfl⟩
            try simp only [Act.put, List.setIfInBounds_toArray, List.set_cons_zero, List.set_cons_succ]
            refine wpAnyH_take (i := 7) (oi := ?oiz48) (v := undef) ?hiz48 (by kernel_rfl) (by kernel_rfl) (by kernel_rfl) ?hQz48 ?hyz48 (by assumption) ?restz48
            case hiz48 => simp only [List.getElem?_toArray, List.getElem?_cons_zero, List.getElem?_cons_succ]; rfl
            case hQz48 => exact fun _ _ _ h => h
            case hyz48 => exact Or.inr ⟨by rfl, rfl⟩
            try simp only [Act.put, List.setIfInBounds_toArray, List.set_cons_zero, List.set_cons_succ]
            refine wpAnyH_take (i := 8) (oi := ?oiz49) (v := undef) ?hiz49 (by kernel_rfl) (by kernel_rfl) (by kernel_rfl) ?hQz49 ?hyz49 (by assumption) ?restz49
            case hiz49 => simp only [List.getElem?_toArray, List.getElem?_cons_zero, List.getElem?_cons_succ]; rfl
            case hQz49 => exact fun _ _ _ h => h
            case hyz49 => exact Or.inr ⟨by rfl, rfl⟩
            try simp only [Act.put, List.setIfInBounds_toArray, List.set_cons_zero, List.set_cons_succ]
            refine wpAnyH_take (i := 9) (oi := ?oiz50) (v := undef) ?hiz50 (by kernel_rfl) (by kernel_rfl) (by kernel_rfl) ?hQz50 ?hyz50 (by assumption) ?restz50
            case hiz50 => simp only [List.getElem?_toArray, List.getElem?_cons_zero, List.getElem?_cons_succ]; rfl
            case hQz50 => exact fun _ _ _ h => h
            case hyz50 => exact Or.inr ⟨by rfl, rfl⟩
            try simp only [Act.put, List.setIfInBounds_toArray, List.set_cons_zero, List.set_cons_succ]
            refine wpAnyH_take (i := 10) (oi := ?oiz51) (v := undef) ?hiz51 (by kernel_rfl) (by kernel_rfl) (by kernel_rfl) ?hQz51 ?hyz51 (by assumption) ?restz51
            case hiz51 => simp only [List.getElem?_toArray, List.getElem?_cons_zero, List.getElem?_cons_succ]; rfl
            case hQz51 => exact fun _ _ _ h => h
            case hyz51 => exact Or.inr ⟨by rfl, rfl⟩
            try simp only [Act.put, List.setIfInBounds_toArray, List.set_cons_zero, List.set_cons_succ]
            refine wpAnyH_take (i := 11) (oi := ?oiz52) (v := ?vz52) ?hiz52 (by kernel_rfl) (by kernel_rfl) (by kernel_rfl) ?hQz52 ?hyz52 (by assumption) ?restz52
            case hiz52 => simp only [List.getElem?_toArray, List.getElem?_cons_zero, List.getElem?_cons_succ]; rfl
            case hQz52 => exact fun _ _ _ h => h
            case hyz52 => exact Or.inl ⟨by rfl, by intro w hSw; (try dsimp only at hSw); go_simp; with_reducible rfl⟩
            try simp only [Act.put, List.setIfInBounds_toArray, List.set_cons_zero, List.set_cons_succ]
            refine wpAnyH_done (by kernel_rfl) ?_ _
            clear d0 b0
            generalize wr.drew = w0 at *
            have HXa := Lib.hid (HX.out.trans hHeld)
            have HOa := Lib.hid (HO.out.ext hHeld)
            clear hHeld HX HO
            go_wp2_with fail
            have d0 : ∀ W, Ext w0 W → W.cell? ⟨g, o + k * 2, none⟩ = some (.string L[k].1) := fun W hW => (HC.out W (HXa.out.trans hW)).1
            have b0 : ∀ W, Ext w0 W → W.cell? ⟨w.heap.size, 0, none⟩ = some (.string e.1) := fun W hW => (HB.out W (HXa.out.trans hW)).1
            refine wp_region_held_drew (S := fun W => Ext w0 W) (by kernel_rfl) (Ext.refl _).drew (fun hHeld => ?_)
            refine wpAnyH_take (i := 0) (oi := ?oiz53) (v := ?vz53) ?hiz53 (by kernel_rfl) (by kernel_rfl) (by kernel_rfl) ?hQz53 ?hyz53 (by assumption) ?restz53
            case hiz53 => simp only [List.getElem?_toArray, List.getElem?_cons_zero, List.getElem?_cons_succ]; rfl
            case hQz53 => exact fun _ _ _ h => h
            case hyz53 => exact Or.inl ⟨by rfl, by intro w hSw; (try dsimp only at hSw); go_simp; with_reducible rfl⟩
            try simp only [Act.put, List.setIfInBounds_toArray, List.set_cons_zero, List.set_cons_succ]
            refine wpAnyH_take (i := 1) (oi := ?oiz54) (v := ?vz54) ?hiz54 (by kernel_rfl) (by kernel_rfl) (by kernel_rfl) ?hQz54 ?hyz54 (by assumption) ?restz54
            case hiz54 => simp only [List.getElem?_toArray, List.getElem?_cons_zero, List.getElem?_cons_succ]; rfl
            case hQz54 => exact fun _ _ _ h => h
            case hyz54 => exact Or.inl ⟨by rfl, by intro w hSw; (try dsimp only at hSw); go_simp; with_reducible rfl⟩
            try simp only [Act.put, List.setIfInBounds_toArray, List.set_cons_zero, List.set_cons_succ]
            refine wpAnyH_take (i := 2) (oi := ?oiz55) (v := ?vz55) ?hiz55 (by kernel_rfl) (by kernel_rfl) (by kernel_rfl) ?hQz55 ?hyz55 (by assumption) ?restz55
            case hiz55 => simp only [List.getElem?_toArray, List.getElem?_cons_zero, List.getElem?_cons_succ]; rfl
            case hQz55 => exact fun _ _ _ h => h
            case hyz55 => exact Or.inl ⟨by rfl, by intro w hSw; (try dsimp only at hSw); go_simp; with_reducible rfl⟩
            try simp only [Act.put, List.setIfInBounds_toArray, List.set_cons_zero, List.set_cons_succ]
            refine wpAnyH_take (i := 3) (oi := ?oiz56) (v := ?vz56) ?hiz56 (by kernel_rfl) (by kernel_rfl) (by kernel_rfl) ?hQz56 ?hyz56 (by assumption) ?restz56
            case hiz56 => simp only [List.getElem?_toArray, List.getElem?_cons_zero, List.getElem?_cons_succ]; rfl
            case hQz56 => exact fun _ _ _ h => h
            case hyz56 => exact Or.inl ⟨by rfl, by intro w hSw; (try dsimp only at hSw); go_simp; with_reducible rfl⟩
            try simp only [Act.put, List.setIfInBounds_toArray, List.set_cons_zero, List.set_cons_succ]
            refine wpAnyH_take (i := 4) (oi := ?oiz57) (v := ?vz57) ?hiz57 (by kernel_rfl) (by kernel_rfl) (by kernel_rfl) ?hQz57 ?hyz57 (by assumption) ?restz57
            case hiz57 => simp only [List.getElem?_toArray, List.getElem?_cons_zero, List.getElem?_cons_succ]; rfl
            case hQz57 => exact fun _ _ _ h => h
            case hyz57 => exact Or.inl ⟨by rfl, by intro w hSw; (try dsimp only at hSw); go_simp; with_reducible rfl⟩
            try simp only [Act.put, List.setIfInBounds_toArray, List.set_cons_zero, List.set_cons_succ]
            refine wpAnyH_take (i := 5) (oi := ?oiz58) (v := ?vz58) ?hiz58 (by kernel_rfl) (by kernel_rfl) (by kernel_rfl) ?hQz58 ?hyz58 (by assumption) ?restz58
            case hiz58 => simp only [List.getElem?_toArray, List.getElem?_cons_zero, List.getElem?_cons_succ]; rfl
            case hQz58 => exact fun _ _ _ h => h
            case hyz58 => exact Or.inl ⟨by rfl, by intro w hSw; (try dsimp only at hSw); go_simp; with_reducible rfl⟩
            try simp only [Act.put, List.setIfInBounds_toArray, List.set_cons_zero, List.set_cons_succ]
            refine wpAnyH_take (i := 6) (oi := ?oiz59) (v := ?vz59) ?hiz59 (by kernel_rfl) (by kernel_rfl) (by kernel_rfl) ?hQz59 ?hyz59 (by assumption) ?restz59
            case hiz59 => simp only [List.getElem?_toArray, List.getElem?_cons_zero, List.getElem?_cons_succ]; rfl
            case hQz59 => exact fun _ _ _ h => h
            case hyz59 => exact Or.inl ⟨by rfl, by intro w hSw; (try dsimp only at hSw); go_simp; with_reducible rfl⟩
            try simp only [Act.put, List.setIfInBounds_toArray, List.set_cons_zero, List.set_cons_succ]
            refine wpAnyH_take (i := 7) (oi := ?oiz60) (v := ?vz60) ?hiz60 (by kernel_rfl) (by kernel_rfl) (by kernel_rfl) ?hQz60 ?hyz60 (by assumption) ?restz60
            case hiz60 => simp only [List.getElem?_toArray, List.getElem?_cons_zero, List.getElem?_cons_succ]; rfl
            case hQz60 => exact fun _ _ _ h => h
            case hyz60 => exact Or.inl ⟨by rfl, by intro w hSw; (try dsimp only at hSw); go_simp; with_reducible rfl⟩
            try simp only [Act.put, List.setIfInBounds_toArray, List.set_cons_zero, List.set_cons_succ]
            refine wpAnyH_done (by kernel_rfl) ?_ _
            clear d0 b0
            generalize w0.drew = wb at *
            have HXb := Lib.hid (HXa.out.trans hHeld)
            have HOb := Lib.hid (HOa.out.ext hHeld)
            clear hHeld
            have d0 := (HC.out wb HXb.out).1
            have d1 := (HC.out wb HXb.out).2
            go_wp2_with (first | (refine wpl_load ⟨g, o + k * 2, none⟩ [.string L[k].1, .string L[k].2] aggEntryI rfl _ rfl rfl (fun j u hu => by rw [Addr.add_lit]; match j, hu with | 0, hu => rw [Nat.add_zero, d0]; simpa using hu | 1, hu => rw [d1]; simpa using hu) ?_) | (at_builtin; refine wpl_append rowEnt rfl _ _ rfl (v := .slice C cn cc) rfl (HOb.out.alloc _) _ _ rfl (A := some ⟨wb.heap.size, 0, none⟩) (ys := [L[k]]) rfl (rd_ent wb L[k] _) (by intro y hy; obtain rfl := List.mem_singleton.1 hy; exact HX0.out) (by simp only [List.length_append, List.length_singleton]; omega) (HXb.out.alloc _).size ?_; intro vz wz ho1 hg1 hat1; obtain ⟨Cz, nz, cz, rfl⟩ := ho1.shape3; have HOz := Lib.hid ho1; have HXz := Lib.hid ((HOb.out.alloc (Obj.cells #[.string L[k].1, .string L[k].2] 67)).ext_app (HXb.out.alloc _) hg1); clear ho1 hg1 hat1))
            go_roundw
            case rel => exact ⟨k + 1, (R ++ [L[k]], true), by omega, by go_num, rfl, by rw [HN.out, HST.out, HQ.out], HOz.out, by simp; omega, HXz.out⟩
            case measure => simp [intOf]; omega
      | false =>
        cases h1 : ltB L[k].1 e.1 with
        | true =>
          cases h2 : (L[k].1.toList == e.1.toList) with
          | true =>
            exact absurd (toList_inj (by simpa using h2)) (ltB_ne h1)
          | false =>
            have h1' : Op.bytesLess L[k].1.toList e.1.toList = true := by rw [ltB_eq]; exact h1
            have hnm : L[k].1 ≠ e.1 := fun q => by rw [q] at h2; simp at h2
            have HQ := Lib.hid (show putStep e (R, false) L[k] = (R ++ [L[k]], false) by simp [putStep, h1, hnm, ltB_irrefl])
            clear h1 hnm
            have d0 : ∀ W, Ext wr W → W.cell? ⟨g, o + k * 2, none⟩ = some (.string L[k].1) := fun W hW => (HC.out W (HX.out.trans hW)).1
            have b0 : ∀ W, Ext wr W → W.cell? ⟨w.heap.size, 0, none⟩ = some (.string e.1) := fun W hW => (HB.out W (HX.out.trans hW)).1
            go_wp2_with fail
            refine wp_region_held_drew (S := fun W => Ext wr W) (by kernel_rfl) (Ext.refl _).drew (fun hHeld => ?_)
            refine wpAnyH_take (i := 0) (oi := ?oiz61) (v := ?vz61) ?hiz61 (by kernel_rfl) (by kernel_rfl) (by kernel_rfl) ?hQz61 ?hyz61 (by assumption) ?restz61
            case hiz61 => simp only [List.getElem?_toArray, List.getElem?_cons_zero, List.getElem?_cons_succ]; rfl
            case hQz61 => exact fun _ _ _ h => h
            case hyz61 => exact Or.inl ⟨by rfl, by intro w hSw; (try dsimp only at hSw); go_simp; with_reducible rfl⟩
            try simp only [Act.put, List.setIfInBounds_toArray, List.set_cons_zero, List.set_cons_succ]
            refine wpAnyH_take (i := 1) (oi := ?oiz62) (v := ?vz62) ?hiz62 (by kernel_rfl) (by kernel_rfl) (by kernel_rfl) ?hQz62 ?hyz62 (by assumption) ?restz62
            case hiz62 => simp only [List.getElem?_toArray, List.getElem?_cons_zero, List.getElem?_cons_succ]; rfl
            case hQz62 => exact fun _ _ _ h => h
            case hyz62 => exact Or.inl ⟨by rfl, by intro w hSw; (try dsimp only at hSw); go_simp; with_reducible rfl⟩
            try simp only [Act.put, List.setIfInBounds_toArray, List.set_cons_zero, List.set_cons_succ]
            refine wpAnyH_take (i := 2) (oi := ?oiz63) (v := ?vz63) ?hiz63 (by kernel_rfl) (by kernel_rfl) (by kernel_rfl) ?hQz63 ?hyz63 (by assumption) ?restz63
            case hiz63 => simp only [List.getElem?_toArray, List.getElem?_cons_zero, List.getElem?_cons_succ]; rfl
            case hQz63 => exact fun _ _ _ h => h
            case hyz63 => exact Or.inl ⟨by rfl, by intro w hSw; (try dsimp only at hSw); go_simp; with_reducible rfl⟩
            try simp only [Act.put, List.setIfInBounds_toArray, List.set_cons_zero, List.set_cons_succ]
            refine wpAnyH_take (i := 3) (oi := ?oiz64) (v := ?vz64) ?hiz64 (by kernel_rfl) (by kernel_rfl) (by kernel_rfl) ?hQz64 ?hyz64 (by assumption) ?restz64
            case hiz64 => simp only [List.getElem?_toArray, List.getElem?_cons_zero, List.getElem?_cons_succ]; rfl
            case hQz64 => exact fun _ _ _ h => h
            case hyz64 => exact Or.inl ⟨by rfl, by intro w hSw; (try dsimp only at hSw); go_simp; with_reducible rfl⟩
            try simp only [Act.put, List.setIfInBounds_toArray, List.set_cons_zero, List.set_cons_succ]
            refine wpAnyH_take (i := 4) (oi := ?oiz65) (v := ?vz65) ?hiz65 (by kernel_rfl) (by kernel_rfl) (by kernel_rfl) ?hQz65 ?hyz65 (by assumption) ?restz65
            case hiz65 => simp only [List.getElem?_toArray, List.getElem?_cons_zero, List.getElem?_cons_succ]; rfl
            case hQz65 => exact fun _ _ _ h => h
            case hyz65 => exact Or.inl ⟨by rfl, by intro w hSw; (try dsimp only at hSw); go_simp; with_reducible rfl⟩
            try simp only [Act.put, List.setIfInBounds_toArray, List.set_cons_zero, List.set_cons_succ]
            refine wpAnyH_take (i := 5) (oi := ?oiz66) (v := ?vz66) ?hiz66 (by kernel_rfl) (by kernel_rfl) (by kernel_rfl) ?hQz66 ?hyz66 (by assumption) ?restz66
            case hiz66 => simp only [List.getElem?_toArray, List.getElem?_cons_zero, List.getElem?_cons_succ]; rfl
            case hQz66 => exact fun _ _ _ h => h
            case hyz66 => exact Or.inl ⟨by rfl, by intro w hSw; (try dsimp only at hSw); go_simp; with_reducible rfl⟩
            try simp only [Act.put, List.setIfInBounds_toArray, List.set_cons_zero, List.set_cons_succ]
            refine wpAnyH_take (i := 6) (oi := ?oiz67) (v := ?vz67) ?hiz67 (by kernel_rfl) (by kernel_rfl) (by kernel_rfl) ?hQz67 ?hyz67 (by assumption) ?restz67
            case hiz67 => simp only [List.getElem?_toArray, List.getElem?_cons_zero, List.getElem?_cons_succ]; rfl
            case hQz67 => exact fun _ _ _ h => h
            case hyz67 => exact Or.inl ⟨by rfl, by intro w hSw; (try dsimp only at hSw); go_simp; with_reducible rfl⟩
            try simp only [Act.put, List.setIfInBounds_toArray, List.set_cons_zero, List.set_cons_succ]
            refine wpAnyH_take (i := 7) (oi := ?oiz68) (v := ?vz68) ?hiz68 (by kernel_rfl) (by kernel_rfl) (by kernel_rfl) ?hQz68 ?hyz68 (by assumption) ?restz68
            case hiz68 => simp only [List.getElem?_toArray, List.getElem?_cons_zero, List.getElem?_cons_succ]; rfl
            case hQz68 => exact fun _ _ _ h => h
            case hyz68 => exact Or.inl ⟨by rfl, by intro w hSw; (try dsimp only at hSw); go_simp; with_reducible rfl⟩
            try simp only [Act.put, List.setIfInBounds_toArray, List.set_cons_zero, List.set_cons_succ]
            refine wpAnyH_take (i := 8) (oi := ?oiz69) (v := ?vz69) ?hiz69 (by kernel_rfl) (by kernel_rfl) (by kernel_rfl) ?hQz69 ?hyz69 (by assumption) ?restz69
            case hiz69 => simp only [List.getElem?_toArray, List.getElem?_cons_zero, List.getElem?_cons_succ]; rfl
            case hQz69 => exact fun _ _ _ h => h
            case hyz69 => exact Or.inl ⟨by rfl, by intro w hSw; (try dsimp only at hSw); go_simp; with_reducible rfl⟩
            try simp only [Act.put, List.setIfInBounds_toArray, List.set_cons_zero, List.set_cons_succ]
            refine wpAnyH_take (i := 9) (oi := ?oiz70) (v := ?vz70) ?hiz70 (by kernel_rfl) (by kernel_rfl) (by kernel_rfl) ?hQz70 ?hyz70 (by assumption) ?restz70
            case hiz70 => simp only [List.getElem?_toArray, List.getElem?_cons_zero, List.getElem?_cons_succ]; rfl
            case hQz70 => exact fun _ _ _ h => h
            case hyz70 => exact Or.inl ⟨by rfl, by intro w hSw; (try dsimp only at hSw); go_simp; with_reducible rfl⟩
            try simp only [Act.put, List.setIfInBounds_toArray, List.set_cons_zero, List.set_cons_succ]
            refine wpAnyH_take (i := 10) (oi := ?oiz71) (v := ?vz71) ?hiz71 (by kernel_rfl) (by kernel_rfl) (by kernel_rfl) ?hQz71 ?hyz71 (by assumption) ?restz71
            case hiz71 => simp only [List.getElem?_toArray, List.getElem?_cons_zero, List.getElem?_cons_succ]; rfl
            case hQz71 => exact fun _ _ _ h => h
            case hyz71 => exact Or.inl ⟨by rfl, by intro w hSw; (try dsimp only at hSw); go_simp; with_reducible rfl⟩
            try simp only [Act.put, List.setIfInBounds_toArray, List.set_cons_zero, List.set_cons_succ]
            refine wpAnyH_take (i := 11) (oi := ?oiz72) (v := ?vz72) ?hiz72 (by kernel_rfl) (by kernel_rfl) (by kernel_rfl) ?hQz72 ?hyz72 (by assumption) ?restz72
            case hiz72 => simp only [List.getElem?_toArray, List.getElem?_cons_zero, List.getElem?_cons_succ]; rfl
            case hQz72 => exact fun _ _ _ h => h
            case hyz72 => exact Or.inl ⟨by rfl, by intro w hSw; (try dsimp only at hSw); go_simp; with_reducible rfl⟩
            try simp only [Act.put, List.setIfInBounds_toArray, List.set_cons_zero, List.set_cons_succ]
            refine wpAnyH_done (by kernel_rfl) ?_ _
            clear d0 b0
            generalize wr.drew = w0 at *
            have HXa := Lib.hid (HX.out.trans hHeld)
            have HOa := Lib.hid (HO.out.ext hHeld)
            clear hHeld HX HO
            go_wp2_with fail
            have d0 : ∀ W, Ext w0 W → W.cell? ⟨g, o + k * 2, none⟩ = some (.string L[k].1) := fun W hW => (HC.out W (HXa.out.trans hW)).1
            have b0 : ∀ W, Ext w0 W → W.cell? ⟨w.heap.size, 0, none⟩ = some (.string e.1) := fun W hW => (HB.out W (HXa.out.trans hW)).1
            refine wp_region_held_drew (S := fun W => Ext w0 W) (by kernel_rfl) (Ext.refl _).drew (fun hHeld => ?_)
            refine wpAnyH_take (i := 0) (oi := ?oiz73) (v := ?vz73) ?hiz73 (by kernel_rfl) (by kernel_rfl) (by kernel_rfl) ?hQz73 ?hyz73 (by assumption) ?restz73
            case hiz73 => simp only [List.getElem?_toArray, List.getElem?_cons_zero, List.getElem?_cons_succ]; rfl
            case hQz73 => exact fun _ _ _ h => h
            case hyz73 => exact Or.inl ⟨by rfl, by intro w hSw; (try dsimp only at hSw); go_simp; with_reducible rfl⟩
            try simp only [Act.put, List.setIfInBounds_toArray, List.set_cons_zero, List.set_cons_succ]
            refine wpAnyH_take (i := 1) (oi := ?oiz74) (v := ?vz74) ?hiz74 (by kernel_rfl) (by kernel_rfl) (by kernel_rfl) ?hQz74 ?hyz74 (by assumption) ?restz74
            case hiz74 => simp only [List.getElem?_toArray, List.getElem?_cons_zero, List.getElem?_cons_succ]; rfl
            case hQz74 => exact fun _ _ _ h => h
            case hyz74 => exact Or.inl ⟨by rfl, by intro w hSw; (try dsimp only at hSw); go_simp; with_reducible rfl⟩
            try simp only [Act.put, List.setIfInBounds_toArray, List.set_cons_zero, List.set_cons_succ]
            refine wpAnyH_take (i := 2) (oi := ?oiz75) (v := ?vz75) ?hiz75 (by kernel_rfl) (by kernel_rfl) (by kernel_rfl) ?hQz75 ?hyz75 (by assumption) ?restz75
            case hiz75 => simp only [List.getElem?_toArray, List.getElem?_cons_zero, List.getElem?_cons_succ]; rfl
            case hQz75 => exact fun _ _ _ h => h
            case hyz75 => exact Or.inl ⟨by rfl, by intro w hSw; (try dsimp only at hSw); go_simp; with_reducible rfl⟩
            try simp only [Act.put, List.setIfInBounds_toArray, List.set_cons_zero, List.set_cons_succ]
            refine wpAnyH_take (i := 3) (oi := ?oiz76) (v := ?vz76) ?hiz76 (by kernel_rfl) (by kernel_rfl) (by kernel_rfl) ?hQz76 ?hyz76 (by assumption) ?restz76
            case hiz76 => simp only [List.getElem?_toArray, List.getElem?_cons_zero, List.getElem?_cons_succ]; rfl
            case hQz76 => exact fun _ _ _ h => h
            case hyz76 => exact Or.inl ⟨by rfl, by intro w hSw; (try dsimp only at hSw); go_simp; with_reducible rfl⟩
            try simp only [Act.put, List.setIfInBounds_toArray, List.set_cons_zero, List.set_cons_succ]
            refine wpAnyH_take (i := 4) (oi := ?oiz77) (v := ?vz77) ?hiz77 (by kernel_rfl) (by kernel_rfl) (by kernel_rfl) ?hQz77 ?hyz77 (by assumption) ?restz77
            case hiz77 => simp only [List.getElem?_toArray, List.getElem?_cons_zero, List.getElem?_cons_succ]; rfl
            case hQz77 => exact fun _ _ _ h => h
            case hyz77 => exact Or.inl ⟨by rfl, by intro w hSw; (try dsimp only at hSw); go_simp; with_reducible rfl⟩
            try simp only [Act.put, List.setIfInBounds_toArray, List.set_cons_zero, List.set_cons_succ]
            refine wpAnyH_take (i := 5) (oi := ?oiz78) (v := ?vz78) ?hiz78 (by kernel_rfl) (by kernel_rfl) (by kernel_rfl) ?hQz78 ?hyz78 (by assumption) ?restz78
            case hiz78 => simp only [List.getElem?_toArray, List.getElem?_cons_zero, List.getElem?_cons_succ]; rfl
            case hQz78 => exact fun _ _ _ h => h
            case hyz78 => exact Or.inl ⟨by rfl, by intro w hSw; (try dsimp only at hSw); go_simp; with_reducible rfl⟩
            try simp only [Act.put, List.setIfInBounds_toArray, List.set_cons_zero, List.set_cons_succ]
            refine wpAnyH_take (i := 6) (oi := ?oiz79) (v := ?vz79) ?hiz79 (by kernel_rfl) (by kernel_rfl) (by kernel_rfl) ?hQz79 ?hyz79 (by assumption) ?restz79
            case hiz79 => simp only [List.getElem?_toArray, List.getElem?_cons_zero, List.getElem?_cons_succ]; rfl
            case hQz79 => exact fun _ _ _ h => h
            case hyz79 => exact Or.inl ⟨by rfl, by intro w hSw; (try dsimp only at hSw); go_simp; with_reducible rfl⟩
            try simp only [Act.put, List.setIfInBounds_toArray, List.set_cons_zero, List.set_cons_succ]
            refine wpAnyH_take (i := 7) (oi := ?oiz80) (v := ?vz80) ?hiz80 (by kernel_rfl) (by kernel_rfl) (by kernel_rfl) ?hQz80 ?hyz80 (by assumption) ?restz80
            case hiz80 => simp only [List.getElem?_toArray, List.getElem?_cons_zero, List.getElem?_cons_succ]; rfl
            case hQz80 => exact fun _ _ _ h => h
            case hyz80 => exact Or.inl ⟨by rfl, by intro w hSw; (try dsimp only at hSw); go_simp; with_reducible rfl⟩
            try simp only [Act.put, List.setIfInBounds_toArray, List.set_cons_zero, List.set_cons_succ]
            refine wpAnyH_done (by kernel_rfl) ?_ _
            clear d0 b0
            generalize w0.drew = wb at *
            have HXb := Lib.hid (HXa.out.trans hHeld)
            have HOb := Lib.hid (HOa.out.ext hHeld)
            clear hHeld
            have d0 := (HC.out wb HXb.out).1
            have d1 := (HC.out wb HXb.out).2
            go_wp2_with (first | (refine wpl_load ⟨g, o + k * 2, none⟩ [.string L[k].1, .string L[k].2] aggEntryI rfl _ rfl rfl (fun j u hu => by rw [Addr.add_lit]; match j, hu with | 0, hu => rw [Nat.add_zero, d0]; simpa using hu | 1, hu => rw [d1]; simpa using hu) ?_) | (at_builtin; refine wpl_append rowEnt rfl _ _ rfl (v := .slice C cn cc) rfl (HOb.out.alloc _) _ _ rfl (A := some ⟨wb.heap.size, 0, none⟩) (ys := [L[k]]) rfl (rd_ent wb L[k] _) (by intro y hy; obtain rfl := List.mem_singleton.1 hy; exact HX0.out) (by simp only [List.length_append, List.length_singleton]; omega) (HXb.out.alloc _).size ?_; intro vz wz ho1 hg1 hat1; obtain ⟨Cz, nz, cz, rfl⟩ := ho1.shape3; have HOz := Lib.hid ho1; have HXz := Lib.hid ((HOb.out.alloc (Obj.cells #[.string L[k].1, .string L[k].2] 67)).ext_app (HXb.out.alloc _) hg1); clear ho1 hg1 hat1))
            go_roundw
            case rel => exact ⟨k + 1, (R ++ [L[k]], false), by omega, by go_num, rfl, by rw [HN.out, HST.out, HQ.out], HOz.out, by simp; omega, HXz.out⟩
            case measure => simp [intOf]; omega
        | false =>
          cases h2 : (L[k].1.toList == e.1.toList) with
          | true =>
            have h1' : Op.bytesLess L[k].1.toList e.1.toList = false := by rw [ltB_eq]; exact h1
            have hnm : L[k].1 = e.1 := toList_inj (by simpa using h2)
            have HQ := Lib.hid (show putStep e (R, false) L[k] = (R ++ [e], true) by simp [putStep, h1, hnm, ltB_irrefl])
            clear h1 hnm
            have d0 : ∀ W, Ext wr W → W.cell? ⟨g, o + k * 2, none⟩ = some (.string L[k].1) := fun W hW => (HC.out W (HX.out.trans hW)).1
            have b0 : ∀ W, Ext wr W → W.cell? ⟨w.heap.size, 0, none⟩ = some (.string e.1) := fun W hW => (HB.out W (HX.out.trans hW)).1
            go_wp2_with fail
            refine wp_region_held_drew (S := fun W => Ext wr W) (by kernel_rfl) (Ext.refl _).drew (fun hHeld => ?_)
            refine wpAnyH_take (i := 0) (oi := ?oiz81) (v := ?vz81) ?hiz81 (by kernel_rfl) (by kernel_rfl) (by kernel_rfl) ?hQz81 ?hyz81 (by assumption) ?restz81
            case hiz81 => simp only [List.getElem?_toArray, List.getElem?_cons_zero, List.getElem?_cons_succ]; rfl
            case hQz81 => exact fun _ _ _ h => h
            case hyz81 => exact Or.inl ⟨by rfl, by intro w hSw; (try dsimp only at hSw); go_simp; with_reducible rfl⟩
            try simp only [Act.put, List.setIfInBounds_toArray, List.set_cons_zero, List.set_cons_succ]
            refine wpAnyH_take (i := 1) (oi := ?oiz82) (v := ?vz82) ?hiz82 (by kernel_rfl) (by kernel_rfl) (by kernel_rfl) ?hQz82 ?hyz82 (by assumption) ?restz82
            case hiz82 => simp only [List.getElem?_toArray, List.getElem?_cons_zero, List.getElem?_cons_succ]; rfl
            case hQz82 => exact fun _ _ _ h => h
            case hyz82 => exact Or.inl ⟨by rfl, by intro w hSw; (try dsimp only at hSw); go_simp; with_reducible rfl⟩
            try simp only [Act.put, List.setIfInBounds_toArray, List.set_cons_zero, List.set_cons_succ]
            refine wpAnyH_take (i := 2) (oi := ?oiz83) (v := ?vz83) ?hiz83 (by kernel_rfl) (by kernel_rfl) (by kernel_rfl) ?hQz83 ?hyz83 (by assumption) ?restz83
            case hiz83 => simp only [List.getElem?_toArray, List.getElem?_cons_zero, List.getElem?_cons_succ]; rfl
            case hQz83 => exact fun _ _ _ h => h
            case hyz83 => exact Or.inl ⟨by rfl, by intro w hSw; (try dsimp only at hSw); go_simp; with_reducible rfl⟩
            try simp only [Act.put, List.setIfInBounds_toArray, List.set_cons_zero, List.set_cons_succ]
            refine wpAnyH_take (i := 3) (oi := ?oiz84) (v := ?vz84) ?hiz84 (by kernel_rfl) (by kernel_rfl) (by kernel_rfl) ?hQz84 ?hyz84 (by assumption) ?restz84
            case hiz84 => simp only [List.getElem?_toArray, List.getElem?_cons_zero, List.getElem?_cons_succ]; rfl
            case hQz84 => exact fun _ _ _ h => h
            case hyz84 => exact Or.inl ⟨by rfl, by intro w hSw; (try dsimp only at hSw); go_simp; with_reducible rfl⟩
            try simp only [Act.put, List.setIfInBounds_toArray, List.set_cons_zero, List.set_cons_succ]
            refine wpAnyH_take (i := 4) (oi := ?oiz85) (v := ?vz85) ?hiz85 (by kernel_rfl) (by kernel_rfl) (by kernel_rfl) ?hQz85 ?hyz85 (by assumption) ?restz85
            case hiz85 => simp only [List.getElem?_toArray, List.getElem?_cons_zero, List.getElem?_cons_succ]; rfl
            case hQz85 => exact fun _ _ _ h => h
            case hyz85 => exact Or.inl ⟨by rfl, by intro w hSw; (try dsimp only at hSw); go_simp; with_reducible rfl⟩
            try simp only [Act.put, List.setIfInBounds_toArray, List.set_cons_zero, List.set_cons_succ]
            refine wpAnyH_take (i := 5) (oi := ?oiz86) (v := ?vz86) ?hiz86 (by kernel_rfl) (by kernel_rfl) (by kernel_rfl) ?hQz86 ?hyz86 (by assumption) ?restz86
            case hiz86 => simp only [List.getElem?_toArray, List.getElem?_cons_zero, List.getElem?_cons_succ]; rfl
            case hQz86 => exact fun _ _ _ h => h
            case hyz86 => exact Or.inl ⟨by rfl, by intro w hSw; (try dsimp only at hSw); go_simp; with_reducible rfl⟩
            try simp only [Act.put, List.setIfInBounds_toArray, List.set_cons_zero, List.set_cons_succ]
            refine wpAnyH_take (i := 6) (oi := ?oiz87) (v := ?vz87) ?hiz87 (by kernel_rfl) (by kernel_rfl) (by kernel_rfl) ?hQz87 ?hyz87 (by assumption) ?restz87
            case hiz87 => simp only [List.getElem?_toArray, List.getElem?_cons_zero, List.getElem?_cons_succ]; rfl
            case hQz87 => exact fun _ _ _ h => h
            case hyz87 => exact Or.inl ⟨by rfl, by intro w hSw; (try dsimp only at hSw); go_simp; with_reducible rfl⟩
            try simp only [Act.put, List.setIfInBounds_toArray, List.set_cons_zero, List.set_cons_succ]
            refine wpAnyH_take (i := 7) (oi := ?oiz88) (v := ?vz88) ?hiz88 (by kernel_rfl) (by kernel_rfl) (by kernel_rfl) ?hQz88 ?hyz88 (by assumption) ?restz88
            case hiz88 => simp only [List.getElem?_toArray, List.getElem?_cons_zero, List.getElem?_cons_succ]; rfl
            case hQz88 => exact fun _ _ _ h => h
            case hyz88 => exact Or.inl ⟨by rfl, by intro w hSw; (try dsimp only at hSw); go_simp; with_reducible rfl⟩
            try simp only [Act.put, List.setIfInBounds_toArray, List.set_cons_zero, List.set_cons_succ]
            refine wpAnyH_take (i := 8) (oi := ?oiz89) (v := ?vz89) ?hiz89 (by kernel_rfl) (by kernel_rfl) (by kernel_rfl) ?hQz89 ?hyz89 (by assumption) ?restz89
            case hiz89 => simp only [List.getElem?_toArray, List.getElem?_cons_zero, List.getElem?_cons_succ]; rfl
            case hQz89 => exact fun _ _ _ h => h
            case hyz89 => exact Or.inl ⟨by rfl, by intro w hSw; (try dsimp only at hSw); go_simp; with_reducible rfl⟩
            try simp only [Act.put, List.setIfInBounds_toArray, List.set_cons_zero, List.set_cons_succ]
            refine wpAnyH_take (i := 9) (oi := ?oiz90) (v := ?vz90) ?hiz90 (by kernel_rfl) (by kernel_rfl) (by kernel_rfl) ?hQz90 ?hyz90 (by assumption) ?restz90
            case hiz90 => simp only [List.getElem?_toArray, List.getElem?_cons_zero, List.getElem?_cons_succ]; rfl
            case hQz90 => exact fun _ _ _ h => h
            case hyz90 => exact Or.inl ⟨by rfl, by intro w hSw; (try dsimp only at hSw); go_simp; with_reducible rfl⟩
            try simp only [Act.put, List.setIfInBounds_toArray, List.set_cons_zero, List.set_cons_succ]
            refine wpAnyH_take (i := 10) (oi := ?oiz91) (v := ?vz91) ?hiz91 (by kernel_rfl) (by kernel_rfl) (by kernel_rfl) ?hQz91 ?hyz91 (by assumption) ?restz91
            case hiz91 => simp only [List.getElem?_toArray, List.getElem?_cons_zero, List.getElem?_cons_succ]; rfl
            case hQz91 => exact fun _ _ _ h => h
            case hyz91 => exact Or.inl ⟨by rfl, by intro w hSw; (try dsimp only at hSw); go_simp; with_reducible rfl⟩
            try simp only [Act.put, List.setIfInBounds_toArray, List.set_cons_zero, List.set_cons_succ]
            refine wpAnyH_take (i := 11) (oi := ?oiz92) (v := ?vz92) ?hiz92 (by kernel_rfl) (by kernel_rfl) (by kernel_rfl) ?hQz92 ?hyz92 (by assumption) ?restz92
            case hiz92 => simp only [List.getElem?_toArray, List.getElem?_cons_zero, List.getElem?_cons_succ]; rfl
            case hQz92 => exact fun _ _ _ h => h
            case hyz92 => exact Or.inl ⟨by rfl, by intro w hSw; (try dsimp only at hSw); go_simp; with_reducible rfl⟩
            try simp only [Act.put, List.setIfInBounds_toArray, List.set_cons_zero, List.set_cons_succ]
            refine wpAnyH_done (by kernel_rfl) ?_ _
            clear d0 b0
            generalize wr.drew = w0 at *
            have HXa := Lib.hid (HX.out.trans hHeld)
            have HOa := Lib.hid (HO.out.ext hHeld)
            clear hHeld HX HO
            have b0 := (HB.out w0 HXa.out).1
            have b1 := (HB.out w0 HXa.out).2
            go_wp2_with (first | (refine wpl_load ⟨w.heap.size, 0, none⟩ [.string e.1, .string e.2] aggEntryI rfl _ rfl rfl (fun j u hu => by rw [Addr.add_lit, Nat.zero_add]; match j, hu with | 0, hu => rw [b0]; simpa using hu | 1, hu => rw [b1]; simpa using hu) ?_) | (at_builtin; refine wpl_append rowEnt rfl _ _ rfl (v := .slice C cn cc) rfl (HOa.out.alloc _) _ _ rfl (A := some ⟨w0.heap.size, 0, none⟩) (ys := [e]) rfl (rd_ent w0 e _) (by intro y hy; obtain rfl := List.mem_singleton.1 hy; exact HE.out) (by simp only [List.length_append, List.length_singleton]; omega) (HXa.out.alloc _).size ?_; intro v9 w9 ho1 hg1 hat1; obtain ⟨C9, n9, c9, rfl⟩ := ho1.shape3; have HO9 := Lib.hid ho1; have HX9 := Lib.hid ((HOa.out.alloc (Obj.cells #[.string e.1, .string e.2] 67)).ext_app (HXa.out.alloc _) hg1); clear ho1 hg1 hat1))
            clear b0 b1
            have d0 : ∀ W, Ext w9 W → W.cell? ⟨g, o + k * 2, none⟩ = some (.string L[k].1) := fun W hW => (HC.out W (HX9.out.trans hW)).1
            have b0 : ∀ W, Ext w9 W → W.cell? ⟨w.heap.size, 0, none⟩ = some (.string e.1) := fun W hW => (HB.out W (HX9.out.trans hW)).1
            refine wp_region_held_drew (S := fun W => Ext w9 W) (by kernel_rfl) (Ext.refl _).drew (fun hHeld => ?_)
            refine wpAnyH_take (i := 0) (oi := ?oiz93) (v := ?vz93) ?hiz93 (by kernel_rfl) (by kernel_rfl) (by kernel_rfl) ?hQz93 ?hyz93 (by assumption) ?restz93
            case hiz93 => simp only [List.getElem?_toArray, List.getElem?_cons_zero, List.getElem?_cons_succ]; rfl
            case hQz93 => exact fun _ _ _ h => h
            case hyz93 => exact Or.inl ⟨by rfl, by intro w hSw; (try dsimp only at hSw); go_simp; with_reducible rfl⟩
            try simp only [Act.put, List.setIfInBounds_toArray, List.set_cons_zero, List.set_cons_succ]
            refine wpAnyH_take (i := 1) (oi := ?oiz94) (v := ?vz94) ?hiz94 (by kernel_rfl) (by kernel_rfl) (by kernel_rfl) ?hQz94 ?hyz94 (by assumption) ?restz94
            case hiz94 => simp only [List.getElem?_toArray, List.getElem?_cons_zero, List.getElem?_cons_succ]; rfl
            case hQz94 => exact fun _ _ _ h => h
            case hyz94 => exact Or.inl ⟨by rfl, by intro w hSw; (try dsimp only at hSw); go_simp; with_reducible rfl⟩
            try simp only [Act.put, List.setIfInBounds_toArray, List.set_cons_zero, List.set_cons_succ]
            refine wpAnyH_take (i := 2) (oi := ?oiz95) (v := ?vz95) ?hiz95 (by kernel_rfl) (by kernel_rfl) (by kernel_rfl) ?hQz95 ?hyz95 (by assumption) ?restz95
            case hiz95 => simp only [List.getElem?_toArray, List.getElem?_cons_zero, List.getElem?_cons_succ]; rfl
            case hQz95 => exact fun _ _ _ h => h
            case hyz95 => exact Or.inl ⟨by rfl, by intro w hSw; (try dsimp only at hSw); go_simp; with_reducible rfl⟩
            try simp only [Act.put, List.setIfInBounds_toArray, List.set_cons_zero, List.set_cons_succ]
            refine wpAnyH_take (i := 3) (oi := ?oiz96) (v := ?vz96) ?hiz96 (by kernel_rfl) (by kernel_rfl) (by kernel_rfl) ?hQz96 ?hyz96 (by assumption) ?restz96
            case hiz96 => simp only [List.getElem?_toArray, List.getElem?_cons_zero, List.getElem?_cons_succ]; rfl
            case hQz96 => exact fun _ _ _ h => h
            case hyz96 => exact Or.inl ⟨by rfl, by intro w hSw; (try dsimp only at hSw); go_simp; with_reducible rfl⟩
            try simp only [Act.put, List.setIfInBounds_toArray, List.set_cons_zero, List.set_cons_succ]
            refine wpAnyH_take (i := 4) (oi := ?oiz97) (v := ?vz97) ?hiz97 (by kernel_rfl) (by kernel_rfl) (by kernel_rfl) ?hQz97 ?hyz97 (by assumption) ?restz97
            case hiz97 => simp only [List.getElem?_toArray, List.getElem?_cons_zero, List.getElem?_cons_succ]; rfl
            case hQz97 => exact fun _ _ _ h => h
            case hyz97 => exact Or.inl ⟨by rfl, by intro w hSw; (try dsimp only at hSw); go_simp; with_reducible rfl⟩
            try simp only [Act.put, List.setIfInBounds_toArray, List.set_cons_zero, List.set_cons_succ]
            refine wpAnyH_take (i := 5) (oi := ?oiz98) (v := ?vz98) ?hiz98 (by kernel_rfl) (by kernel_rfl) (by kernel_rfl) ?hQz98 ?hyz98 (by assumption) ?restz98
            case hiz98 => simp only [List.getElem?_toArray, List.getElem?_cons_zero, List.getElem?_cons_succ]; rfl
            case hQz98 => exact fun _ _ _ h => h
            case hyz98 => exact Or.inl ⟨by rfl, by intro w hSw; (try dsimp only at hSw); go_simp; with_reducible rfl⟩
            try simp only [Act.put, List.setIfInBounds_toArray, List.set_cons_zero, List.set_cons_succ]
            refine wpAnyH_take (i := 6) (oi := ?oiz99) (v := ?vz99) ?hiz99 (by kernel_rfl) (by kernel_rfl) (by kernel_rfl) ?hQz99 ?hyz99 (by assumption) ?restz99
            case hiz99 => simp only [List.getElem?_toArray, List.getElem?_cons_zero, List.getElem?_cons_succ]; rfl
            case hQz99 => exact fun _ _ _ h => h
            case hyz99 => exact Or.inl ⟨by rfl, by intro w hSw; (try dsimp only at hSw); go_simp; with_reducible rfl⟩
            try simp only [Act.put, List.setIfInBounds_toArray, List.set_cons_zero, List.set_cons_succ]
            refine wpAnyH_take (i := 7) (oi := ?oiz100) (v := ?vz100) ?hiz100 (by kernel_rfl) (by kernel_rfl) (by kernel_rfl) ?hQz100 ?hyz100 (by assumption) ?restz100
            case hiz100 => simp only [List.getElem?_toArray, List.getElem?_cons_zero, List.getElem?_cons_succ]; rfl
            case hQz100 => exact fun _ _ _ h => h
            case hyz100 => exact Or.inl ⟨by rfl, by intro w hSw; (try dsimp only at hSw); go_simp; with_reducible rfl⟩
            try simp only [Act.put, List.setIfInBounds_toArray, List.set_cons_zero, List.set_cons_succ]
            refine wpAnyH_done (by kernel_rfl) ?_ _
            clear d0 b0
            generalize w9.drew = wb at *
            have HXb := Lib.hid (HX9.out.trans hHeld)
            have HOb := Lib.hid (HO9.out.ext hHeld)
            clear hHeld
            go_wp2
            go_roundw
            case rel => exact ⟨k + 1, (R ++ [e], true), by omega, by go_num, rfl, by rw [HN.out, HST.out, HQ.out], HOb.out, by simp; omega, HXb.out⟩
            case measure => simp [intOf]; omega
          | false =>
            have h1' : Op.bytesLess L[k].1.toList e.1.toList = false := by rw [ltB_eq]; exact h1
            have hnm : L[k].1 ≠ e.1 := fun q => by rw [q] at h2; simp at h2
            have HQ := Lib.hid (show putStep e (R, false) L[k] = (R ++ [e] ++ [L[k]], true) by simp [putStep, h1, hnm, ltB_irrefl])
            clear h1 hnm
            have d0 : ∀ W, Ext wr W → W.cell? ⟨g, o + k * 2, none⟩ = some (.string L[k].1) := fun W hW => (HC.out W (HX.out.trans hW)).1
            have b0 : ∀ W, Ext wr W → W.cell? ⟨w.heap.size, 0, none⟩ = some (.string e.1) := fun W hW => (HB.out W (HX.out.trans hW)).1
            go_wp2_with fail
            refine wp_region_held_drew (S := fun W => Ext wr W) (by kernel_rfl) (Ext.refl _).drew (fun hHeld => ?_)
            refine wpAnyH_take (i := 0) (oi := ?oiz101) (v := ?vz101) ?hiz101 (by kernel_rfl) (by kernel_rfl) (by kernel_rfl) ?hQz101 ?hyz101 (by assumption) ?restz101
            case hiz101 => simp only [List.getElem?_toArray, List.getElem?_cons_zero, List.getElem?_cons_succ]; rfl
            case hQz101 => exact fun _ _ _ h => h
            case hyz101 => exact Or.inl ⟨by rfl, by intro w hSw; (try dsimp only at hSw); go_simp; with_reducible rfl⟩
            try simp only [Act.put, List.setIfInBounds_toArray, List.set_cons_zero, List.set_cons_succ]
            refine wpAnyH_take (i := 1) (oi := ?oiz102) (v := ?vz102) ?hiz102 (by kernel_rfl) (by kernel_rfl) (by kernel_rfl) ?hQz102 ?hyz102 (by assumption) ?restz102
            case hiz102 => simp only [List.getElem?_toArray, List.getElem?_cons_zero, List.getElem?_cons_succ]; rfl
            case hQz102 => exact fun _ _ _ h => h
            case hyz102 => exact Or.inl ⟨by rfl, by intro w hSw; (try dsimp only at hSw); go_simp; with_reducible rfl⟩
            try simp only [Act.put, List.setIfInBounds_toArray, List.set_cons_zero, List.set_cons_succ]
            refine wpAnyH_take (i := 2) (oi := ?oiz103) (v := ?vz103) ?hiz103 (by kernel_rfl) (by kernel_rfl) (by kernel_rfl) ?hQz103 ?hyz103 (by assumption) ?restz103
            case hiz103 => simp only [List.getElem?_toArray, List.getElem?_cons_zero, List.getElem?_cons_succ]; rfl
            case hQz103 => exact fun _ _ _ h => h
            case hyz103 => exact Or.inl ⟨by rfl, by intro w hSw; (try dsimp only at hSw); go_simp; with_reducible rfl⟩
            try simp only [Act.put, List.setIfInBounds_toArray, List.set_cons_zero, List.set_cons_succ]
            refine wpAnyH_take (i := 3) (oi := ?oiz104) (v := ?vz104) ?hiz104 (by kernel_rfl) (by kernel_rfl) (by kernel_rfl) ?hQz104 ?hyz104 (by assumption) ?restz104
            case hiz104 => simp only [List.getElem?_toArray, List.getElem?_cons_zero, List.getElem?_cons_succ]; rfl
            case hQz104 => exact fun _ _ _ h => h
            case hyz104 => exact Or.inl ⟨by rfl, by intro w hSw; (try dsimp only at hSw); go_simp; with_reducible rfl⟩
            try simp only [Act.put, List.setIfInBounds_toArray, List.set_cons_zero, List.set_cons_succ]
            refine wpAnyH_take (i := 4) (oi := ?oiz105) (v := ?vz105) ?hiz105 (by kernel_rfl) (by kernel_rfl) (by kernel_rfl) ?hQz105 ?hyz105 (by assumption) ?restz105
            case hiz105 => simp only [List.getElem?_toArray, List.getElem?_cons_zero, List.getElem?_cons_succ]; rfl
            case hQz105 => exact fun _ _ _ h => h
            case hyz105 => exact Or.inl ⟨by rfl, by intro w hSw; (try dsimp only at hSw); go_simp; with_reducible rfl⟩
            try simp only [Act.put, List.setIfInBounds_toArray, List.set_cons_zero, List.set_cons_succ]
            refine wpAnyH_take (i := 5) (oi := ?oiz106) (v := ?vz106) ?hiz106 (by kernel_rfl) (by kernel_rfl) (by kernel_rfl) ?hQz106 ?hyz106 (by assumption) ?restz106
            case hiz106 => simp only [List.getElem?_toArray, List.getElem?_cons_zero, List.getElem?_cons_succ]; rfl
            case hQz106 => exact fun _ _ _ h => h
            case hyz106 => exact Or.inl ⟨by rfl, by intro w hSw; (try dsimp only at hSw); go_simp; with_reducible rfl⟩
            try simp only [Act.put, List.setIfInBounds_toArray, List.set_cons_zero, List.set_cons_succ]
            refine wpAnyH_take (i := 6) (oi := ?oiz107) (v := ?vz107) ?hiz107 (by kernel_rfl) (by kernel_rfl) (by kernel_rfl) ?hQz107 ?hyz107 (by assumption) ?restz107
            case hiz107 => simp only [List.getElem?_toArray, List.getElem?_cons_zero, List.getElem?_cons_succ]; rfl
            case hQz107 => exact fun _ _ _ h => h
            case hyz107 => exact Or.inl ⟨by rfl, by intro w hSw; (try dsimp only at hSw); go_simp; with_reducible rfl⟩
            try simp only [Act.put, List.setIfInBounds_toArray, List.set_cons_zero, List.set_cons_succ]
            refine wpAnyH_take (i := 7) (oi := ?oiz108) (v := ?vz108) ?hiz108 (by kernel_rfl) (by kernel_rfl) (by kernel_rfl) ?hQz108 ?hyz108 (by assumption) ?restz108
            case hiz108 => simp only [List.getElem?_toArray, List.getElem?_cons_zero, List.getElem?_cons_succ]; rfl
            case hQz108 => exact fun _ _ _ h => h
            case hyz108 => exact Or.inl ⟨by rfl, by intro w hSw; (try dsimp only at hSw); go_simp; with_reducible rfl⟩
            try simp only [Act.put, List.setIfInBounds_toArray, List.set_cons_zero, List.set_cons_succ]
            refine wpAnyH_take (i := 8) (oi := ?oiz109) (v := ?vz109) ?hiz109 (by kernel_rfl) (by kernel_rfl) (by kernel_rfl) ?hQz109 ?hyz109 (by assumption) ?restz109
            case hiz109 => simp only [List.getElem?_toArray, List.getElem?_cons_zero, List.getElem?_cons_succ]; rfl
            case hQz109 => exact fun _ _ _ h => h
            case hyz109 => exact Or.inl ⟨by rfl, by intro w hSw; (try dsimp only at hSw); go_simp; with_reducible rfl⟩
            try simp only [Act.put, List.setIfInBounds_toArray, List.set_cons_zero, List.set_cons_succ]
            refine wpAnyH_take (i := 9) (oi := ?oiz110) (v := ?vz110) ?hiz110 (by kernel_rfl) (by kernel_rfl) (by kernel_rfl) ?hQz110 ?hyz110 (by assumption) ?restz110
            case hiz110 => simp only [List.getElem?_toArray, List.getElem?_cons_zero, List.getElem?_cons_succ]; rfl
            case hQz110 => exact fun _ _ _ h => h
            case hyz110 => exact Or.inl ⟨by rfl, by intro w hSw; (try dsimp only at hSw); go_simp; with_reducible rfl⟩
            try simp only [Act.put, List.setIfInBounds_toArray, List.set_cons_zero, List.set_cons_succ]
            refine wpAnyH_take (i := 10) (oi := ?oiz111) (v := ?vz111) ?hiz111 (by kernel_rfl) (by kernel_rfl) (by kernel_rfl) ?hQz111 ?hyz111 (by assumption) ?restz111
            case hiz111 => simp only [List.getElem?_toArray, List.getElem?_cons_zero, List.getElem?_cons_succ]; rfl
            case hQz111 => exact fun _ _ _ h => h
            case hyz111 => exact Or.inl ⟨by rfl, by intro w hSw; (try dsimp only at hSw); go_simp; with_reducible rfl⟩
            try simp only [Act.put, List.setIfInBounds_toArray, List.set_cons_zero, List.set_cons_succ]
            refine wpAnyH_take (i := 11) (oi := ?oiz112) (v := ?vz112) ?hiz112 (by kernel_rfl) (by kernel_rfl) (by kernel_rfl) ?hQz112 ?hyz112 (by assumption) ?restz112
            case hiz112 => simp only [List.getElem?_toArray, List.getElem?_cons_zero, List.getElem?_cons_succ]; rfl
            case hQz112 => exact fun _ _ _ h => h
            case hyz112 => exact Or.inl ⟨by rfl, by intro w hSw; (try dsimp only at hSw); go_simp; with_reducible rfl⟩
            try simp only [Act.put, List.setIfInBounds_toArray, List.set_cons_zero, List.set_cons_succ]
            refine wpAnyH_done (by kernel_rfl) ?_ _
            clear d0 b0
            generalize wr.drew = w0 at *
            have HXa := Lib.hid (HX.out.trans hHeld)
            have HOa := Lib.hid (HO.out.ext hHeld)
            clear hHeld HX HO
            have b0 := (HB.out w0 HXa.out).1
            have b1 := (HB.out w0 HXa.out).2
            go_wp2_with (first | (refine wpl_load ⟨w.heap.size, 0, none⟩ [.string e.1, .string e.2] aggEntryI rfl _ rfl rfl (fun j u hu => by rw [Addr.add_lit, Nat.zero_add]; match j, hu with | 0, hu => rw [b0]; simpa using hu | 1, hu => rw [b1]; simpa using hu) ?_) | (at_builtin; refine wpl_append rowEnt rfl _ _ rfl (v := .slice C cn cc) rfl (HOa.out.alloc _) _ _ rfl (A := some ⟨w0.heap.size, 0, none⟩) (ys := [e]) rfl (rd_ent w0 e _) (by intro y hy; obtain rfl := List.mem_singleton.1 hy; exact HE.out) (by simp only [List.length_append, List.length_singleton]; omega) (HXa.out.alloc _).size ?_; intro v9 w9 ho1 hg1 hat1; obtain ⟨C9, n9, c9, rfl⟩ := ho1.shape3; have HO9 := Lib.hid ho1; have HX9 := Lib.hid ((HOa.out.alloc (Obj.cells #[.string e.1, .string e.2] 67)).ext_app (HXa.out.alloc _) hg1); clear ho1 hg1 hat1))
            clear b0 b1
            have d0 : ∀ W, Ext w9 W → W.cell? ⟨g, o + k * 2, none⟩ = some (.string L[k].1) := fun W hW => (HC.out W (HX9.out.trans hW)).1
            have b0 : ∀ W, Ext w9 W → W.cell? ⟨w.heap.size, 0, none⟩ = some (.string e.1) := fun W hW => (HB.out W (HX9.out.trans hW)).1
            refine wp_region_held_drew (S := fun W => Ext w9 W) (by kernel_rfl) (Ext.refl _).drew (fun hHeld => ?_)
            refine wpAnyH_take (i := 0) (oi := ?oiz113) (v := ?vz113) ?hiz113 (by kernel_rfl) (by kernel_rfl) (by kernel_rfl) ?hQz113 ?hyz113 (by assumption) ?restz113
            case hiz113 => simp only [List.getElem?_toArray, List.getElem?_cons_zero, List.getElem?_cons_succ]; rfl
            case hQz113 => exact fun _ _ _ h => h
            case hyz113 => exact Or.inl ⟨by rfl, by intro w hSw; (try dsimp only at hSw); go_simp; with_reducible rfl⟩
            try simp only [Act.put, List.setIfInBounds_toArray, List.set_cons_zero, List.set_cons_succ]
            refine wpAnyH_take (i := 1) (oi := ?oiz114) (v := ?vz114) ?hiz114 (by kernel_rfl) (by kernel_rfl) (by kernel_rfl) ?hQz114 ?hyz114 (by assumption) ?restz114
            case hiz114 => simp only [List.getElem?_toArray, List.getElem?_cons_zero, List.getElem?_cons_succ]; rfl
            case hQz114 => exact fun _ _ _ h => h
            case hyz114 => exact Or.inl ⟨by rfl, by intro w hSw; (try dsimp only at hSw); go_simp; with_reducible rfl⟩
            try simp only [Act.put, List.setIfInBounds_toArray, List.set_cons_zero, List.set_cons_succ]
            refine wpAnyH_take (i := 2) (oi := ?oiz115) (v := ?vz115) ?hiz115 (by kernel_rfl) (by kernel_rfl) (by kernel_rfl) ?hQz115 ?hyz115 (by assumption) ?restz115
            case hiz115 => simp only [List.getElem?_toArray, List.getElem?_cons_zero, List.getElem?_cons_succ]; rfl
            case hQz115 => exact fun _ _ _ h => h
            case hyz115 => exact Or.inl ⟨by rfl, by intro w hSw; (try dsimp only at hSw); go_simp; with_reducible rfl⟩
            try simp only [Act.put, List.setIfInBounds_toArray, List.set_cons_zero, List.set_cons_succ]
            refine wpAnyH_take (i := 3) (oi := ?oiz116) (v := ?vz116) ?hiz116 (by kernel_rfl) (by kernel_rfl) (by kernel_rfl) ?hQz116 ?hyz116 (by assumption) ?restz116
            case hiz116 => simp only [List.getElem?_toArray, List.getElem?_cons_zero, List.getElem?_cons_succ]; rfl
            case hQz116 => exact fun _ _ _ h => h
            case hyz116 => exact Or.inl ⟨by rfl, by intro w hSw; (try dsimp only at hSw); go_simp; with_reducible rfl⟩
            try simp only [Act.put, List.setIfInBounds_toArray, List.set_cons_zero, List.set_cons_succ]
            refine wpAnyH_take (i := 4) (oi := ?oiz117) (v := ?vz117) ?hiz117 (by kernel_rfl) (by kernel_rfl) (by kernel_rfl) ?hQz117 ?hyz117 (by assumption) ?restz117
            case hiz117 => simp only [List.getElem?_toArray, List.getElem?_cons_zero, List.getElem?_cons_succ]; rfl
            case hQz117 => exact fun _ _ _ h => h
            case hyz117 => exact Or.inl ⟨by rfl, by intro w hSw; (try dsimp only at hSw); go_simp; with_reducible rfl⟩
            try simp only [Act.put, List.setIfInBounds_toArray, List.set_cons_zero, List.set_cons_succ]
            refine wpAnyH_take (i := 5) (oi := ?oiz118) (v := ?vz118) ?hiz118 (by kernel_rfl) (by kernel_rfl) (by kernel_rfl) ?hQz118 ?hyz118 (by assumption) ?restz118
            case hiz118 => simp only [List.getElem?_toArray, List.getElem?_cons_zero, List.getElem?_cons_succ]; rfl
            case hQz118 => exact fun _ _ _ h => h
            case hyz118 => exact Or.inl ⟨by rfl, by intro w hSw; (try dsimp only at hSw); go_simp; with_reducible rfl⟩
            try simp only [Act.put, List.setIfInBounds_toArray, List.set_cons_zero, List.set_cons_succ]
            refine wpAnyH_take (i := 6) (oi := ?oiz119) (v := ?vz119) ?hiz119 (by kernel_rfl) (by kernel_rfl) (by kernel_rfl) ?hQz119 ?hyz119 (by assumption) ?restz119
            case hiz119 => simp only [List.getElem?_toArray, List.getElem?_cons_zero, List.getElem?_cons_succ]; rfl
            case hQz119 => exact fun _ _ _ h => h
            case hyz119 => exact Or.inl ⟨by rfl, by intro w hSw; (try dsimp only at hSw); go_simp; with_reducible rfl⟩
            try simp only [Act.put, List.setIfInBounds_toArray, List.set_cons_zero, List.set_cons_succ]
            refine wpAnyH_take (i := 7) (oi := ?oiz120) (v := ?vz120) ?hiz120 (by kernel_rfl) (by kernel_rfl) (by kernel_rfl) ?hQz120 ?hyz120 (by assumption) ?restz120
            case hiz120 => simp only [List.getElem?_toArray, List.getElem?_cons_zero, List.getElem?_cons_succ]; rfl
            case hQz120 => exact fun _ _ _ h => h
            case hyz120 => exact Or.inl ⟨by rfl, by intro w hSw; (try dsimp only at hSw); go_simp; with_reducible rfl⟩
            try simp only [Act.put, List.setIfInBounds_toArray, List.set_cons_zero, List.set_cons_succ]
            refine wpAnyH_done (by kernel_rfl) ?_ _
            clear d0 b0
            generalize w9.drew = wb at *
            have HXb := Lib.hid (HX9.out.trans hHeld)
            have HOb := Lib.hid (HO9.out.ext hHeld)
            clear hHeld
            have d0 := (HC.out wb HXb.out).1
            have d1 := (HC.out wb HXb.out).2
            go_wp2_with (first | (refine wpl_load ⟨g, o + k * 2, none⟩ [.string L[k].1, .string L[k].2] aggEntryI rfl _ rfl rfl (fun j u hu => by rw [Addr.add_lit]; match j, hu with | 0, hu => rw [Nat.add_zero, d0]; simpa using hu | 1, hu => rw [d1]; simpa using hu) ?_) | (at_builtin; refine wpl_append rowEnt rfl _ _ rfl (v := .slice C9 n9 c9) rfl (HOb.out.alloc _) _ _ rfl (A := some ⟨wb.heap.size, 0, none⟩) (ys := [L[k]]) rfl (rd_ent wb L[k] _) (by intro y hy; obtain rfl := List.mem_singleton.1 hy; exact HX0.out) (by simp only [List.length_append, List.length_singleton]; omega) (HXb.out.alloc _).size ?_; intro vz wz ho1 hg1 hat1; obtain ⟨Cz, nz, cz, rfl⟩ := ho1.shape3; have HOz := Lib.hid ho1; have HXz := Lib.hid ((HOb.out.alloc (Obj.cells #[.string L[k].1, .string L[k].2] 67)).ext_app (HXb.out.alloc _) hg1); clear ho1 hg1 hat1))
            go_roundw
            case rel => exact ⟨k + 1, (R ++ [e] ++ [L[k]], true), by omega, by go_num, rfl, by rw [HN.out, HST.out, HQ.out], HOz.out, by simp; omega, HXz.out⟩
            case measure => simp [intOf]; omega
    · obtain rfl : k = L.length := by omega
      rw [List.take_length] at HST
      have HF := Lib.hid (show putF e L = (R, fl) from HST.out)
      cases fl with
      | true =>
        go_wp2
        go_ret
        exact ⟨_, rfl, by rw [HF.out]; exact HO.out.le HXX.out.size, HXX.out.trans HX.out⟩
      | false =>
        have b0 := (HB.out wr HX.out).1
        have b1 := (HB.out wr HX.out).2
        go_wp2_with (first
          | (refine wpl_load ⟨w.heap.size, 0, none⟩ [.string e.1, .string e.2] aggEntryI rfl _ rfl rfl (fun j u hu => by rw [Addr.add_lit, Nat.zero_add]; match j, hu with | 0, hu => rw [b0]; simpa using hu | 1, hu => rw [b1]; simpa using hu) ?_)
          | (at_builtin; refine wpl_append rowEnt rfl _ _ rfl (v := .slice C cn cc) rfl (HO.out.alloc _) _ _ rfl (A := some ⟨wr.heap.size, 0, none⟩) (ys := [e]) rfl (rd_ent wr e _) (by intro y hy; obtain rfl := List.mem_singleton.1 hy; exact HE.out) (by simp only [List.length_append, List.length_singleton]; omega) (HX.out.alloc _).size ?_; intro v9 w9 ho1 hg1 hat1; obtain ⟨C9, n9, c9, rfl⟩ := ho1.shape3; have HO9 := Lib.hid ho1; have HX9 := Lib.hid ((HO.out.alloc (Obj.cells #[.string e.1, .string e.2] 67)).ext_app (HX.out.alloc _) hg1); clear ho1 hg1 hat1))
        go_ret
        exact ⟨_, rfl, by rw [HF.out]; exact HO9.out.le HXX.out.size, HXX.out.trans HX9.out⟩
end Go.Proofs.Ytbippohfinbngaa
