/- An entry set into a row of one's own: slices.Insert where there is no room. No condition. -/
import Derived.Test.YtbippohfinbngaaInsD
namespace Go.Proofs.Ytbippohfinbngaa
open Go.RowKit
set_option linter.unusedVariables false
set_option linter.unusedSimpArgs false


set_option maxHeartbeats 1000000 in
set_option maxRecDepth 100000 in
theorem insGrow_any (v : Value) (xs : List En) (k : Nat) (e : En) (he : tEnt.ok e) (w : World) (base p tp : Nat) (h : Own tEnt 67 w base v xs) (hk : k < xs.length) (h64 : xs.length ≤ 64) (hp : Blk w p tp #[.string e.1, .string e.2]) (hroom : ∃ A n c, v = .slice A n c ∧ c < xs.length + 1) :
    Calls Try.prog 123 #[v, .int .i64 k, .slice (some ⟨p, 0, none⟩) 1 1] w fun q w' => ∃ v', q = .returned v' ∧ Own tEnt 67 w' base v' (insR xs k e) ∧ w.grownBy w' v.ownBlock := by
  obtain ⟨g, cap, cur, rfl, hgb, hgl, hB, hcs, hnc, hcm, hat⟩ := at_of_own h (by omega)
  have HB := Lib.hid hB
  have HAT := Lib.hid hat
  have HOK := Lib.hid (insR_ok (k := k) he h.2.2)
  have HP := Lib.hid hp
  have HPL := Lib.hid hp.lt
  have h1 : (0 : Int) ≤ (k : Int) := by omega
  have h2 : (k : Int) ≤ (xs.length : Int) := by omega
  have h3 : (xs.length : Int) ≤ (cap : Int) := by omega
  have h4 : (k : Int) ≤ (cap : Int) := by omega
  have h5 : ((k : Int) == (xs.length : Int)) = false := by rw [beq_eq_false_iff_ne]; omega
  have h6 : (k : Int) + 1 ≤ (cap : Int) + 1 := by omega
  have h7 : ((1 : Int) == 0) = false := rfl
  have h8 : (k : Int) + 1 ≤ (xs.length : Int) + 1 := by omega
  have h9 : (0 : Int) ≤ (k : Int) + 1 := by omega
  have hdl : (xs.drop k).length = xs.length - k := by rw [List.length_drop]
  have htl : (xs.take k).length = k := by rw [List.length_take]; omega
  have hcel : ∀ j u, ((xs.drop k).flatMap tEnt.enc)[j]? = some u → cur[k * 2 + j]? = some u := cells_of_at (fun i hi => by
    rw [hdl] at hi
    rw [List.getElem_drop]
    exact hat _ _)
  have hcel2 : ∀ j u, ((xs.take k).flatMap tEnt.enc)[j]? = some u → cur[0 * 2 + j]? = some u := cells_of_at (fun i hi => by
    rw [htl] at hi
    simp only [Nat.zero_add]
    rw [List.getElem_take]
    exact hat _ _)
  have HC := Lib.hid hcel
  have HC2 := Lib.hid hcel2
  clear hB hat h hcel hcel2 he
  obtain ⟨A9, n9, c9, hv9, hr9⟩ := hroom
  obtain rfl : cap = c9 := by injection hv9
  clear hv9
  obtain rfl : cap = xs.length := by omega
  have m5 : (xs.length : Int) < (xs.length : Int) + 1 := by omega
  have m7 : IntKind.i64.wrap ((k : Int) + 1) = (k : Int) + 1 := by rw [IntKind.wrap_i64]; omega
  have m8 : IntKind.i64.wrap ((xs.length : Int) + 1) = (xs.length : Int) + 1 := by rw [IntKind.wrap_i64]; omega
  have hkk : (xs.length : Int) + 1 - (k : Int) = ((xs.length + 1 - k : Nat) : Int) := by omega
  have m9 : IntKind.i64.wrap ((xs.length : Int) + 1 - (k : Int)) = ((xs.length + 1 - k : Nat) : Int) := by rw [IntKind.wrap_i64]; omega
  have hik : k + (xs.length + 1 - k) = xs.length + 1 := by omega
  obtain ⟨i0, z, hi0, hz0, hzs, hzb, hzc⟩ := rowEnt.info
  have hzs2 : i0.size = 2 := hzs
  have hzc2 : z.cells.size = 2 := hzc
  have hltk : ((xs.take k).flatMap tEnt.enc).length = k * 2 := by rw [flat_len, htl]
  have hold : (Builtin.firstCells i0.size k (.slice (some ⟨g, 0, none⟩) k xs.length)).run Try.prog w.drew = .ok ((xs.take k).flatMap tEnt.enc).toArray w.drew := by
    rw [hzs2]
    exact run_firstCells_some w.drew 2 k ⟨g, 0, none⟩ k xs.length ((xs.take k).flatMap tEnt.enc) hltk (fun j u hj => by
      rw [Addr.add_lit]
      have hd : Blk w.drew g 67 cur := HB.out
      rw [hd.cell]
      simpa using HC2.out j u hj)
  obtain ⟨G, hG⟩ : ∃ G, G = grownCap w (xs.length + 1) xs.length 67 := ⟨_, rfl⟩
  have hGn : xs.length + 1 ≤ G := by rw [hG]; exact grownCap_ge w _ _ _
  have hGm : G ≤ maxLen := by rw [hG]; exact grownCap_le_maxLen w _ _ _ (by unfold maxLen; omega)
  obtain ⟨ROW, hROW⟩ : ∃ ROW : Array Value, ROW = ((xs.take k).flatMap tEnt.enc).toArray ++ Builtin.zeroCells z.cells (xs.length + 1 - k) ++ Builtin.zeroCells z.cells (G - (xs.length + 1)) := ⟨_, rfl⟩
  have hRs : ROW.size = G * 2 := by rw [hROW]; simp only [Array.size_append, size_zeroCells, List.size_toArray, hltk, hzc2]; omega
  have hRt : ∀ i (hi : i < k) (hx : i < xs.length), AtE ROW i xs[i] := fun i hi hx => by
    have hf := flat_ent (xs.take k) i (by rw [htl]; omega)
    rw [List.getElem_take] at hf
    rw [hROW]
    refine ⟨?_, ?_⟩
    · rw [Array.append_assoc, Array.getElem?_append_left (by simp only [List.size_toArray, hltk]; omega), List.getElem?_toArray]; exact hf.1
    · rw [Array.append_assoc, Array.getElem?_append_left (by simp only [List.size_toArray, hltk]; omega), List.getElem?_toArray]; exact hf.2
  have hrz : ∀ ty, (Builtin.append_ #[43, 3] ty #[.slice (some ⟨g, 0, none⟩) k xs.length, .int .i64 ((xs.length + 1 - k : Nat) : Int)]).run Try.prog w =
      .ok (.slice (some ⟨w.heap.size, 0, none⟩) (xs.length + 1) G) (w.drew.alloc (.cells ROW 67)) := fun ty => by
    have h := Lib.run_append_grow_zeros w 43 3 ty 67 i0 z .i64 .i64 Try.underlying43 (by kernel_rfl) hi0 hz0 (some ⟨g, 0, none⟩) k xs.length ((xs.take k).flatMap tEnt.enc) hold (xs.length + 1 - k) (by omega) (by rw [hzs2]; decide) (by omega) (by omega) (by rw [hzb]; omega) (by rw [hzb, hik]; exact growslice_fits (by omega) (by omega))
    rw [hik, ← hG, ← hROW] at h
    exact h
  have HRT := Lib.hid hRt
  clear hold hROW hG hi0 hz0 hzs hzb hzc hzs2 hzc2 hRt
  obtain ⟨w1, hw1⟩ : ∃ w1, w1 = w.drew.alloc (.cells ROW 67) := ⟨_, rfl⟩
  obtain ⟨N, hN⟩ : ∃ N, N = w.heap.size := ⟨_, rfl⟩
  have HNB := Lib.hid (show base ≤ N ∧ w.heap.size ≤ N ∧ p ≠ N ∧ g ≠ N by have := HPL.out; omega)
  have HX1 := Lib.hid (show Ext w w1 by rw [hw1]; exact (Ext.refl _).drew.alloc _)
  have HR1 := Lib.hid (show Blk w1 N 67 ROW by rw [hw1, hN]; exact Blk.new w.drew _ _)
  have HB1 := Lib.hid (HB.out.ext HX1.out)
  have HP1 := Lib.hid (HP.out.ext HX1.out)
  simp only [← hw1, ← hN] at hrz
  clear hw1 hN
  have hm1 : [e].length * 2 = Nat.min 1 (xs.length + 1 - k) * 2 := by simp only [Nat.min_def, List.length_singleton]; split <;> omega
  have hrun : ∀ ty c c', (Builtin.copy_ #[43, 43] ty #[.slice (some ⟨N, k * 2, none⟩) (xs.length + 1 - k) c, .slice (some ⟨p, 0, none⟩) 1 c']).run Try.prog w1 = .ok (goInt (Nat.min 1 (xs.length + 1 - k))) (w1.setRow N (splice ROW (k * 2) ([e].flatMap tEnt.enc))) := fun ty c c' =>
    run_copyE w1 _ _ ty 67 N (k * 2) _ c ⟨p, 0, none⟩ _ c' ROW _ _ Try.underlying43 sizeEnt HR1.out (by rw [flat_len]; exact hm1) (cells_box HP1.out) (by rw [flat_len, hRs]; simp only [List.length_singleton]; omega) (one_ents _)
  obtain ⟨ROW1, hROW1⟩ : ∃ ROW1, splice ROW (k * 2) ([e].flatMap tEnt.enc) = ROW1 := ⟨_, rfl⟩
  have hR1s : ROW1.size = G * 2 := by rw [← hROW1, splice_size _ _ _ (by rw [flat_len, hRs]; simp only [List.length_singleton]; omega), hRs]
  have HROW1 := Lib.hid hROW1
  simp only [hROW1] at hrun
  obtain ⟨w2, hw2⟩ : ∃ w2, w2 = w1.setRow N ROW1 := ⟨_, rfl⟩
  have HX2 := Lib.hid (show Ext w w2 by rw [hw2]; exact HX1.out.setRow HNB.out.2.1 _)
  have HR2 := Lib.hid (show Blk w2 N 67 ROW1 by rw [hw2]; exact HR1.out.setRow _)
  have HB2 := Lib.hid (show Blk w2 g 67 cur by rw [hw2]; exact HB1.out.row_far HNB.out.2.2.2 _)
  simp only [← hw2] at hrun
  clear hw2 hROW1
  have mG1 : ¬ G = k := by omega
  have mG2 : ¬ G = k + 1 := by omega
  have mG3 : ¬ xs.length = k := by omega
  have mG4 : (k : Int) ≤ (xs.length : Int) + 1 := by omega
  have mG5 : (k : Int) ≤ (G : Int) := by omega
  have mG6 : (k : Int) + 1 ≤ (G : Int) := by omega
  have mG7 : (xs.length : Int) + 1 ≤ (G : Int) := by omega
  go_enter Try.func123, Try.ntmps123
  go_wp2_with (first
    | (at_builtin; refine Lib.wpList_append_run _ rfl _ _ _ _ rfl _ _ rfl rfl _ _ (hrz _) ?_)
    | (at_builtin; refine wpl_copyRun rfl _ _ rfl rfl rfl (hrun _ _ _) ?_))
  have HB0 := Lib.hid (show Blk w2.drew g 67 cur from HB2.out)
  have HR0 := Lib.hid (show Blk w2.drew N 67 ROW1 from HR2.out)
  refine wp_region_held_drew (S := fun W => Ext w W) (by kernel_rfl) HX2.out.drew (fun hHeld => ?_)
  generalize w2.drew = w0 at hHeld HB0 HR0 ⊢
  refine wpAnyH_take (i := 0) (oi := ?oig0) (v := ?vg0) ?hig0 (by kernel_rfl) (by kernel_rfl) (by kernel_rfl) ?hQg0 ?hyg0 (by assumption) ?restg0
  case hig0 => simp only [List.getElem?_toArray, List.getElem?_cons_zero, List.getElem?_cons_succ]; rfl
  case hQg0 => exact fun _ _ _ h => h
  case hyg0 => exact Or.inl ⟨by rfl, by intro w hSw; (try dsimp only at hSw); go_simp; with_reducible rfl⟩
  try simp only [Act.put, List.setIfInBounds_toArray, List.set_cons_zero, List.set_cons_succ]
  refine wpAnyH_take (i := 1) (oi := ?oig1) (v := ?vg1) ?hig1 (by kernel_rfl) (by kernel_rfl) (by kernel_rfl) ?hQg1 ?hyg1 (by assumption) ?restg1
  case hig1 => simp only [List.getElem?_toArray, List.getElem?_cons_zero, List.getElem?_cons_succ]; rfl
  case hQg1 => exact fun _ _ _ h => h
  case hyg1 => exact Or.inl ⟨by rfl, by intro w hSw; (try dsimp only at hSw); go_simp; with_reducible rfl⟩
  try simp only [Act.put, List.setIfInBounds_toArray, List.set_cons_zero, List.set_cons_succ]
  refine wpAnyH_take (i := 2) (oi := ?oig2) (v := ?vg2) ?hig2 (by kernel_rfl) (by kernel_rfl) (by kernel_rfl) ?hQg2 ?hyg2 (by assumption) ?restg2
  case hig2 => simp only [List.getElem?_toArray, List.getElem?_cons_zero, List.getElem?_cons_succ]; rfl
  case hQg2 => exact fun _ _ _ h => h
  case hyg2 => exact Or.inl ⟨by rfl, by intro w hSw; (try dsimp only at hSw); go_simp; with_reducible rfl⟩
  try simp only [Act.put, List.setIfInBounds_toArray, List.set_cons_zero, List.set_cons_succ]
  refine wpAnyH_take (i := 3) (oi := ?oig3) (v := ?vg3) ?hig3 (by kernel_rfl) (by kernel_rfl) (by kernel_rfl) ?hQg3 ?hyg3 (by assumption) ?restg3
  case hig3 => simp only [List.getElem?_toArray, List.getElem?_cons_zero, List.getElem?_cons_succ]; rfl
  case hQg3 => exact fun _ _ _ h => h
  case hyg3 => exact Or.inl ⟨by rfl, by intro w hSw; (try dsimp only at hSw); go_simp; with_reducible rfl⟩
  try simp only [Act.put, List.setIfInBounds_toArray, List.set_cons_zero, List.set_cons_succ]
  refine wpAnyH_take (i := 4) (oi := ?oig4) (v := ?vg4) ?hig4 (by kernel_rfl) (by kernel_rfl) (by kernel_rfl) ?hQg4 ?hyg4 (by assumption) ?restg4
  case hig4 => simp only [List.getElem?_toArray, List.getElem?_cons_zero, List.getElem?_cons_succ]; rfl
  case hQg4 => exact fun _ _ _ h => h
  case hyg4 => exact Or.inl ⟨by rfl, by intro w hSw; (try dsimp only at hSw); go_simp; with_reducible rfl⟩
  try simp only [Act.put, List.setIfInBounds_toArray, List.set_cons_zero, List.set_cons_succ]
  refine wpAnyH_take (i := 5) (oi := ?oig5) (v := ?vg5) ?hig5 (by kernel_rfl) (by kernel_rfl) (by kernel_rfl) ?hQg5 ?hyg5 (by assumption) ?restg5
  case hig5 => simp only [List.getElem?_toArray, List.getElem?_cons_zero, List.getElem?_cons_succ]; rfl
  case hQg5 => exact fun _ _ _ h => h
  case hyg5 => exact Or.inl ⟨by rfl, by intro w hSw; (try dsimp only at hSw); go_simp; with_reducible rfl⟩
  try simp only [Act.put, List.setIfInBounds_toArray, List.set_cons_zero, List.set_cons_succ]
  refine wpAnyH_take (i := 6) (oi := ?oig6) (v := ?vg6) ?hig6 (by kernel_rfl) (by kernel_rfl) (by kernel_rfl) ?hQg6 ?hyg6 (by assumption) ?restg6
  case hig6 => simp only [List.getElem?_toArray, List.getElem?_cons_zero, List.getElem?_cons_succ]; rfl
  case hQg6 => exact fun _ _ _ h => h
  case hyg6 => exact Or.inl ⟨by rfl, by intro w hSw; (try dsimp only at hSw); go_simp; with_reducible rfl⟩
  try simp only [Act.put, List.setIfInBounds_toArray, List.set_cons_zero, List.set_cons_succ]
  refine wpAnyH_take (i := 7) (oi := ?oig7) (v := ?vg7) ?hig7 (by kernel_rfl) (by kernel_rfl) (by kernel_rfl) ?hQg7 ?hyg7 (by assumption) ?restg7
  case hig7 => simp only [List.getElem?_toArray, List.getElem?_cons_zero, List.getElem?_cons_succ]; rfl
  case hQg7 => exact fun _ _ _ h => h
  case hyg7 => exact Or.inl ⟨by rfl, by intro w hSw; (try dsimp only at hSw); go_simp; with_reducible rfl⟩
  try simp only [Act.put, List.setIfInBounds_toArray, List.set_cons_zero, List.set_cons_succ]
  have hl1 : ((xs.drop k).flatMap tEnt.enc).length = (xs.length - k) * 2 := by rw [flat_len, hdl]
  have hmm : (xs.length - k) * 2 = Nat.min (xs.length - k) (xs.length - k) * 2 := by simp only [Nat.min_def]; split <;> omega
  have hrun2 : ∀ ty c c', (Builtin.copy_ #[43, 43] ty #[.slice (some ⟨N, (k + 1) * 2, none⟩) (xs.length - k) c, .slice (some ⟨g, k * 2, none⟩) (xs.length - k) c']).run Try.prog w0 = .ok (goInt (Nat.min (xs.length - k) (xs.length - k))) (w0.setRow N (splice ROW1 ((k + 1) * 2) ((xs.drop k).flatMap tEnt.enc))) := fun ty c c' =>
    run_copyE w0 _ _ ty 67 N ((k + 1) * 2) _ c ⟨g, k * 2, none⟩ _ c' ROW1 _ _ Try.underlying43 sizeEnt HR0.out (by rw [hl1]; exact hmm) (fun j u hu => by rw [Addr.add_lit, HB0.out.cell]; exact HC.out j u hu) (by rw [hl1, hR1s]; omega) (one_ents _)
  refine wpAnyH_ready (rs := [8]) (by kernel_rfl) (by simp) (AllReadyH.cons (o := ?og8) ?hg8 (fun K hK => ?sg8) AllReadyH.nil)
  case hg8 => simp only [List.getElem?_toArray, List.getElem?_cons_zero, List.getElem?_cons_succ]; rfl
  refine stp_copyRun rfl (.tmp 50) (.tmp 53) rfl rfl rfl (hrun2 _ _ _) ?_
  have hH2 := hHeld.setRow HNB.out.2.1 (splice ROW1 ((k + 1) * 2) ((xs.drop k).flatMap tEnt.enc))
  have HR3 := Lib.hid (HR0.out.setRow (splice ROW1 ((k + 1) * 2) ((xs.drop k).flatMap tEnt.enc)))
  have HH2 := Lib.hid hH2
  refine hK.out _ _ hH2 (fun _ => ?_)
  clear hHeld hK K
  try simp only [Act.put, List.setIfInBounds_toArray, List.set_cons_zero, List.set_cons_succ]
  refine wpAnyH_done (by kernel_rfl) ?_ _
  clear hH2
  go_wp2
  go_ret
  refine ⟨_, rfl, ?_, ext_grown _ HH2.out⟩
  have hL := insR_length e (show k ≤ xs.length by omega)
  have hz2 : (splice ROW1 ((k + 1) * 2) ((xs.drop k).flatMap tEnt.enc)).size = G * 2 := by rw [splice_size _ _ _ (by rw [hl1, hR1s]; omega), hR1s]
  have hfit1 : k * 2 + [e].length * 2 ≤ ROW.size := by rw [hRs]; simp only [List.length_singleton]; omega
  have hfit2 : (k + 1) * 2 + (xs.drop k).length * 2 ≤ ROW1.size := by rw [hdl, hR1s]; omega
  have := own_of_at (base := base) (cap := G) (xs := insR xs k e) HR3.out HNB.out.1 hz2 (by rw [hL]; omega) hGm (by rw [hL]; omega) HOK.out
    (at_ins (show k ≤ xs.length by omega)
      (fun i hi hx => at_out hfit2 (.inl (by omega)) (by rw [← HROW1.out]; exact at_out hfit1 (.inl (by omega)) (HRT.out i hi hx)))
      (at_out hfit2 (.inl (by omega)) (by rw [← HROW1.out]; exact at_in hfit1 0 (by simp)))
      (fun i hi => by have := at_in hfit2 i (by rw [hdl]; omega); rwa [List.getElem_drop] at this))
  rw [hL] at this
  exact this
end Go.Proofs.Ytbippohfinbngaa
