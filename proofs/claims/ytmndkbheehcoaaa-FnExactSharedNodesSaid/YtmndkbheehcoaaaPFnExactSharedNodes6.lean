/- What the walk of the law FnExactSharedNodes needs, part 6 of 7. No condition. -/
import Derived.Test.YtmndkbheehcoaaaPFnExactSharedNodes5
/- An entry set into a row of one's own: slices.Insert where there is room. No condition. -/
namespace Go.Proofs.Ytmndkbheehcoaaa
open Go.RowKit
set_option linter.unusedVariables false
set_option linter.unusedSimpArgs false


set_option maxHeartbeats 1000000 in
set_option maxRecDepth 100000 in
theorem insRoom_any (v : Value) (xs : List En) (k : Nat) (e : En) (he : tEnt.ok e) (w : World) (base p tp : Nat) (h : Own tEnt 29 w base v xs) (hk : k < xs.length) (h64 : xs.length ≤ 64) (hp : Blk w p tp #[.string e.1, .string e.2]) (hfar : v.ownBlock ≠ some p) (hroom : ∃ A n c, v = .slice A n c ∧ xs.length + 1 ≤ c) :
    Calls Try.prog 161 #[v, .int .i64 k, .slice (some ⟨p, 0, none⟩) 1 1] w fun q w' => ∃ v', q = .returned v' ∧ Own tEnt 29 w' base v' (insR xs k e) ∧ w.grownBy w' v.ownBlock := by
  obtain ⟨g, cap, cur, rfl, hgb, hgl, hB, hcs, hnc, hcm, hat⟩ := at_of_own h (by omega)
  have HB := Lib.hid hB
  have HAT := Lib.hid hat
  have HOK := Lib.hid (insR_ok (k := k) he h.2.2)
  have HP := Lib.hid hp
  have HPL := Lib.hid hp.lt
  have h1 : (0 : Int) ≤ (k : Int) := by omega
  have h2 : (k : Int) ≤ (xs.length : Int) := by omega
  have h3 : (xs.length : Int) ≤ (cap : Int) := by omega
  have h4 : (k : Int) ≤ (cap : Int) := by omega
  have h5 : ((k : Int) == (xs.length : Int)) = false := by rw [beq_eq_false_iff_ne]; omega
  have h6 : (k : Int) + 1 ≤ (cap : Int) + 1 := by omega
  have h7 : ((1 : Int) == 0) = false := rfl
  have h8 : (k : Int) + 1 ≤ (xs.length : Int) + 1 := by omega
  have h9 : (0 : Int) ≤ (k : Int) + 1 := by omega
  have hdl : (xs.drop k).length = xs.length - k := by rw [List.length_drop]
  have htl : (xs.take k).length = k := by rw [List.length_take]; omega
  have hcel : ∀ j u, ((xs.drop k).flatMap tEnt.enc)[j]? = some u → cur[k * 2 + j]? = some u := cells_of_at (fun i hi => by
    rw [hdl] at hi
    rw [List.getElem_drop]
    exact hat _ _)
  have hcel2 : ∀ j u, ((xs.take k).flatMap tEnt.enc)[j]? = some u → cur[0 * 2 + j]? = some u := cells_of_at (fun i hi => by
    rw [htl] at hi
    simp only [Nat.zero_add]
    rw [List.getElem_take]
    exact hat _ _)
  have HC := Lib.hid hcel
  have HC2 := Lib.hid hcel2
  clear hB hat h hcel hcel2 he
  have hfar2 : p ≠ g := fun e => hfar (by rw [e]; rfl)
  obtain ⟨A9, n9, c9, hv9, hr9⟩ := hroom
  obtain rfl : cap = c9 := by injection hv9
  clear hv9 hfar
  have m1 : (xs.length : Int) + 1 ≤ (cap : Int) := by omega
  have m2 : (k : Int) + 1 ≤ (cap : Int) := by omega
  have m3 : ¬ cap = k + 1 := by omega
  have m4 : ¬ cap = k := by omega
  have m5 : ¬ (cap : Int) < (xs.length : Int) + 1 := by omega
  have m6 : (k : Int) ≤ (xs.length : Int) + 1 := by omega
  have m7 : IntKind.i64.wrap ((k : Int) + 1) = (k : Int) + 1 := by rw [IntKind.wrap_i64]; simp only [maxLen] at hcm; omega
  have m8 : IntKind.i64.wrap ((xs.length : Int) + 1) = (xs.length : Int) + 1 := by rw [IntKind.wrap_i64]; omega
  have hov : ∀ W, Blk W p tp #[.string e.1, .string e.2] → Blk W g 29 cur → ∀ lb cb, (callFunc 174 #[.slice (some ⟨p, 0, none⟩) 1 1, .slice (some ⟨g, (k + 1) * 2, none⟩) lb cb]).run Try.prog W = .ok (.value (.bool false)) W := fun W h1 h2 lb cb => by
    rw [run_callFunc_extern Try.func174 (by kernel_rfl) (by kernel_rfl) (by kernel_rfl) (e := Extern.SlicesOverlaps.overlaps #[34, 34] #[4]) (by kernel_rfl),
      Lib.run_overlaps_apart W 34 4 29 Try.underlying34 2 (fun w => by
        cases hq : Try.prog.info? 29 with
        | none => have := sizeEnt; simp [hq] at this
        | some i => have hi : i.size = 2 := by have := sizeEnt; simpa [hq] using this
                    simp [sizeOf, typeInfo, hq, hi]) ⟨p, 0, none⟩ ⟨g, (k + 1) * 2, none⟩ 1 1 lb cb hfar2 tp 29 2 cur.size (shape_blk h1) (shape_blk h2) (by omega) (h1.free _) (h1.free _)]
    rfl
  have hov2 := hov w HP.out HB.out
  clear hov
  go_enter Try.func161, Try.ntmps161
  go_wp2_with fail
  have HB0 := Lib.hid (show Blk w.drew g 29 cur from HB.out)
  have HP0 := Lib.hid (show Blk w.drew p tp #[.string e.1, .string e.2] from HP.out)
  refine wp_region_held_drew (S := fun W => w.grownBy W (some g)) (by kernel_rfl) (ext_grown _ (Ext.refl _).drew) (fun hHeld => ?_)
  generalize w.drew = w0 at hHeld HB0 HP0 ⊢
  refine wpAnyH_take (i := 0) (oi := ?oir0) (v := ?vr0) ?hir0 (by kernel_rfl) (by kernel_rfl) (by kernel_rfl) ?hQr0 ?hyr0 (by assumption) ?restr0
  case hir0 => simp only [List.getElem?_toArray, List.getElem?_cons_zero, List.getElem?_cons_succ]; rfl
  case hQr0 => exact fun _ _ _ h => h
  case hyr0 => exact Or.inl ⟨by rfl, by intro w hSw; (try dsimp only at hSw); go_simp; with_reducible rfl⟩
  try simp only [Act.put, List.setIfInBounds_toArray, List.set_cons_zero, List.set_cons_succ]
  refine wpAnyH_take (i := 1) (oi := ?oir1) (v := ?vr1) ?hir1 (by kernel_rfl) (by kernel_rfl) (by kernel_rfl) ?hQr1 ?hyr1 (by assumption) ?restr1
  case hir1 => simp only [List.getElem?_toArray, List.getElem?_cons_zero, List.getElem?_cons_succ]; rfl
  case hQr1 => exact fun _ _ _ h => h
  case hyr1 => exact Or.inl ⟨by rfl, by intro w hSw; (try dsimp only at hSw); go_simp; with_reducible rfl⟩
  try simp only [Act.put, List.setIfInBounds_toArray, List.set_cons_zero, List.set_cons_succ]
  refine wpAnyH_take (i := 2) (oi := ?oir2) (v := ?vr2) ?hir2 (by kernel_rfl) (by kernel_rfl) (by kernel_rfl) ?hQr2 ?hyr2 (by assumption) ?restr2
  case hir2 => simp only [List.getElem?_toArray, List.getElem?_cons_zero, List.getElem?_cons_succ]; rfl
  case hQr2 => exact fun _ _ _ h => h
  case hyr2 => exact Or.inl ⟨by rfl, by intro w hSw; (try dsimp only at hSw); go_simp; with_reducible rfl⟩
  try simp only [Act.put, List.setIfInBounds_toArray, List.set_cons_zero, List.set_cons_succ]
  refine wpAnyH_take (i := 3) (oi := ?oir3) (v := ?vr3) ?hir3 (by kernel_rfl) (by kernel_rfl) (by kernel_rfl) ?hQr3 ?hyr3 (by assumption) ?restr3
  case hir3 => simp only [List.getElem?_toArray, List.getElem?_cons_zero, List.getElem?_cons_succ]; rfl
  case hQr3 => exact fun _ _ _ h => h
  case hyr3 => exact Or.inl ⟨by rfl, by intro w hSw; (try dsimp only at hSw); go_simp; with_reducible rfl⟩
  try simp only [Act.put, List.setIfInBounds_toArray, List.set_cons_zero, List.set_cons_succ]
  refine wpAnyH_take (i := 4) (oi := ?oir4) (v := ?vr4) ?hir4 (by kernel_rfl) (by kernel_rfl) (by kernel_rfl) ?hQr4 ?hyr4 (by assumption) ?restr4
  case hir4 => simp only [List.getElem?_toArray, List.getElem?_cons_zero, List.getElem?_cons_succ]; rfl
  case hQr4 => exact fun _ _ _ h => h
  case hyr4 => exact Or.inl ⟨by rfl, by intro w hSw; (try dsimp only at hSw); go_simp; with_reducible rfl⟩
  try simp only [Act.put, List.setIfInBounds_toArray, List.set_cons_zero, List.set_cons_succ]
  refine wpAnyH_take (i := 5) (oi := ?oir5) (v := ?vr5) ?hir5 (by kernel_rfl) (by kernel_rfl) (by kernel_rfl) ?hQr5 ?hyr5 (by assumption) ?restr5
  case hir5 => simp only [List.getElem?_toArray, List.getElem?_cons_zero, List.getElem?_cons_succ]; rfl
  case hQr5 => exact fun _ _ _ h => h
  case hyr5 => exact Or.inl ⟨by rfl, by intro w hSw; (try dsimp only at hSw); go_simp; with_reducible rfl⟩
  try simp only [Act.put, List.setIfInBounds_toArray, List.set_cons_zero, List.set_cons_succ]
  refine wpAnyH_take (i := 6) (oi := ?oir6) (v := ?vr6) ?hir6 (by kernel_rfl) (by kernel_rfl) (by kernel_rfl) ?hQr6 ?hyr6 (by assumption) ?restr6
  case hir6 => simp only [List.getElem?_toArray, List.getElem?_cons_zero, List.getElem?_cons_succ]; rfl
  case hQr6 => exact fun _ _ _ h => h
  case hyr6 => exact Or.inl ⟨by rfl, by intro w hSw; (try dsimp only at hSw); go_simp; with_reducible rfl⟩
  try simp only [Act.put, List.setIfInBounds_toArray, List.set_cons_zero, List.set_cons_succ]
  refine wpAnyH_take (i := 7) (oi := ?oir7) (v := ?vr7) ?hir7 (by kernel_rfl) (by kernel_rfl) (by kernel_rfl) ?hQr7 ?hyr7 (by assumption) ?restr7
  case hir7 => simp only [List.getElem?_toArray, List.getElem?_cons_zero, List.getElem?_cons_succ]; rfl
  case hQr7 => exact fun _ _ _ h => h
  case hyr7 => exact Or.inl ⟨by rfl, by intro w hSw; (try dsimp only at hSw); go_simp; with_reducible rfl⟩
  try simp only [Act.put, List.setIfInBounds_toArray, List.set_cons_zero, List.set_cons_succ]
  have hl1 : ((xs.drop k).flatMap tEnt.enc).length = (xs.length - k) * 2 := by rw [flat_len, hdl]
  have hmm : (xs.length - k) * 2 = Nat.min (xs.length + 1 - k) (xs.length - k) * 2 := by simp only [Nat.min_def]; split <;> omega
  have hrun : ∀ ty c c', (Builtin.copy_ #[34, 34] ty #[.slice (some ⟨g, (k + 1) * 2, none⟩) (xs.length - k) c, .slice (some ⟨g, k * 2, none⟩) (xs.length + 1 - k) c']).run Try.prog w0 = .ok (goInt (Nat.min (xs.length + 1 - k) (xs.length - k))) (w0.setRow g (splice cur ((k + 1) * 2) ((xs.drop k).flatMap tEnt.enc))) := fun ty c c' =>
    run_copyE w0 _ _ ty 29 g ((k + 1) * 2) _ c ⟨g, k * 2, none⟩ _ c' cur _ _ Try.underlying34 sizeEnt HB0.out (by rw [hl1]; exact hmm) (fun j u hu => by rw [Addr.add_lit, HB0.out.cell]; exact HC.out j u hu) (by rw [hl1, hcs]; omega) (one_ents _)
  refine wpAnyH_ready (rs := [8]) (by kernel_rfl) (by simp) (AllReadyH.cons (o := ?or8) ?hr8 (fun K hK => ?sr8) AllReadyH.nil)
  case hr8 => simp only [List.getElem?_toArray, List.getElem?_cons_zero, List.getElem?_cons_succ]; rfl
  refine stp_copyRun rfl (.tmp 73) (.tmp 76) rfl rfl rfl (hrun _ _ _) ?_
  have hH2 := grown_row hHeld (g := g) (splice cur ((k + 1) * 2) ((xs.drop k).flatMap tEnt.enc))
  have HB1 := Lib.hid (HB0.out.setRow (splice cur ((k + 1) * 2) ((xs.drop k).flatMap tEnt.enc)))
  have HP1 := Lib.hid (HP0.out.row_far (g' := g) hfar2 (splice cur ((k + 1) * 2) ((xs.drop k).flatMap tEnt.enc)))
  have HH2 := Lib.hid hH2
  obtain ⟨w1, hw1⟩ : ∃ w1, w1 = w0.setRow g (splice cur ((k + 1) * 2) ((xs.drop k).flatMap tEnt.enc)) := ⟨_, rfl⟩
  simp only [← hw1] at hH2 HB1 HP1 HH2 hK ⊢
  refine hK.out _ _ hH2 (fun _ => ?_)
  clear hHeld hK K
  try simp only [Act.put, List.setIfInBounds_toArray, List.set_cons_zero, List.set_cons_succ]
  refine wpAnyH_done (by kernel_rfl) ?_ _
  clear hrun hw1 hH2 HB0 HP0
  obtain ⟨cur1, hc1⟩ : ∃ cur1, splice cur ((k + 1) * 2) ((xs.drop k).flatMap tEnt.enc) = cur1 := ⟨_, rfl⟩
  have hs1 : cur1.size = cap * 2 := by rw [← hc1, splice_size _ _ _ (by rw [hl1, hcs]; omega), hcs]
  have HC1 := Lib.hid hc1
  rw [hc1] at HB1
  clear hc1
  have hm1 : [e].length * 2 = Nat.min 1 (xs.length + 1 - k) * 2 := by simp only [Nat.min_def, List.length_singleton]; split <;> omega
  have hrun : ∀ ty c c', (Builtin.copy_ #[34, 34] ty #[.slice (some ⟨g, k * 2, none⟩) (xs.length + 1 - k) c, .slice (some ⟨p, 0, none⟩) 1 c']).run Try.prog w1 = .ok (goInt (Nat.min 1 (xs.length + 1 - k))) (w1.setRow g (splice cur1 (k * 2) ([e].flatMap tEnt.enc))) := fun ty c c' =>
    run_copyE w1 _ _ ty 29 g (k * 2) _ c ⟨p, 0, none⟩ _ c' cur1 _ _ Try.underlying34 sizeEnt HB1.out (by rw [flat_len]; exact hm1) (cells_box HP1.out) (by rw [flat_len, hs1]; simp only [List.length_singleton]; omega) (one_ents _)
  go_wp2_with (at_builtin; refine wpl_copyRun rfl _ _ rfl rfl rfl (hrun _ _ _) ?_)
  go_ret
  refine ⟨_, rfl, ?_, grown_row HH2.out _⟩
  have hL := insR_length e (show k ≤ xs.length by omega)
  have hz2 : (splice cur1 (k * 2) ([e].flatMap tEnt.enc)).size = cap * 2 := by rw [splice_size _ _ _ (by rw [flat_len, hs1]; simp only [List.length_singleton]; omega), hs1]
  have hfit1 : (k + 1) * 2 + (xs.drop k).length * 2 ≤ cur.size := by rw [hdl, hcs]; omega
  have hfit2 : k * 2 + [e].length * 2 ≤ cur1.size := by rw [hs1]; simp only [List.length_singleton]; omega
  have := own_of_at (base := base) (cap := cap) (xs := insR xs k e) (HB1.out.setRow (splice cur1 (k * 2) ([e].flatMap tEnt.enc))) hgb hz2 (by rw [hL]; omega) hcm (by rw [hL]; omega) HOK.out
    (at_ins (show k ≤ xs.length by omega)
      (fun i hi hx => at_out hfit2 (.inl hi) (by rw [← HC1.out]; exact at_out hfit1 (.inl (by omega)) (HAT.out i hx)))
      (at_in hfit2 0 (by simp))
      (fun i hi => at_out hfit2 (.inr (by simp only [List.length_singleton]; omega)) (by rw [← HC1.out]; have := at_in hfit1 i (by rw [hdl]; omega); rwa [List.getElem_drop] at this)))
  rw [hL] at this
  exact this
end Go.Proofs.Ytmndkbheehcoaaa
/- An entry set into a row of one's own: slices.Insert where there is no room. No condition. -/
namespace Go.Proofs.Ytmndkbheehcoaaa
open Go.RowKit
set_option linter.unusedVariables false
set_option linter.unusedSimpArgs false


set_option maxHeartbeats 1000000 in
set_option maxRecDepth 100000 in
theorem insGrow_any (v : Value) (xs : List En) (k : Nat) (e : En) (he : tEnt.ok e) (w : World) (base p tp : Nat) (h : Own tEnt 29 w base v xs) (hk : k < xs.length) (h64 : xs.length ≤ 64) (hp : Blk w p tp #[.string e.1, .string e.2]) (hroom : ∃ A n c, v = .slice A n c ∧ c < xs.length + 1) :
    Calls Try.prog 161 #[v, .int .i64 k, .slice (some ⟨p, 0, none⟩) 1 1] w fun q w' => ∃ v', q = .returned v' ∧ Own tEnt 29 w' base v' (insR xs k e) ∧ w.grownBy w' v.ownBlock := by
  obtain ⟨g, cap, cur, rfl, hgb, hgl, hB, hcs, hnc, hcm, hat⟩ := at_of_own h (by omega)
  have HB := Lib.hid hB
  have HAT := Lib.hid hat
  have HOK := Lib.hid (insR_ok (k := k) he h.2.2)
  have HP := Lib.hid hp
  have HPL := Lib.hid hp.lt
  have h1 : (0 : Int) ≤ (k : Int) := by omega
  have h2 : (k : Int) ≤ (xs.length : Int) := by omega
  have h3 : (xs.length : Int) ≤ (cap : Int) := by omega
  have h4 : (k : Int) ≤ (cap : Int) := by omega
  have h5 : ((k : Int) == (xs.length : Int)) = false := by rw [beq_eq_false_iff_ne]; omega
  have h6 : (k : Int) + 1 ≤ (cap : Int) + 1 := by omega
  have h7 : ((1 : Int) == 0) = false := rfl
  have h8 : (k : Int) + 1 ≤ (xs.length : Int) + 1 := by omega
  have h9 : (0 : Int) ≤ (k : Int) + 1 := by omega
  have hdl : (xs.drop k).length = xs.length - k := by rw [List.length_drop]
  have htl : (xs.take k).length = k := by rw [List.length_take]; omega
  have hcel : ∀ j u, ((xs.drop k).flatMap tEnt.enc)[j]? = some u → cur[k * 2 + j]? = some u := cells_of_at (fun i hi => by
    rw [hdl] at hi
    rw [List.getElem_drop]
    exact hat _ _)
  have hcel2 : ∀ j u, ((xs.take k).flatMap tEnt.enc)[j]? = some u → cur[0 * 2 + j]? = some u := cells_of_at (fun i hi => by
    rw [htl] at hi
    simp only [Nat.zero_add]
    rw [List.getElem_take]
    exact hat _ _)
  have HC := Lib.hid hcel
  have HC2 := Lib.hid hcel2
  clear hB hat h hcel hcel2 he
  obtain ⟨A9, n9, c9, hv9, hr9⟩ := hroom
  obtain rfl : cap = c9 := by injection hv9
  clear hv9
  obtain rfl : cap = xs.length := by omega
  have m5 : (xs.length : Int) < (xs.length : Int) + 1 := by omega
  have m7 : IntKind.i64.wrap ((k : Int) + 1) = (k : Int) + 1 := by rw [IntKind.wrap_i64]; omega
  have m8 : IntKind.i64.wrap ((xs.length : Int) + 1) = (xs.length : Int) + 1 := by rw [IntKind.wrap_i64]; omega
  have hkk : (xs.length : Int) + 1 - (k : Int) = ((xs.length + 1 - k : Nat) : Int) := by omega
  have m9 : IntKind.i64.wrap ((xs.length : Int) + 1 - (k : Int)) = ((xs.length + 1 - k : Nat) : Int) := by rw [IntKind.wrap_i64]; omega
  have hik : k + (xs.length + 1 - k) = xs.length + 1 := by omega
  obtain ⟨i0, z, hi0, hz0, hzs, hzb, hzc⟩ := rowEnt.info
  have hzs2 : i0.size = 2 := hzs
  have hzc2 : z.cells.size = 2 := hzc
  have hltk : ((xs.take k).flatMap tEnt.enc).length = k * 2 := by rw [flat_len, htl]
  have hold : (Builtin.firstCells i0.size k (.slice (some ⟨g, 0, none⟩) k xs.length)).run Try.prog w.drew = .ok ((xs.take k).flatMap tEnt.enc).toArray w.drew := by
    rw [hzs2]
    exact run_firstCells_some w.drew 2 k ⟨g, 0, none⟩ k xs.length ((xs.take k).flatMap tEnt.enc) hltk (fun j u hj => by
      rw [Addr.add_lit]
      have hd : Blk w.drew g 29 cur := HB.out
      rw [hd.cell]
      simpa using HC2.out j u hj)
  obtain ⟨G, hG⟩ : ∃ G, G = grownCap w (xs.length + 1) xs.length 29 := ⟨_, rfl⟩
  have hGn : xs.length + 1 ≤ G := by rw [hG]; exact grownCap_ge w _ _ _
  have hGm : G ≤ maxLen := by rw [hG]; exact grownCap_le_maxLen w _ _ _ (by unfold maxLen; omega)
  obtain ⟨ROW, hROW⟩ : ∃ ROW : Array Value, ROW = ((xs.take k).flatMap tEnt.enc).toArray ++ Builtin.zeroCells z.cells (xs.length + 1 - k) ++ Builtin.zeroCells z.cells (G - (xs.length + 1)) := ⟨_, rfl⟩
  have hRs : ROW.size = G * 2 := by rw [hROW]; simp only [Array.size_append, size_zeroCells, List.size_toArray, hltk, hzc2]; omega
  have hRt : ∀ i (hi : i < k) (hx : i < xs.length), AtE ROW i xs[i] := fun i hi hx => by
    have hf := flat_ent (xs.take k) i (by rw [htl]; omega)
    rw [List.getElem_take] at hf
    rw [hROW]
    refine ⟨?_, ?_⟩
    · rw [Array.append_assoc, Array.getElem?_append_left (by simp only [List.size_toArray, hltk]; omega), List.getElem?_toArray]; exact hf.1
    · rw [Array.append_assoc, Array.getElem?_append_left (by simp only [List.size_toArray, hltk]; omega), List.getElem?_toArray]; exact hf.2
  have hrz : ∀ ty, (Builtin.append_ #[34, 3] ty #[.slice (some ⟨g, 0, none⟩) k xs.length, .int .i64 ((xs.length + 1 - k : Nat) : Int)]).run Try.prog w =
      .ok (.slice (some ⟨w.heap.size, 0, none⟩) (xs.length + 1) G) (w.drew.alloc (.cells ROW 29)) := fun ty => by
    have h := Lib.run_append_grow_zeros w 34 3 ty 29 i0 z .i64 .i64 Try.underlying34 (by kernel_rfl) hi0 hz0 (some ⟨g, 0, none⟩) k xs.length ((xs.take k).flatMap tEnt.enc) hold (xs.length + 1 - k) (by omega) (by rw [hzs2]; decide) (by omega) (by omega) (by rw [hzb]; omega) (by rw [hzb, hik]; exact growslice_fits (by omega) (by omega))
    rw [hik, ← hG, ← hROW] at h
    exact h
  have HRT := Lib.hid hRt
  clear hold hROW hG hi0 hz0 hzs hzb hzc hzs2 hzc2 hRt
  obtain ⟨w1, hw1⟩ : ∃ w1, w1 = w.drew.alloc (.cells ROW 29) := ⟨_, rfl⟩
  obtain ⟨N, hN⟩ : ∃ N, N = w.heap.size := ⟨_, rfl⟩
  have HNB := Lib.hid (show base ≤ N ∧ w.heap.size ≤ N ∧ p ≠ N ∧ g ≠ N by have := HPL.out; omega)
  have HX1 := Lib.hid (show Ext w w1 by rw [hw1]; exact (Ext.refl _).drew.alloc _)
  have HR1 := Lib.hid (show Blk w1 N 29 ROW by rw [hw1, hN]; exact Blk.new w.drew _ _)
  have HB1 := Lib.hid (HB.out.ext HX1.out)
  have HP1 := Lib.hid (HP.out.ext HX1.out)
  simp only [← hw1, ← hN] at hrz
  clear hw1 hN
  have hm1 : [e].length * 2 = Nat.min 1 (xs.length + 1 - k) * 2 := by simp only [Nat.min_def, List.length_singleton]; split <;> omega
  have hrun : ∀ ty c c', (Builtin.copy_ #[34, 34] ty #[.slice (some ⟨N, k * 2, none⟩) (xs.length + 1 - k) c, .slice (some ⟨p, 0, none⟩) 1 c']).run Try.prog w1 = .ok (goInt (Nat.min 1 (xs.length + 1 - k))) (w1.setRow N (splice ROW (k * 2) ([e].flatMap tEnt.enc))) := fun ty c c' =>
    run_copyE w1 _ _ ty 29 N (k * 2) _ c ⟨p, 0, none⟩ _ c' ROW _ _ Try.underlying34 sizeEnt HR1.out (by rw [flat_len]; exact hm1) (cells_box HP1.out) (by rw [flat_len, hRs]; simp only [List.length_singleton]; omega) (one_ents _)
  obtain ⟨ROW1, hROW1⟩ : ∃ ROW1, splice ROW (k * 2) ([e].flatMap tEnt.enc) = ROW1 := ⟨_, rfl⟩
  have hR1s : ROW1.size = G * 2 := by rw [← hROW1, splice_size _ _ _ (by rw [flat_len, hRs]; simp only [List.length_singleton]; omega), hRs]
  have HROW1 := Lib.hid hROW1
  simp only [hROW1] at hrun
  obtain ⟨w2, hw2⟩ : ∃ w2, w2 = w1.setRow N ROW1 := ⟨_, rfl⟩
  have HX2 := Lib.hid (show Ext w w2 by rw [hw2]; exact HX1.out.setRow HNB.out.2.1 _)
  have HR2 := Lib.hid (show Blk w2 N 29 ROW1 by rw [hw2]; exact HR1.out.setRow _)
  have HB2 := Lib.hid (show Blk w2 g 29 cur by rw [hw2]; exact HB1.out.row_far HNB.out.2.2.2 _)
  simp only [← hw2] at hrun
  clear hw2 hROW1
  have mG1 : ¬ G = k := by omega
  have mG2 : ¬ G = k + 1 := by omega
  have mG3 : ¬ xs.length = k := by omega
  have mG4 : (k : Int) ≤ (xs.length : Int) + 1 := by omega
  have mG5 : (k : Int) ≤ (G : Int) := by omega
  have mG6 : (k : Int) + 1 ≤ (G : Int) := by omega
  have mG7 : (xs.length : Int) + 1 ≤ (G : Int) := by omega
  go_enter Try.func161, Try.ntmps161
  go_wp2_with (first
    | (at_builtin; refine Lib.wpList_append_run _ rfl _ _ _ _ rfl _ _ rfl rfl _ _ (hrz _) ?_)
    | (at_builtin; refine wpl_copyRun rfl _ _ rfl rfl rfl (hrun _ _ _) ?_))
  have HB0 := Lib.hid (show Blk w2.drew g 29 cur from HB2.out)
  have HR0 := Lib.hid (show Blk w2.drew N 29 ROW1 from HR2.out)
  refine wp_region_held_drew (S := fun W => Ext w W) (by kernel_rfl) HX2.out.drew (fun hHeld => ?_)
  generalize w2.drew = w0 at hHeld HB0 HR0 ⊢
  refine wpAnyH_take (i := 0) (oi := ?oig0) (v := ?vg0) ?hig0 (by kernel_rfl) (by kernel_rfl) (by kernel_rfl) ?hQg0 ?hyg0 (by assumption) ?restg0
  case hig0 => simp only [List.getElem?_toArray, List.getElem?_cons_zero, List.getElem?_cons_succ]; rfl
  case hQg0 => exact fun _ _ _ h => h
  case hyg0 => exact Or.inl ⟨by rfl, by intro w hSw; (try dsimp only at hSw); go_simp; with_reducible rfl⟩
  try simp only [Act.put, List.setIfInBounds_toArray, List.set_cons_zero, List.set_cons_succ]
  refine wpAnyH_take (i := 1) (oi := ?oig1) (v := ?vg1) ?hig1 (by kernel_rfl) (by kernel_rfl) (by kernel_rfl) ?hQg1 ?hyg1 (by assumption) ?restg1
  case hig1 => simp only [List.getElem?_toArray, List.getElem?_cons_zero, List.getElem?_cons_succ]; rfl
  case hQg1 => exact fun _ _ _ h => h
  case hyg1 => exact Or.inl ⟨by rfl, by intro w hSw; (try dsimp only at hSw); go_simp; with_reducible rfl⟩
  try simp only [Act.put, List.setIfInBounds_toArray, List.set_cons_zero, List.set_cons_succ]
  refine wpAnyH_take (i := 2) (oi := ?oig2) (v := ?vg2) ?hig2 (by kernel_rfl) (by kernel_rfl) (by kernel_rfl) ?hQg2 ?hyg2 (by assumption) ?restg2
  case hig2 => simp only [List.getElem?_toArray, List.getElem?_cons_zero, List.getElem?_cons_succ]; rfl
  case hQg2 => exact fun _ _ _ h => h
  case hyg2 => exact Or.inl ⟨by rfl, by intro w hSw; (try dsimp only at hSw); go_simp; with_reducible rfl⟩
  try simp only [Act.put, List.setIfInBounds_toArray, List.set_cons_zero, List.set_cons_succ]
  refine wpAnyH_take (i := 3) (oi := ?oig3) (v := ?vg3) ?hig3 (by kernel_rfl) (by kernel_rfl) (by kernel_rfl) ?hQg3 ?hyg3 (by assumption) ?restg3
  case hig3 => simp only [List.getElem?_toArray, List.getElem?_cons_zero, List.getElem?_cons_succ]; rfl
  case hQg3 => exact fun _ _ _ h => h
  case hyg3 => exact Or.inl ⟨by rfl, by intro w hSw; (try dsimp only at hSw); go_simp; with_reducible rfl⟩
  try simp only [Act.put, List.setIfInBounds_toArray, List.set_cons_zero, List.set_cons_succ]
  refine wpAnyH_take (i := 4) (oi := ?oig4) (v := ?vg4) ?hig4 (by kernel_rfl) (by kernel_rfl) (by kernel_rfl) ?hQg4 ?hyg4 (by assumption) ?restg4
  case hig4 => simp only [List.getElem?_toArray, List.getElem?_cons_zero, List.getElem?_cons_succ]; rfl
  case hQg4 => exact fun _ _ _ h => h
  case hyg4 => exact Or.inl ⟨by rfl, by intro w hSw; (try dsimp only at hSw); go_simp; with_reducible rfl⟩
  try simp only [Act.put, List.setIfInBounds_toArray, List.set_cons_zero, List.set_cons_succ]
  refine wpAnyH_take (i := 5) (oi := ?oig5) (v := ?vg5) ?hig5 (by kernel_rfl) (by kernel_rfl) (by kernel_rfl) ?hQg5 ?hyg5 (by assumption) ?restg5
  case hig5 => simp only [List.getElem?_toArray, List.getElem?_cons_zero, List.getElem?_cons_succ]; rfl
  case hQg5 => exact fun _ _ _ h => h
  case hyg5 => exact Or.inl ⟨by rfl, by intro w hSw; (try dsimp only at hSw); go_simp; with_reducible rfl⟩
  try simp only [Act.put, List.setIfInBounds_toArray, List.set_cons_zero, List.set_cons_succ]
  refine wpAnyH_take (i := 6) (oi := ?oig6) (v := ?vg6) ?hig6 (by kernel_rfl) (by kernel_rfl) (by kernel_rfl) ?hQg6 ?hyg6 (by assumption) ?restg6
  case hig6 => simp only [List.getElem?_toArray, List.getElem?_cons_zero, List.getElem?_cons_succ]; rfl
  case hQg6 => exact fun _ _ _ h => h
  case hyg6 => exact Or.inl ⟨by rfl, by intro w hSw; (try dsimp only at hSw); go_simp; with_reducible rfl⟩
  try simp only [Act.put, List.setIfInBounds_toArray, List.set_cons_zero, List.set_cons_succ]
  refine wpAnyH_take (i := 7) (oi := ?oig7) (v := ?vg7) ?hig7 (by kernel_rfl) (by kernel_rfl) (by kernel_rfl) ?hQg7 ?hyg7 (by assumption) ?restg7
  case hig7 => simp only [List.getElem?_toArray, List.getElem?_cons_zero, List.getElem?_cons_succ]; rfl
  case hQg7 => exact fun _ _ _ h => h
  case hyg7 => exact Or.inl ⟨by rfl, by intro w hSw; (try dsimp only at hSw); go_simp; with_reducible rfl⟩
  try simp only [Act.put, List.setIfInBounds_toArray, List.set_cons_zero, List.set_cons_succ]
  have hl1 : ((xs.drop k).flatMap tEnt.enc).length = (xs.length - k) * 2 := by rw [flat_len, hdl]
  have hmm : (xs.length - k) * 2 = Nat.min (xs.length - k) (xs.length - k) * 2 := by simp only [Nat.min_def]; split <;> omega
  have hrun2 : ∀ ty c c', (Builtin.copy_ #[34, 34] ty #[.slice (some ⟨N, (k + 1) * 2, none⟩) (xs.length - k) c, .slice (some ⟨g, k * 2, none⟩) (xs.length - k) c']).run Try.prog w0 = .ok (goInt (Nat.min (xs.length - k) (xs.length - k))) (w0.setRow N (splice ROW1 ((k + 1) * 2) ((xs.drop k).flatMap tEnt.enc))) := fun ty c c' =>
    run_copyE w0 _ _ ty 29 N ((k + 1) * 2) _ c ⟨g, k * 2, none⟩ _ c' ROW1 _ _ Try.underlying34 sizeEnt HR0.out (by rw [hl1]; exact hmm) (fun j u hu => by rw [Addr.add_lit, HB0.out.cell]; exact HC.out j u hu) (by rw [hl1, hR1s]; omega) (one_ents _)
  refine wpAnyH_ready (rs := [8]) (by kernel_rfl) (by simp) (AllReadyH.cons (o := ?og8) ?hg8 (fun K hK => ?sg8) AllReadyH.nil)
  case hg8 => simp only [List.getElem?_toArray, List.getElem?_cons_zero, List.getElem?_cons_succ]; rfl
  refine stp_copyRun rfl (.tmp 50) (.tmp 53) rfl rfl rfl (hrun2 _ _ _) ?_
  have hH2 := hHeld.setRow HNB.out.2.1 (splice ROW1 ((k + 1) * 2) ((xs.drop k).flatMap tEnt.enc))
  have HR3 := Lib.hid (HR0.out.setRow (splice ROW1 ((k + 1) * 2) ((xs.drop k).flatMap tEnt.enc)))
  have HH2 := Lib.hid hH2
  refine hK.out _ _ hH2 (fun _ => ?_)
  clear hHeld hK K
  try simp only [Act.put, List.setIfInBounds_toArray, List.set_cons_zero, List.set_cons_succ]
  refine wpAnyH_done (by kernel_rfl) ?_ _
  clear hH2
  go_wp2
  go_ret
  refine ⟨_, rfl, ?_, ext_grown _ HH2.out⟩
  have hL := insR_length e (show k ≤ xs.length by omega)
  have hz2 : (splice ROW1 ((k + 1) * 2) ((xs.drop k).flatMap tEnt.enc)).size = G * 2 := by rw [splice_size _ _ _ (by rw [hl1, hR1s]; omega), hR1s]
  have hfit1 : k * 2 + [e].length * 2 ≤ ROW.size := by rw [hRs]; simp only [List.length_singleton]; omega
  have hfit2 : (k + 1) * 2 + (xs.drop k).length * 2 ≤ ROW1.size := by rw [hdl, hR1s]; omega
  have := own_of_at (base := base) (cap := G) (xs := insR xs k e) HR3.out HNB.out.1 hz2 (by rw [hL]; omega) hGm (by rw [hL]; omega) HOK.out
    (at_ins (show k ≤ xs.length by omega)
      (fun i hi hx => at_out hfit2 (.inl (by omega)) (by rw [← HROW1.out]; exact at_out hfit1 (.inl (by omega)) (HRT.out i hi hx)))
      (at_out hfit2 (.inl (by omega)) (by rw [← HROW1.out]; exact at_in hfit1 0 (by simp)))
      (fun i hi => by have := at_in hfit2 i (by rw [hdl]; omega); rwa [List.getElem_drop] at this))
  rw [hL] at this
  exact this
end Go.Proofs.Ytmndkbheehcoaaa
/- An entry set into a row of one's own: slices.Insert. No condition. -/
namespace Go.Proofs.Ytmndkbheehcoaaa
open Go.RowKit
set_option linter.unusedVariables false
set_option linter.unusedSimpArgs false


/-- slices.Insert of one entry -/
theorem insE_any (v : Value) (xs : List En) (k : Nat) (e : En) (he : tEnt.ok e) (w : World) (base p tp : Nat) (h : Own tEnt 29 w base v xs) (hk : k ≤ xs.length) (h64 : xs.length ≤ 64) (hp : Blk w p tp #[.string e.1, .string e.2]) (hbase : base ≤ w.heap.size) (hfar : v.ownBlock ≠ some p) :
    Calls Try.prog 161 #[v, .int .i64 k, .slice (some ⟨p, 0, none⟩) 1 1] w fun q w' => ∃ v', q = .returned v' ∧ Own tEnt 29 w' base v' (insR xs k e) ∧ w.grownBy w' v.ownBlock := by
  by_cases hlt : k < xs.length
  · obtain ⟨A, n, c, hv⟩ := h.shape3
    by_cases hc : xs.length + 1 ≤ c
    · exact insRoom_any v xs k e he w base p tp h hlt h64 hp hfar ⟨A, n, c, hv, hc⟩
    · exact insGrow_any v xs k e he w base p tp h hlt h64 hp ⟨A, n, c, hv, by omega⟩
  · exact insEnd_any v xs k e he w base p tp h (by omega) h64 hp hbase
end Go.Proofs.Ytmndkbheehcoaaa
/- An entry put into a map: the plain law. No condition. -/
namespace Go.Proofs.Ytmndkbheehcoaaa
open Go.RowKit
set_option linter.unusedVariables false
set_option linter.unusedSimpArgs false

/-- one round of the reference -/
def putStep (e : En) (a : List En × Bool) (x : En) : List En × Bool :=
  let b := if a.2 then a else if ltB x.1 e.1 then a else (a.1 ++ [e], true)
  if x.1 = e.1 then b else (b.1 ++ [x], b.2)
def putF (e : En) (L : List En) : List En × Bool := L.foldl (putStep e) ([], false)
def putEnd (e : En) (a : List En × Bool) : List En := if a.2 then a.1 else a.1 ++ [e]
theorem putA (e : En) (M acc : List En) (h : ∀ x ∈ M, ltB x.1 e.1 = true) : M.foldl (putStep e) (acc, false) = (acc ++ M, false) := by
  induction M generalizing acc with
  | nil => simp
  | cons x r ih =>
    have h0 := h x (by simp)
    have e1 : putStep e (acc, false) x = (acc ++ [x], false) := by simp [putStep, h0, ltB_ne h0]
    rw [List.foldl_cons, e1, ih _ (fun y hy => h y (by simp [hy]))]
    simp
theorem putB (e : En) (M acc : List En) (h : ∀ x ∈ M, x.1 ≠ e.1) : M.foldl (putStep e) (acc, true) = (acc ++ M, true) := by
  induction M generalizing acc with
  | nil => simp
  | cons x r ih =>
    have e1 : putStep e (acc, true) x = (acc ++ [x], true) := by simp [putStep, h x (by simp)]
    rw [List.foldl_cons, e1, ih _ (fun y hy => h y (by simp [hy]))]
    simp
theorem posE_facts (L : List En) (s : ByteArray) : posE L s ≤ L.length ∧ (∀ p, p < posE L s → ltB (gE L p).1 s = true) ∧ (posE L s < L.length → ltB (gE L (posE L s)).1 s = false) := by
  rw [posE]
  induction L with
  | nil => simp
  | cons e r ih =>
    cases h : ltB e.1 s with
    | false =>
      simp only [List.takeWhile_cons, h, Bool.false_eq_true, if_false, List.length_nil]
      exact ⟨Nat.zero_le _, fun p hp => by omega, fun _ => by simpa [gE] using h⟩
    | true =>
      simp only [List.takeWhile_cons, h, if_true, List.length_cons]
      refine ⟨by omega, fun p hp => ?_, fun hl => ?_⟩
      · cases p with
        | zero => simpa [gE] using h
        | succ p => have := ih.2.1 p (by omega); simpa [gE] using this
      · have := ih.2.2 (by omega)
        simpa [gE] using this
/-- what the reference makes -/
theorem putF_eq {L : List En} {e : En} (hinc : incs L L.length = true) : putEnd e (putF e L) = L.take (posE L e.1) ++ [e] ++ L.drop (if hasE L e.1 then posE L e.1 + 1 else posE L e.1) := by
  obtain ⟨k, hk⟩ : ∃ k, posE L e.1 = k := ⟨_, rfl⟩
  obtain ⟨hle, hb, ha⟩ := posE_facts L e.1
  rw [hk] at hle hb ha
  have hall : ∀ x ∈ L.take k, ltB x.1 e.1 = true := by
    intro x hx
    obtain ⟨i, hi, rfl⟩ := List.getElem_of_mem hx
    rw [List.length_take] at hi
    rw [List.getElem_take]
    have := hb i (by omega)
    rwa [gE_lt (by omega)] at this
  have hF : putF e L = (L.drop k).foldl (putStep e) (L.take k, false) := by
    unfold putF
    conv => lhs; rw [← List.take_append_drop k L, List.foldl_append, putA e _ _ hall]
    simp
  have hH := hasE_eq L e.1
  rw [hk] at hH ⊢
  rw [hF]
  by_cases hlt : k < L.length
  · have hx : ltB L[k].1 e.1 = false := by
      have := ha hlt
      rwa [gE_lt hlt] at this
    have hne : ∀ x ∈ L.drop (k + 1), x.1 ≠ e.1 := by
      intro x hxm heq
      obtain ⟨i, hi, rfl⟩ := List.getElem_of_mem hxm
      rw [List.length_drop] at hi
      rw [List.getElem_drop] at heq
      have := posE_hit hinc (k + 1 + i) (by omega) (s := e.1) (by rw [gE_lt (by omega)]; exact heq)
      omega
    rw [List.drop_eq_getElem_cons hlt, List.foldl_cons]
    by_cases heq : L[k].1 = e.1
    · have e1 : putStep e (L.take k, false) L[k] = (L.take k ++ [e], true) := by simp [putStep, hx, heq, ltB_irrefl]
      have e2 : hasE L e.1 = true := by rw [hH, gE_lt hlt]; simp [hlt, heq]
      rw [e1, putB e _ _ hne, e2]
      simp [putEnd]
    · have e1 : putStep e (L.take k, false) L[k] = (L.take k ++ [e] ++ [L[k]], true) := by simp [putStep, hx, heq]
      have e2 : hasE L e.1 = false := by rw [hH, gE_lt hlt]; simp [heq]
      rw [e1, putB e _ _ hne, e2]
      simp [putEnd]
  · have e2 : hasE L e.1 = false := by rw [hH]; simp [hlt]
    have : L.drop k = [] := List.drop_eq_nil_of_le (by omega)
    rw [e2]
    simp [putEnd, this]
end Go.Proofs.Ytmndkbheehcoaaa
/- An entry put into a map: the reference. No condition. -/
namespace Go.Proofs.Ytmndkbheehcoaaa
open Go.RowKit
set_option linter.unusedVariables false
set_option linter.unusedSimpArgs false

theorem put_next (e : En) (L : List En) (k : Nat) (h : k < L.length) : (L.take (k + 1)).foldl (putStep e) ([], false) = putStep e ((L.take k).foldl (putStep e) ([], false)) L[k] := by
  rw [List.take_succ_eq_append_getElem h, List.foldl_append]; rfl
set_option maxHeartbeats 1000000 in
set_option maxRecDepth 100000 in
theorem l04Put_any (v : Value) (L : List En) (e : En) (he : tEnt.ok e) (w : World) (S : Nat → Prop) (h : RdL tEnt w S v L) (h64 : L.length ≤ 64) :
    Calls Try.prog 128 #[v, .agg #[.string e.1, .string e.2]] w fun q w' => ∃ v', q = .returned v' ∧ Own tEnt 29 w' w.heap.size v' (putEnd e (putF e L)) ∧ Ext w w' := by
  obtain ⟨A, cap, rfl, hcap, hlen, hrd, hok⟩ := h
  have Hok := Lib.hid hok
  have Hrd := Lib.hid hrd
  have HE := Lib.hid he
  clear hrd hok he
  have hwx : ∃ wx, wx = w.alloc (.cells #[.string e.1, .string e.2] 29) ∧ wx.heap.size = w.heap.size + 1 := ⟨_, rfl, by simp⟩
  obtain ⟨wx, hwx, hsx⟩ := hwx
  have HWX := Lib.hid hwx
  have HB := Lib.hid (show ∀ W, Ext wx W → W.cell? ⟨w.heap.size, 0, none⟩ = some (.string e.1) ∧ W.cell? ⟨w.heap.size, 1, none⟩ = some (.string e.2) from fun W hW => by
    subst hwx
    exact ⟨hW.cell (by rw [(Blk.new w _ _).cell]; rfl), hW.cell (by rw [(Blk.new w _ _).cell]; rfl)⟩)
  have HXX := Lib.hid (show Ext w wx by subst hwx; exact ext_alloc _ _)
  go_enter Try.func128, Try.ntmps128
  go_wp2_with fail
  rw [← hwx]
  clear hwx
  go_loopw [5, 6, 7] (fun a f i wr => ∃ (k : Nat) (st : List En × Bool), k ≤ L.length ∧ i = .int .i64 k ∧ f = .bool st.2 ∧ (L.take k).foldl (putStep e) ([], false) = st ∧ Own tEnt 29 wr wx.heap.size a st.1 ∧ st.1.length ≤ 2 * k ∧ Ext wx wr) (fun _ _ i _ => L.length - (intOf i).toNat)
  case atStart => exact ⟨0, ([], false), by omega, rfl, rfl, by rw [List.take_zero]; rfl, by have := Own.empty tEnt wx 29 wx.heap.size (Nat.le_refl _); simpa only [hsx] using this, by simp, ext_alloc _ _⟩
  case round =>
    obtain ⟨k, ⟨R, fl⟩, hk, rfl, rfl, hst, ho, hRl, hx⟩ := hrel
    simp only at ho hRl
    obtain ⟨C, cn, cc, rfl⟩ := ho.shape3
    have HO := Lib.hid ho
    have HX := Lib.hid hx
    have HST := Lib.hid hst
    clear ho hx hst
    by_cases hlt : k < L.length
    · obtain ⟨g, o, rfl, hs0, hc⟩ := Hrd.out.elem Hok.out k hlt
      have HX0 := Lib.hid (show tEnt.ok L[k] from Hok.out _ (List.getElem_mem hlt))
      have HC := Lib.hid (show ∀ W, Ext wx W → W.cell? ⟨g, o + k * 2, none⟩ = some (.string L[k].1) ∧ W.cell? ⟨g, o + k * 2 + 1, none⟩ = some (.string L[k].2) from fun W hW => ⟨(HXX.out.trans hW).cell (hc 0 _ rfl), (HXX.out.trans hW).cell (hc 1 _ rfl)⟩)
      have HN := Lib.hid (put_next e L k hlt)
      have hk0 : (0 : Int) ≤ (k : Int) := by omega
      have hk2 : (k : Int) < (L.length : Int) := by omega
      clear hc
      cases fl with
      | true =>
        cases h1 : ltB L[k].1 e.1 with
        | true =>
          cases h2 : (L[k].1.toList == e.1.toList) with
          | true =>
            exact absurd (toList_inj (by simpa using h2)) (ltB_ne h1)
          | false =>
            have h1' : Op.bytesLess L[k].1.toList e.1.toList = true := by rw [ltB_eq]; exact h1
            have hnm : L[k].1 ≠ e.1 := fun q => by rw [q] at h2; simp at h2
            have HQ := Lib.hid (show putStep e (R, true) L[k] = (R ++ [L[k]], true) by simp [putStep, h1, hnm, ltB_irrefl])
            clear h1 hnm
            have d0 : ∀ W, Ext wr W → W.cell? ⟨g, o + k * 2, none⟩ = some (.string L[k].1) := fun W hW => (HC.out W (HX.out.trans hW)).1
            have b0 : ∀ W, Ext wr W → W.cell? ⟨w.heap.size, 0, none⟩ = some (.string e.1) := fun W hW => (HB.out W (HX.out.trans hW)).1
            go_wp2_with fail
            refine wp_region_held_drew (S := fun W => Ext wr W) (by kernel_rfl) (Ext.refl _).drew (fun hHeld => ?_)
            refine wpAnyH_take (i := 0) (oi := ?oiz1) (v := ?vz1) ?hiz1 (by kernel_rfl) (by kernel_rfl) (by kernel_rfl) ?hQz1 ?hyz1 (by assumption) ?restz1
            case hiz1 => simp only [List.getElem?_toArray, List.getElem?_cons_zero, List.getElem?_cons_succ]; rfl
            case hQz1 => exact fun _ _ _ h => h
            case hyz1 => exact Or.inl ⟨by rfl, by intro w hSw; (try dsimp only at hSw); go_simp; with_reducible rfl⟩
            try simp only [Act.put, List.setIfInBounds_toArray, List.set_cons_zero, List.set_cons_succ]
            refine wpAnyH_take (i := 1) (oi := ?oiz2) (v := ?vz2) ?hiz2 (by kernel_rfl) (by kernel_rfl) (by kernel_rfl) ?hQz2 ?hyz2 (by assumption) ?restz2
            case hiz2 => simp only [List.getElem?_toArray, List.getElem?_cons_zero, List.getElem?_cons_succ]; rfl
            case hQz2 => exact fun _ _ _ h => h
            case hyz2 => exact Or.inl ⟨by rfl, by intro w hSw; (try dsimp only at hSw); go_simp; with_reducible rfl⟩
            try simp only [Act.put, List.setIfInBounds_toArray, List.set_cons_zero, List.set_cons_succ]
            refine wpAnyH_take (i := 2) (oi := ?oiz3) (v := ?vz3) ?hiz3 (by kernel_rfl) (by kernel_rfl) (by kernel_rfl) ?hQz3 ?hyz3 (by assumption) ?restz3
            case hiz3 => simp only [List.getElem?_toArray, List.getElem?_cons_zero, List.getElem?_cons_succ]; rfl
            case hQz3 => exact fun _ _ _ h => h
            case hyz3 => exact Or.inl ⟨by rfl, by intro w hSw; (try dsimp only at hSw); go_simp; with_reducible rfl⟩
            try simp only [Act.put, List.setIfInBounds_toArray, List.set_cons_zero, List.set_cons_succ]
            refine wpAnyH_take (i := 3) (oi := ?oiz4) (v := undef) ?hiz4 (by kernel_rfl) (by kernel_rfl) (by kernel_rfl) ?hQz4 ?hyz4 (by assumption) ?restz4
            case hiz4 => simp only [List.getElem?_toArray, List.getElem?_cons_zero, List.getElem?_cons_succ]; rfl
            case hQz4 => exact fun _ _ _ h => h
            case hyz4 => exact Or.inr ⟨by rfl, rfl⟩
            try simp only [Act.put, List.setIfInBounds_toArray, List.set_cons_zero, List.set_cons_succ]
            refine wpAnyH_take (i := 4) (oi := ?oiz5) (v := undef) ?hiz5 (by kernel_rfl) (by kernel_rfl) (by kernel_rfl) ?hQz5 ?hyz5 (by assumption) ?restz5
            case hiz5 => simp only [List.getElem?_toArray, List.getElem?_cons_zero, List.getElem?_cons_succ]; rfl
            case hQz5 => exact fun _ _ _ h => h
            case hyz5 => exact Or.inr ⟨by rfl, rfl⟩
            try simp only [Act.put, List.setIfInBounds_toArray, List.set_cons_zero, List.set_cons_succ]
            refine wpAnyH_take (i := 5) (oi := ?oiz6) (v := undef) ?hiz6 (by kernel_rfl) (by kernel_rfl) (by kernel_rfl) ?hQz6 ?hyz6 (by assumption) ?restz6
            case hiz6 => simp only [List.getElem?_toArray, List.getElem?_cons_zero, List.getElem?_cons_succ]; rfl
            case hQz6 => exact fun _ _ _ h => h
            case hyz6 => exact Or.inr ⟨by rfl, rfl⟩
            try simp only [Act.put, List.setIfInBounds_toArray, List.set_cons_zero, List.set_cons_succ]
            refine wpAnyH_take (i := 6) (oi := ?oiz7) (v := undef) ?hiz7 (by kernel_rfl) (by kernel_rfl) (by kernel_rfl) ?hQz7 ?hyz7 (by assumption) ?restz7
            case hiz7 => simp only [List.getElem?_toArray, List.getElem?_cons_zero, List.getElem?_cons_succ]; rfl
            case hQz7 => exact fun _ _ _ h => h
            case hyz7 => exact Or.inr ⟨by rfl, rfl⟩
            try simp only [Act.put, List.setIfInBounds_toArray, List.set_cons_zero, List.set_cons_succ]
            refine wpAnyH_take (i := 7) (oi := ?oiz8) (v := undef) ?hiz8 (by kernel_rfl) (by kernel_rfl) (by kernel_rfl) ?hQz8 ?hyz8 (by assumption) ?restz8
            case hiz8 => simp only [List.getElem?_toArray, List.getElem?_cons_zero, List.getElem?_cons_succ]; rfl
            case hQz8 => exact fun _ _ _ h => h
            case hyz8 => exact Or.inr ⟨by rfl, rfl⟩
            try simp only [Act.put, List.setIfInBounds_toArray, List.set_cons_zero, List.set_cons_succ]
            refine wpAnyH_take (i := 8) (oi := ?oiz9) (v := undef) ?hiz9 (by kernel_rfl) (by kernel_rfl) (by kernel_rfl) ?hQz9 ?hyz9 (by assumption) ?restz9
            case hiz9 => simp only [List.getElem?_toArray, List.getElem?_cons_zero, List.getElem?_cons_succ]; rfl
            case hQz9 => exact fun _ _ _ h => h
            case hyz9 => exact Or.inr ⟨by rfl, rfl⟩
            try simp only [Act.put, List.setIfInBounds_toArray, List.set_cons_zero, List.set_cons_succ]
            refine wpAnyH_take (i := 9) (oi := ?oiz10) (v := undef) ?hiz10 (by kernel_rfl) (by kernel_rfl) (by kernel_rfl) ?hQz10 ?hyz10 (by assumption) ?restz10
            case hiz10 => simp only [List.getElem?_toArray, List.getElem?_cons_zero, List.getElem?_cons_succ]; rfl
            case hQz10 => exact fun _ _ _ h => h
            case hyz10 => exact Or.inr ⟨by rfl, rfl⟩
            try simp only [Act.put, List.setIfInBounds_toArray, List.set_cons_zero, List.set_cons_succ]
            refine wpAnyH_take (i := 10) (oi := ?oiz11) (v := undef) ?hiz11 (by kernel_rfl) (by kernel_rfl) (by kernel_rfl) ?hQz11 ?hyz11 (by assumption) ?restz11
            case hiz11 => simp only [List.getElem?_toArray, List.getElem?_cons_zero, List.getElem?_cons_succ]; rfl
            case hQz11 => exact fun _ _ _ h => h
            case hyz11 => exact Or.inr ⟨by rfl, rfl⟩
            try simp only [Act.put, List.setIfInBounds_toArray, List.set_cons_zero, List.set_cons_succ]
            refine wpAnyH_take (i := 11) (oi := ?oiz12) (v := ?vz12) ?hiz12 (by kernel_rfl) (by kernel_rfl) (by kernel_rfl) ?hQz12 ?hyz12 (by assumption) ?restz12
            case hiz12 => simp only [List.getElem?_toArray, List.getElem?_cons_zero, List.getElem?_cons_succ]; rfl
            case hQz12 => exact fun _ _ _ h => h
            case hyz12 => exact Or.inl ⟨by rfl, by intro w hSw; (try dsimp only at hSw); go_simp; with_reducible rfl⟩
            try simp only [Act.put, List.setIfInBounds_toArray, List.set_cons_zero, List.set_cons_succ]
            refine wpAnyH_done (by kernel_rfl) ?_ _
            clear d0 b0
            generalize wr.drew = w0 at *
            have HXa := Lib.hid (HX.out.trans hHeld)
            have HOa := Lib.hid (HO.out.ext hHeld)
            clear hHeld HX HO
            go_wp2_with fail
            have d0 : ∀ W, Ext w0 W → W.cell? ⟨g, o + k * 2, none⟩ = some (.string L[k].1) := fun W hW => (HC.out W (HXa.out.trans hW)).1
            have b0 : ∀ W, Ext w0 W → W.cell? ⟨w.heap.size, 0, none⟩ = some (.string e.1) := fun W hW => (HB.out W (HXa.out.trans hW)).1
            refine wp_region_held_drew (S := fun W => Ext w0 W) (by kernel_rfl) (Ext.refl _).drew (fun hHeld => ?_)
            refine wpAnyH_take (i := 0) (oi := ?oiz13) (v := ?vz13) ?hiz13 (by kernel_rfl) (by kernel_rfl) (by kernel_rfl) ?hQz13 ?hyz13 (by assumption) ?restz13
            case hiz13 => simp only [List.getElem?_toArray, List.getElem?_cons_zero, List.getElem?_cons_succ]; rfl
            case hQz13 => exact fun _ _ _ h => h
            case hyz13 => exact Or.inl ⟨by rfl, by intro w hSw; (try dsimp only at hSw); go_simp; with_reducible rfl⟩
            try simp only [Act.put, List.setIfInBounds_toArray, List.set_cons_zero, List.set_cons_succ]
            refine wpAnyH_take (i := 1) (oi := ?oiz14) (v := ?vz14) ?hiz14 (by kernel_rfl) (by kernel_rfl) (by kernel_rfl) ?hQz14 ?hyz14 (by assumption) ?restz14
            case hiz14 => simp only [List.getElem?_toArray, List.getElem?_cons_zero, List.getElem?_cons_succ]; rfl
            case hQz14 => exact fun _ _ _ h => h
            case hyz14 => exact Or.inl ⟨by rfl, by intro w hSw; (try dsimp only at hSw); go_simp; with_reducible rfl⟩
            try simp only [Act.put, List.setIfInBounds_toArray, List.set_cons_zero, List.set_cons_succ]
            refine wpAnyH_take (i := 2) (oi := ?oiz15) (v := ?vz15) ?hiz15 (by kernel_rfl) (by kernel_rfl) (by kernel_rfl) ?hQz15 ?hyz15 (by assumption) ?restz15
            case hiz15 => simp only [List.getElem?_toArray, List.getElem?_cons_zero, List.getElem?_cons_succ]; rfl
            case hQz15 => exact fun _ _ _ h => h
            case hyz15 => exact Or.inl ⟨by rfl, by intro w hSw; (try dsimp only at hSw); go_simp; with_reducible rfl⟩
            try simp only [Act.put, List.setIfInBounds_toArray, List.set_cons_zero, List.set_cons_succ]
            refine wpAnyH_take (i := 3) (oi := ?oiz16) (v := ?vz16) ?hiz16 (by kernel_rfl) (by kernel_rfl) (by kernel_rfl) ?hQz16 ?hyz16 (by assumption) ?restz16
            case hiz16 => simp only [List.getElem?_toArray, List.getElem?_cons_zero, List.getElem?_cons_succ]; rfl
            case hQz16 => exact fun _ _ _ h => h
            case hyz16 => exact Or.inl ⟨by rfl, by intro w hSw; (try dsimp only at hSw); go_simp; with_reducible rfl⟩
            try simp only [Act.put, List.setIfInBounds_toArray, List.set_cons_zero, List.set_cons_succ]
            refine wpAnyH_take (i := 4) (oi := ?oiz17) (v := ?vz17) ?hiz17 (by kernel_rfl) (by kernel_rfl) (by kernel_rfl) ?hQz17 ?hyz17 (by assumption) ?restz17
            case hiz17 => simp only [List.getElem?_toArray, List.getElem?_cons_zero, List.getElem?_cons_succ]; rfl
            case hQz17 => exact fun _ _ _ h => h
            case hyz17 => exact Or.inl ⟨by rfl, by intro w hSw; (try dsimp only at hSw); go_simp; with_reducible rfl⟩
            try simp only [Act.put, List.setIfInBounds_toArray, List.set_cons_zero, List.set_cons_succ]
            refine wpAnyH_take (i := 5) (oi := ?oiz18) (v := ?vz18) ?hiz18 (by kernel_rfl) (by kernel_rfl) (by kernel_rfl) ?hQz18 ?hyz18 (by assumption) ?restz18
            case hiz18 => simp only [List.getElem?_toArray, List.getElem?_cons_zero, List.getElem?_cons_succ]; rfl
            case hQz18 => exact fun _ _ _ h => h
            case hyz18 => exact Or.inl ⟨by rfl, by intro w hSw; (try dsimp only at hSw); go_simp; with_reducible rfl⟩
            try simp only [Act.put, List.setIfInBounds_toArray, List.set_cons_zero, List.set_cons_succ]
            refine wpAnyH_take (i := 6) (oi := ?oiz19) (v := ?vz19) ?hiz19 (by kernel_rfl) (by kernel_rfl) (by kernel_rfl) ?hQz19 ?hyz19 (by assumption) ?restz19
            case hiz19 => simp only [List.getElem?_toArray, List.getElem?_cons_zero, List.getElem?_cons_succ]; rfl
            case hQz19 => exact fun _ _ _ h => h
            case hyz19 => exact Or.inl ⟨by rfl, by intro w hSw; (try dsimp only at hSw); go_simp; with_reducible rfl⟩
            try simp only [Act.put, List.setIfInBounds_toArray, List.set_cons_zero, List.set_cons_succ]
            refine wpAnyH_take (i := 7) (oi := ?oiz20) (v := ?vz20) ?hiz20 (by kernel_rfl) (by kernel_rfl) (by kernel_rfl) ?hQz20 ?hyz20 (by assumption) ?restz20
            case hiz20 => simp only [List.getElem?_toArray, List.getElem?_cons_zero, List.getElem?_cons_succ]; rfl
            case hQz20 => exact fun _ _ _ h => h
            case hyz20 => exact Or.inl ⟨by rfl, by intro w hSw; (try dsimp only at hSw); go_simp; with_reducible rfl⟩
            try simp only [Act.put, List.setIfInBounds_toArray, List.set_cons_zero, List.set_cons_succ]
            refine wpAnyH_done (by kernel_rfl) ?_ _
            clear d0 b0
            generalize w0.drew = wb at *
            have HXb := Lib.hid (HXa.out.trans hHeld)
            have HOb := Lib.hid (HOa.out.ext hHeld)
            clear hHeld
            have d0 := (HC.out wb HXb.out).1
            have d1 := (HC.out wb HXb.out).2
            go_wp2_with (first | (refine wpl_load ⟨g, o + k * 2, none⟩ [.string L[k].1, .string L[k].2] aggEntryI rfl _ rfl rfl (fun j u hu => by rw [Addr.add_lit]; match j, hu with | 0, hu => rw [Nat.add_zero, d0]; simpa using hu | 1, hu => rw [d1]; simpa using hu) ?_) | (at_builtin; refine wpl_append rowEnt rfl _ _ rfl (v := .slice C cn cc) rfl (HOb.out.alloc _) _ _ rfl (A := some ⟨wb.heap.size, 0, none⟩) (ys := [L[k]]) rfl (rd_ent wb L[k] _) (by intro y hy; obtain rfl := List.mem_singleton.1 hy; exact HX0.out) (by simp only [List.length_append, List.length_singleton]; omega) (HXb.out.alloc _).size ?_; intro vz wz ho1 hg1 hat1; obtain ⟨Cz, nz, cz, rfl⟩ := ho1.shape3; have HOz := Lib.hid ho1; have HXz := Lib.hid ((HOb.out.alloc (Obj.cells #[.string L[k].1, .string L[k].2] 29)).ext_app (HXb.out.alloc _) hg1); clear ho1 hg1 hat1))
            go_roundw
            case rel => exact ⟨k + 1, (R ++ [L[k]], true), by omega, by go_num, rfl, by rw [HN.out, HST.out, HQ.out], HOz.out, by simp; omega, HXz.out⟩
            case measure => simp [intOf]; omega
        | false =>
          cases h2 : (L[k].1.toList == e.1.toList) with
          | true =>
            have h1' : Op.bytesLess L[k].1.toList e.1.toList = false := by rw [ltB_eq]; exact h1
            have hnm : L[k].1 = e.1 := toList_inj (by simpa using h2)
            have HQ := Lib.hid (show putStep e (R, true) L[k] = (R, true) by simp [putStep, h1, hnm, ltB_irrefl])
            clear h1 hnm
            have d0 : ∀ W, Ext wr W → W.cell? ⟨g, o + k * 2, none⟩ = some (.string L[k].1) := fun W hW => (HC.out W (HX.out.trans hW)).1
            have b0 : ∀ W, Ext wr W → W.cell? ⟨w.heap.size, 0, none⟩ = some (.string e.1) := fun W hW => (HB.out W (HX.out.trans hW)).1
            go_wp2_with fail
            refine wp_region_held_drew (S := fun W => Ext wr W) (by kernel_rfl) (Ext.refl _).drew (fun hHeld => ?_)
            refine wpAnyH_take (i := 0) (oi := ?oiz21) (v := ?vz21) ?hiz21 (by kernel_rfl) (by kernel_rfl) (by kernel_rfl) ?hQz21 ?hyz21 (by assumption) ?restz21
            case hiz21 => simp only [List.getElem?_toArray, List.getElem?_cons_zero, List.getElem?_cons_succ]; rfl
            case hQz21 => exact fun _ _ _ h => h
            case hyz21 => exact Or.inl ⟨by rfl, by intro w hSw; (try dsimp only at hSw); go_simp; with_reducible rfl⟩
            try simp only [Act.put, List.setIfInBounds_toArray, List.set_cons_zero, List.set_cons_succ]
            refine wpAnyH_take (i := 1) (oi := ?oiz22) (v := ?vz22) ?hiz22 (by kernel_rfl) (by kernel_rfl) (by kernel_rfl) ?hQz22 ?hyz22 (by assumption) ?restz22
            case hiz22 => simp only [List.getElem?_toArray, List.getElem?_cons_zero, List.getElem?_cons_succ]; rfl
            case hQz22 => exact fun _ _ _ h => h
            case hyz22 => exact Or.inl ⟨by rfl, by intro w hSw; (try dsimp only at hSw); go_simp; with_reducible rfl⟩
            try simp only [Act.put, List.setIfInBounds_toArray, List.set_cons_zero, List.set_cons_succ]
            refine wpAnyH_take (i := 2) (oi := ?oiz23) (v := ?vz23) ?hiz23 (by kernel_rfl) (by kernel_rfl) (by kernel_rfl) ?hQz23 ?hyz23 (by assumption) ?restz23
            case hiz23 => simp only [List.getElem?_toArray, List.getElem?_cons_zero, List.getElem?_cons_succ]; rfl
            case hQz23 => exact fun _ _ _ h => h
            case hyz23 => exact Or.inl ⟨by rfl, by intro w hSw; (try dsimp only at hSw); go_simp; with_reducible rfl⟩
            try simp only [Act.put, List.setIfInBounds_toArray, List.set_cons_zero, List.set_cons_succ]
            refine wpAnyH_take (i := 3) (oi := ?oiz24) (v := undef) ?hiz24 (by kernel_rfl) (by kernel_rfl) (by kernel_rfl) ?hQz24 ?hyz24 (by assumption) ?restz24
            case hiz24 => simp only [List.getElem?_toArray, List.getElem?_cons_zero, List.getElem?_cons_succ]; rfl
            case hQz24 => exact fun _ _ _ h => h
            case hyz24 => exact Or.inr ⟨by rfl, rfl⟩
            try simp only [Act.put, List.setIfInBounds_toArray, List.set_cons_zero, List.set_cons_succ]
            refine wpAnyH_take (i := 4) (oi := ?oiz25) (v := undef) ?hiz25 (by kernel_rfl) (by kernel_rfl) (by kernel_rfl) ?hQz25 ?hyz25 (by assumption) ?restz25
            case hiz25 => simp only [List.getElem?_toArray, List.getElem?_cons_zero, List.getElem?_cons_succ]; rfl
            case hQz25 => exact fun _ _ _ h => h
            case hyz25 => exact Or.inr ⟨by rfl, rfl⟩
            try simp only [Act.put, List.setIfInBounds_toArray, List.set_cons_zero, List.set_cons_succ]
            refine wpAnyH_take (i := 5) (oi := ?oiz26) (v := undef) ?hiz26 (by kernel_rfl) (by kernel_rfl) (by kernel_rfl) ?hQz26 ?hyz26 (by assumption) ?restz26
            case hiz26 => simp only [List.getElem?_toArray, List.getElem?_cons_zero, List.getElem?_cons_succ]; rfl
            case hQz26 => exact fun _ _ _ h => h
            case hyz26 => exact Or.inr ⟨by rfl, rfl⟩
            try simp only [Act.put, List.setIfInBounds_toArray, List.set_cons_zero, List.set_cons_succ]
            refine wpAnyH_take (i := 6) (oi := ?oiz27) (v := undef) ?hiz27 (by kernel_rfl) (by kernel_rfl) (by kernel_rfl) ?hQz27 ?hyz27 (by assumption) ?restz27
            case hiz27 => simp only [List.getElem?_toArray, List.getElem?_cons_zero, List.getElem?_cons_succ]; rfl
            case hQz27 => exact fun _ _ _ h => h
            case hyz27 => exact Or.inr ⟨by rfl, rfl⟩
            try simp only [Act.put, List.setIfInBounds_toArray, List.set_cons_zero, List.set_cons_succ]
            refine wpAnyH_take (i := 7) (oi := ?oiz28) (v := undef) ?hiz28 (by kernel_rfl) (by kernel_rfl) (by kernel_rfl) ?hQz28 ?hyz28 (by assumption) ?restz28
            case hiz28 => simp only [List.getElem?_toArray, List.getElem?_cons_zero, List.getElem?_cons_succ]; rfl
            case hQz28 => exact fun _ _ _ h => h
            case hyz28 => exact Or.inr ⟨by rfl, rfl⟩
            try simp only [Act.put, List.setIfInBounds_toArray, List.set_cons_zero, List.set_cons_succ]
            refine wpAnyH_take (i := 8) (oi := ?oiz29) (v := undef) ?hiz29 (by kernel_rfl) (by kernel_rfl) (by kernel_rfl) ?hQz29 ?hyz29 (by assumption) ?restz29
            case hiz29 => simp only [List.getElem?_toArray, List.getElem?_cons_zero, List.getElem?_cons_succ]; rfl
            case hQz29 => exact fun _ _ _ h => h
            case hyz29 => exact Or.inr ⟨by rfl, rfl⟩
            try simp only [Act.put, List.setIfInBounds_toArray, List.set_cons_zero, List.set_cons_succ]
            refine wpAnyH_take (i := 9) (oi := ?oiz30) (v := undef) ?hiz30 (by kernel_rfl) (by kernel_rfl) (by kernel_rfl) ?hQz30 ?hyz30 (by assumption) ?restz30
            case hiz30 => simp only [List.getElem?_toArray, List.getElem?_cons_zero, List.getElem?_cons_succ]; rfl
            case hQz30 => exact fun _ _ _ h => h
            case hyz30 => exact Or.inr ⟨by rfl, rfl⟩
            try simp only [Act.put, List.setIfInBounds_toArray, List.set_cons_zero, List.set_cons_succ]
            refine wpAnyH_take (i := 10) (oi := ?oiz31) (v := undef) ?hiz31 (by kernel_rfl) (by kernel_rfl) (by kernel_rfl) ?hQz31 ?hyz31 (by assumption) ?restz31
            case hiz31 => simp only [List.getElem?_toArray, List.getElem?_cons_zero, List.getElem?_cons_succ]; rfl
            case hQz31 => exact fun _ _ _ h => h
            case hyz31 => exact Or.inr ⟨by rfl, rfl⟩
            try simp only [Act.put, List.setIfInBounds_toArray, List.set_cons_zero, List.set_cons_succ]
            refine wpAnyH_take (i := 11) (oi := ?oiz32) (v := ?vz32) ?hiz32 (by kernel_rfl) (by kernel_rfl) (by kernel_rfl) ?hQz32 ?hyz32 (by assumption) ?restz32
            case hiz32 => simp only [List.getElem?_toArray, List.getElem?_cons_zero, List.getElem?_cons_succ]; rfl
            case hQz32 => exact fun _ _ _ h => h
            case hyz32 => exact Or.inl ⟨by rfl, by intro w hSw; (try dsimp only at hSw); go_simp; with_reducible rfl⟩
            try simp only [Act.put, List.setIfInBounds_toArray, List.set_cons_zero, List.set_cons_succ]
            refine wpAnyH_done (by kernel_rfl) ?_ _
            clear d0 b0
            generalize wr.drew = w0 at *
            have HXa := Lib.hid (HX.out.trans hHeld)
            have HOa := Lib.hid (HO.out.ext hHeld)
            clear hHeld HX HO
            go_wp2_with fail
            have d0 : ∀ W, Ext w0 W → W.cell? ⟨g, o + k * 2, none⟩ = some (.string L[k].1) := fun W hW => (HC.out W (HXa.out.trans hW)).1
            have b0 : ∀ W, Ext w0 W → W.cell? ⟨w.heap.size, 0, none⟩ = some (.string e.1) := fun W hW => (HB.out W (HXa.out.trans hW)).1
            refine wp_region_held_drew (S := fun W => Ext w0 W) (by kernel_rfl) (Ext.refl _).drew (fun hHeld => ?_)
            refine wpAnyH_take (i := 0) (oi := ?oiz33) (v := ?vz33) ?hiz33 (by kernel_rfl) (by kernel_rfl) (by kernel_rfl) ?hQz33 ?hyz33 (by assumption) ?restz33
            case hiz33 => simp only [List.getElem?_toArray, List.getElem?_cons_zero, List.getElem?_cons_succ]; rfl
            case hQz33 => exact fun _ _ _ h => h
            case hyz33 => exact Or.inl ⟨by rfl, by intro w hSw; (try dsimp only at hSw); go_simp; with_reducible rfl⟩
            try simp only [Act.put, List.setIfInBounds_toArray, List.set_cons_zero, List.set_cons_succ]
            refine wpAnyH_take (i := 1) (oi := ?oiz34) (v := ?vz34) ?hiz34 (by kernel_rfl) (by kernel_rfl) (by kernel_rfl) ?hQz34 ?hyz34 (by assumption) ?restz34
            case hiz34 => simp only [List.getElem?_toArray, List.getElem?_cons_zero, List.getElem?_cons_succ]; rfl
            case hQz34 => exact fun _ _ _ h => h
            case hyz34 => exact Or.inl ⟨by rfl, by intro w hSw; (try dsimp only at hSw); go_simp; with_reducible rfl⟩
            try simp only [Act.put, List.setIfInBounds_toArray, List.set_cons_zero, List.set_cons_succ]
            refine wpAnyH_take (i := 2) (oi := ?oiz35) (v := ?vz35) ?hiz35 (by kernel_rfl) (by kernel_rfl) (by kernel_rfl) ?hQz35 ?hyz35 (by assumption) ?restz35
            case hiz35 => simp only [List.getElem?_toArray, List.getElem?_cons_zero, List.getElem?_cons_succ]; rfl
            case hQz35 => exact fun _ _ _ h => h
            case hyz35 => exact Or.inl ⟨by rfl, by intro w hSw; (try dsimp only at hSw); go_simp; with_reducible rfl⟩
            try simp only [Act.put, List.setIfInBounds_toArray, List.set_cons_zero, List.set_cons_succ]
            refine wpAnyH_take (i := 3) (oi := ?oiz36) (v := ?vz36) ?hiz36 (by kernel_rfl) (by kernel_rfl) (by kernel_rfl) ?hQz36 ?hyz36 (by assumption) ?restz36
            case hiz36 => simp only [List.getElem?_toArray, List.getElem?_cons_zero, List.getElem?_cons_succ]; rfl
            case hQz36 => exact fun _ _ _ h => h
            case hyz36 => exact Or.inl ⟨by rfl, by intro w hSw; (try dsimp only at hSw); go_simp; with_reducible rfl⟩
            try simp only [Act.put, List.setIfInBounds_toArray, List.set_cons_zero, List.set_cons_succ]
            refine wpAnyH_take (i := 4) (oi := ?oiz37) (v := ?vz37) ?hiz37 (by kernel_rfl) (by kernel_rfl) (by kernel_rfl) ?hQz37 ?hyz37 (by assumption) ?restz37
            case hiz37 => simp only [List.getElem?_toArray, List.getElem?_cons_zero, List.getElem?_cons_succ]; rfl
            case hQz37 => exact fun _ _ _ h => h
            case hyz37 => exact Or.inl ⟨by rfl, by intro w hSw; (try dsimp only at hSw); go_simp; with_reducible rfl⟩
            try simp only [Act.put, List.setIfInBounds_toArray, List.set_cons_zero, List.set_cons_succ]
            refine wpAnyH_take (i := 5) (oi := ?oiz38) (v := ?vz38) ?hiz38 (by kernel_rfl) (by kernel_rfl) (by kernel_rfl) ?hQz38 ?hyz38 (by assumption) ?restz38
            case hiz38 => simp only [List.getElem?_toArray, List.getElem?_cons_zero, List.getElem?_cons_succ]; rfl
            case hQz38 => exact fun _ _ _ h => h
            case hyz38 => exact Or.inl ⟨by rfl, by intro w hSw; (try dsimp only at hSw); go_simp; with_reducible rfl⟩
            try simp only [Act.put, List.setIfInBounds_toArray, List.set_cons_zero, List.set_cons_succ]
            refine wpAnyH_take (i := 6) (oi := ?oiz39) (v := ?vz39) ?hiz39 (by kernel_rfl) (by kernel_rfl) (by kernel_rfl) ?hQz39 ?hyz39 (by assumption) ?restz39
            case hiz39 => simp only [List.getElem?_toArray, List.getElem?_cons_zero, List.getElem?_cons_succ]; rfl
            case hQz39 => exact fun _ _ _ h => h
            case hyz39 => exact Or.inl ⟨by rfl, by intro w hSw; (try dsimp only at hSw); go_simp; with_reducible rfl⟩
            try simp only [Act.put, List.setIfInBounds_toArray, List.set_cons_zero, List.set_cons_succ]
            refine wpAnyH_take (i := 7) (oi := ?oiz40) (v := ?vz40) ?hiz40 (by kernel_rfl) (by kernel_rfl) (by kernel_rfl) ?hQz40 ?hyz40 (by assumption) ?restz40
            case hiz40 => simp only [List.getElem?_toArray, List.getElem?_cons_zero, List.getElem?_cons_succ]; rfl
            case hQz40 => exact fun _ _ _ h => h
            case hyz40 => exact Or.inl ⟨by rfl, by intro w hSw; (try dsimp only at hSw); go_simp; with_reducible rfl⟩
            try simp only [Act.put, List.setIfInBounds_toArray, List.set_cons_zero, List.set_cons_succ]
            refine wpAnyH_done (by kernel_rfl) ?_ _
            clear d0 b0
            generalize w0.drew = wb at *
            have HXb := Lib.hid (HXa.out.trans hHeld)
            have HOb := Lib.hid (HOa.out.ext hHeld)
            clear hHeld
            go_wp2
            go_roundw
            case rel => exact ⟨k + 1, (R, true), by omega, by go_num, rfl, by rw [HN.out, HST.out, HQ.out], HOb.out, by simp; omega, HXb.out⟩
            case measure => simp [intOf]; omega
          | false =>
            have h1' : Op.bytesLess L[k].1.toList e.1.toList = false := by rw [ltB_eq]; exact h1
            have hnm : L[k].1 ≠ e.1 := fun q => by rw [q] at h2; simp at h2
            have HQ := Lib.hid (show putStep e (R, true) L[k] = (R ++ [L[k]], true) by simp [putStep, h1, hnm, ltB_irrefl])
            clear h1 hnm
            have d0 : ∀ W, Ext wr W → W.cell? ⟨g, o + k * 2, none⟩ = some (.string L[k].1) := fun W hW => (HC.out W (HX.out.trans hW)).1
            have b0 : ∀ W, Ext wr W → W.cell? ⟨w.heap.size, 0, none⟩ = some (.string e.1) := fun W hW => (HB.out W (HX.out.trans hW)).1
            go_wp2_with fail
            refine wp_region_held_drew (S := fun W => Ext wr W) (by kernel_rfl) (Ext.refl _).drew (fun hHeld => ?_)
            refine wpAnyH_take (i := 0) (oi := ?oiz41) (v := ?vz41) ?hiz41 (by kernel_rfl) (by kernel_rfl) (by kernel_rfl) ?hQz41 ?hyz41 (by assumption) ?restz41
            case hiz41 => simp only [List.getElem?_toArray, List.getElem?_cons_zero, List.getElem?_cons_succ]; rfl
            case hQz41 => exact fun _ _ _ h => h
            case hyz41 => exact Or.inl ⟨by rfl, by intro w hSw; (try dsimp only at hSw); go_simp; with_reducible rfl⟩
            try simp only [Act.put, List.setIfInBounds_toArray, List.set_cons_zero, List.set_cons_succ]
            refine wpAnyH_take (i := 1) (oi := ?oiz42) (v := ?vz42) ?hiz42 (by kernel_rfl) (by kernel_rfl) (by kernel_rfl) ?hQz42 ?hyz42 (by assumption) ?restz42
            case hiz42 => simp only [List.getElem?_toArray, List.getElem?_cons_zero, List.getElem?_cons_succ]; rfl
            case hQz42 => exact fun _ _ _ h => h
            case hyz42 => exact Or.inl ⟨by rfl, by intro w hSw; (try dsimp only at hSw); go_simp; with_reducible rfl⟩
            try simp only [Act.put, List.setIfInBounds_toArray, List.set_cons_zero, List.set_cons_succ]
            refine wpAnyH_take (i := 2) (oi := ?oiz43) (v := ?vz43) ?hiz43 (by kernel_rfl) (by kernel_rfl) (by kernel_rfl) ?hQz43 ?hyz43 (by assumption) ?restz43
            case hiz43 => simp only [List.getElem?_toArray, List.getElem?_cons_zero, List.getElem?_cons_succ]; rfl
            case hQz43 => exact fun _ _ _ h => h
            case hyz43 => exact Or.inl ⟨by rfl, by intro w hSw; (try dsimp only at hSw); go_simp; with_reducible rfl⟩
            try simp only [Act.put, List.setIfInBounds_toArray, List.set_cons_zero, List.set_cons_succ]
            refine wpAnyH_take (i := 3) (oi := ?oiz44) (v := undef) ?hiz44 (by kernel_rfl) (by kernel_rfl) (by kernel_rfl) ?hQz44 ?hyz44 (by assumption) ?restz44
            case hiz44 => simp only [List.getElem?_toArray, List.getElem?_cons_zero, List.getElem?_cons_succ]; rfl
            case hQz44 => exact fun _ _ _ h => h
            case hyz44 => exact Or.inr ⟨by rfl, rfl⟩
            try simp only [Act.put, List.setIfInBounds_toArray, List.set_cons_zero, List.set_cons_succ]
            refine wpAnyH_take (i := 4) (oi := ?oiz45) (v := undef) ?hiz45 (by kernel_rfl) (by kernel_rfl) (by kernel_rfl) ?hQz45 ?hyz45 (by assumption) ?restz45
            case hiz45 => simp only [List.getElem?_toArray, List.getElem?_cons_zero, List.getElem?_cons_succ]; rfl
            case hQz45 => exact fun _ _ _ h => h
            case hyz45 => exact Or.inr ⟨by rfl, rfl⟩
            try simp only [Act.put, List.setIfInBounds_toArray, List.set_cons_zero, List.set_cons_succ]
            refine wpAnyH_take (i := 5) (oi := ?oiz46) (v := undef) ?hiz46 (by kernel_rfl) (by kernel_rfl) (by kernel_rfl) ?hQz46 ?hyz46 (by assumption) ?restz46
            case hiz46 => simp only [List.getElem?_toArray, List.getElem?_cons_zero, List.getElem?_cons_succ]; rfl
            case hQz46 => exact fun _ _ _ h => h
            case hyz46 => exact Or.inr ⟨by rfl, rfl⟩
            try simp only [Act.put, List.setIfInBounds_toArray, List.set_cons_zero, List.set_cons_succ]
            refine wpAnyH_take (i := 6) (oi := ?oiz47) (v := undef) ?hiz47 (by kernel_rfl) (by kernel_rfl) (by kernel_rfl) ?hQz47 ?hyz47 (by assumption) ?restz47
            case hiz47 => simp only [List.getElem?_toArray, List.getElem?_cons_zero, List.getElem?_cons_succ]; rfl
            case hQz47 => exact fun _ _ _ h => h
            case hyz47 => exact Or.inr ⟨by rfl, rfl⟩
            try simp only [Act.put, List.setIfInBounds_toArray, List.set_cons_zero, List.set_cons_succ]
            refine wpAnyH_take (i := 7) (oi := ?oiz48) (v := undef) ?hiz48 (by kernel_rfl) (by kernel_rfl) (by kernel_rfl) ?hQz48 ?hyz48 (by assumption) ?restz48
            case hiz48 => simp only [List.getElem?_toArray, List.getElem?_cons_zero, List.getElem?_cons_succ]; rfl
            case hQz48 => exact fun _ _ _ h => h
            case hyz48 => exact Or.inr ⟨by rfl, rfl⟩
            try simp only [Act.put, List.setIfInBounds_toArray, List.set_cons_zero, List.set_cons_succ]
            refine wpAnyH_take (i := 8) (oi := ?oiz49) (v := undef) ?hiz49 (by kernel_rfl) (by kernel_rfl) (by kernel_rfl) ?hQz49 ?hyz49 (by assumption) ?restz49
            case hiz49 => simp only [List.getElem?_toArray, List.getElem?_cons_zero, List.getElem?_cons_succ]; rfl
            case hQz49 => exact fun _ _ _ h => h
            case hyz49 => exact Or.inr ⟨by rfl, rfl⟩
            try simp only [Act.put, List.setIfInBounds_toArray, List.set_cons_zero, List.set_cons_succ]
            refine wpAnyH_take (i := 9) (oi := ?oiz50) (v := undef) ?hiz50 (by kernel_rfl) (by kernel_rfl) (by kernel_rfl) ?hQz50 ?hyz50 (by assumption) ?restz50
            case hiz50 => simp only [List.getElem?_toArray, List.getElem?_cons_zero, List.getElem?_cons_succ]; rfl
            case hQz50 => exact fun _ _ _ h => h
            case hyz50 => exact Or.inr ⟨by rfl, rfl⟩
            try simp only [Act.put, List.setIfInBounds_toArray, List.set_cons_zero, List.set_cons_succ]
            refine wpAnyH_take (i := 10) (oi := ?oiz51) (v := undef) ?hiz51 (by kernel_rfl) (by kernel_rfl) (by kernel_rfl) ?hQz51 ?hyz51 (by assumption) ?restz51
            case hiz51 => simp only [List.getElem?_toArray, List.getElem?_cons_zero, List.getElem?_cons_succ]; rfl
            case hQz51 => exact fun _ _ _ h => h
            case hyz51 => exact Or.inr ⟨by rfl, rfl⟩
            try simp only [Act.put, List.setIfInBounds_toArray, List.set_cons_zero, List.set_cons_succ]
            refine wpAnyH_take (i := 11) (oi := ?oiz52) (v := ?vz52) ?hiz52 (by kernel_rfl) (by kernel_rfl) (by kernel_rfl) ?hQz52 ?hyz52 (by assumption) ?restz52
            case hiz52 => simp only [List.getElem?_toArray, List.getElem?_cons_zero, List.getElem?_cons_succ]; rfl
            case hQz52 => exact fun _ _ _ h => h
            case hyz52 => exact Or.inl ⟨by rfl, by intro w hSw; (try dsimp only at hSw); go_simp; with_reducible rfl⟩
            try simp only [Act.put, List.setIfInBounds_toArray, List.set_cons_zero, List.set_cons_succ]
            refine wpAnyH_done (by kernel_rfl) ?_ _
            clear d0 b0
            generalize wr.drew = w0 at *
            have HXa := Lib.hid (HX.out.trans hHeld)
            have HOa := Lib.hid (HO.out.ext hHeld)
            clear hHeld HX HO
            go_wp2_with fail
            have d0 : ∀ W, Ext w0 W → W.cell? ⟨g, o + k * 2, none⟩ = some (.string L[k].1) := fun W hW => (HC.out W (HXa.out.trans hW)).1
            have b0 : ∀ W, Ext w0 W → W.cell? ⟨w.heap.size, 0, none⟩ = some (.string e.1) := fun W hW => (HB.out W (HXa.out.trans hW)).1
            refine wp_region_held_drew (S := fun W => Ext w0 W) (by kernel_rfl) (Ext.refl _).drew (fun hHeld => ?_)
            refine wpAnyH_take (i := 0) (oi := ?oiz53) (v := ?vz53) ?hiz53 (by kernel_rfl) (by kernel_rfl) (by kernel_rfl) ?hQz53 ?hyz53 (by assumption) ?restz53
            case hiz53 => simp only [List.getElem?_toArray, List.getElem?_cons_zero, List.getElem?_cons_succ]; rfl
            case hQz53 => exact fun _ _ _ h => h
            case hyz53 => exact Or.inl ⟨by rfl, by intro w hSw; (try dsimp only at hSw); go_simp; with_reducible rfl⟩
            try simp only [Act.put, List.setIfInBounds_toArray, List.set_cons_zero, List.set_cons_succ]
            refine wpAnyH_take (i := 1) (oi := ?oiz54) (v := ?vz54) ?hiz54 (by kernel_rfl) (by kernel_rfl) (by kernel_rfl) ?hQz54 ?hyz54 (by assumption) ?restz54
            case hiz54 => simp only [List.getElem?_toArray, List.getElem?_cons_zero, List.getElem?_cons_succ]; rfl
            case hQz54 => exact fun _ _ _ h => h
            case hyz54 => exact Or.inl ⟨by rfl, by intro w hSw; (try dsimp only at hSw); go_simp; with_reducible rfl⟩
            try simp only [Act.put, List.setIfInBounds_toArray, List.set_cons_zero, List.set_cons_succ]
            refine wpAnyH_take (i := 2) (oi := ?oiz55) (v := ?vz55) ?hiz55 (by kernel_rfl) (by kernel_rfl) (by kernel_rfl) ?hQz55 ?hyz55 (by assumption) ?restz55
            case hiz55 => simp only [List.getElem?_toArray, List.getElem?_cons_zero, List.getElem?_cons_succ]; rfl
            case hQz55 => exact fun _ _ _ h => h
            case hyz55 => exact Or.inl ⟨by rfl, by intro w hSw; (try dsimp only at hSw); go_simp; with_reducible rfl⟩
            try simp only [Act.put, List.setIfInBounds_toArray, List.set_cons_zero, List.set_cons_succ]
            refine wpAnyH_take (i := 3) (oi := ?oiz56) (v := ?vz56) ?hiz56 (by kernel_rfl) (by kernel_rfl) (by kernel_rfl) ?hQz56 ?hyz56 (by assumption) ?restz56
            case hiz56 => simp only [List.getElem?_toArray, List.getElem?_cons_zero, List.getElem?_cons_succ]; rfl
            case hQz56 => exact fun _ _ _ h => h
            case hyz56 => exact Or.inl ⟨by rfl, by intro w hSw; (try dsimp only at hSw); go_simp; with_reducible rfl⟩
            try simp only [Act.put, List.setIfInBounds_toArray, List.set_cons_zero, List.set_cons_succ]
            refine wpAnyH_take (i := 4) (oi := ?oiz57) (v := ?vz57) ?hiz57 (by kernel_rfl) (by kernel_rfl) (by kernel_rfl) ?hQz57 ?hyz57 (by assumption) ?restz57
            case hiz57 => simp only [List.getElem?_toArray, List.getElem?_cons_zero, List.getElem?_cons_succ]; rfl
            case hQz57 => exact fun _ _ _ h => h
            case hyz57 => exact Or.inl ⟨by rfl, by intro w hSw; (try dsimp only at hSw); go_simp; with_reducible rfl⟩
            try simp only [Act.put, List.setIfInBounds_toArray, List.set_cons_zero, List.set_cons_succ]
            refine wpAnyH_take (i := 5) (oi := ?oiz58) (v := ?vz58) ?hiz58 (by kernel_rfl) (by kernel_rfl) (by kernel_rfl) ?hQz58 ?hyz58 (by assumption) ?restz58
            case hiz58 => simp only [List.getElem?_toArray, List.getElem?_cons_zero, List.getElem?_cons_succ]; rfl
            case hQz58 => exact fun _ _ _ h => h
            case hyz58 => exact Or.inl ⟨by rfl, by intro w hSw; (try dsimp only at hSw); go_simp; with_reducible rfl⟩
            try simp only [Act.put, List.setIfInBounds_toArray, List.set_cons_zero, List.set_cons_succ]
            refine wpAnyH_take (i := 6) (oi := ?oiz59) (v := ?vz59) ?hiz59 (by kernel_rfl) (by kernel_rfl) (by kernel_rfl) ?hQz59 ?hyz59 (by assumption) ?restz59
            case hiz59 => simp only [List.getElem?_toArray, List.getElem?_cons_zero, List.getElem?_cons_succ]; rfl
            case hQz59 => exact fun _ _ _ h => h
            case hyz59 => exact Or.inl ⟨by rfl, by intro w hSw; (try dsimp only at hSw); go_simp; with_reducible rfl⟩
            try simp only [Act.put, List.setIfInBounds_toArray, List.set_cons_zero, List.set_cons_succ]
            refine wpAnyH_take (i := 7) (oi := ?oiz60) (v := ?vz60) ?hiz60 (by kernel_rfl) (by kernel_rfl) (by kernel_rfl) ?hQz60 ?hyz60 (by assumption) ?restz60
            case hiz60 => simp only [List.getElem?_toArray, List.getElem?_cons_zero, List.getElem?_cons_succ]; rfl
            case hQz60 => exact fun _ _ _ h => h
            case hyz60 => exact Or.inl ⟨by rfl, by intro w hSw; (try dsimp only at hSw); go_simp; with_reducible rfl⟩
            try simp only [Act.put, List.setIfInBounds_toArray, List.set_cons_zero, List.set_cons_succ]
            refine wpAnyH_done (by kernel_rfl) ?_ _
            clear d0 b0
            generalize w0.drew = wb at *
            have HXb := Lib.hid (HXa.out.trans hHeld)
            have HOb := Lib.hid (HOa.out.ext hHeld)
            clear hHeld
            have d0 := (HC.out wb HXb.out).1
            have d1 := (HC.out wb HXb.out).2
            go_wp2_with (first | (refine wpl_load ⟨g, o + k * 2, none⟩ [.string L[k].1, .string L[k].2] aggEntryI rfl _ rfl rfl (fun j u hu => by rw [Addr.add_lit]; match j, hu with | 0, hu => rw [Nat.add_zero, d0]; simpa using hu | 1, hu => rw [d1]; simpa using hu) ?_) | (at_builtin; refine wpl_append rowEnt rfl _ _ rfl (v := .slice C cn cc) rfl (HOb.out.alloc _) _ _ rfl (A := some ⟨wb.heap.size, 0, none⟩) (ys := [L[k]]) rfl (rd_ent wb L[k] _) (by intro y hy; obtain rfl := List.mem_singleton.1 hy; exact HX0.out) (by simp only [List.length_append, List.length_singleton]; omega) (HXb.out.alloc _).size ?_; intro vz wz ho1 hg1 hat1; obtain ⟨Cz, nz, cz, rfl⟩ := ho1.shape3; have HOz := Lib.hid ho1; have HXz := Lib.hid ((HOb.out.alloc (Obj.cells #[.string L[k].1, .string L[k].2] 29)).ext_app (HXb.out.alloc _) hg1); clear ho1 hg1 hat1))
            go_roundw
            case rel => exact ⟨k + 1, (R ++ [L[k]], true), by omega, by go_num, rfl, by rw [HN.out, HST.out, HQ.out], HOz.out, by simp; omega, HXz.out⟩
            case measure => simp [intOf]; omega
      | false =>
        cases h1 : ltB L[k].1 e.1 with
        | true =>
          cases h2 : (L[k].1.toList == e.1.toList) with
          | true =>
            exact absurd (toList_inj (by simpa using h2)) (ltB_ne h1)
          | false =>
            have h1' : Op.bytesLess L[k].1.toList e.1.toList = true := by rw [ltB_eq]; exact h1
            have hnm : L[k].1 ≠ e.1 := fun q => by rw [q] at h2; simp at h2
            have HQ := Lib.hid (show putStep e (R, false) L[k] = (R ++ [L[k]], false) by simp [putStep, h1, hnm, ltB_irrefl])
            clear h1 hnm
            have d0 : ∀ W, Ext wr W → W.cell? ⟨g, o + k * 2, none⟩ = some (.string L[k].1) := fun W hW => (HC.out W (HX.out.trans hW)).1
            have b0 : ∀ W, Ext wr W → W.cell? ⟨w.heap.size, 0, none⟩ = some (.string e.1) := fun W hW => (HB.out W (HX.out.trans hW)).1
            go_wp2_with fail
            refine wp_region_held_drew (S := fun W => Ext wr W) (by kernel_rfl) (Ext.refl _).drew (fun hHeld => ?_)
            refine wpAnyH_take (i := 0) (oi := ?oiz61) (v := ?vz61) ?hiz61 (by kernel_rfl) (by kernel_rfl) (by kernel_rfl) ?hQz61 ?hyz61 (by assumption) ?restz61
            case hiz61 => simp only [List.getElem?_toArray, List.getElem?_cons_zero, List.getElem?_cons_succ]; rfl
            case hQz61 => exact fun _ _ _ h => h
            case hyz61 => exact Or.inl ⟨by rfl, by intro w hSw; (try dsimp only at hSw); go_simp; with_reducible rfl⟩
            try simp only [Act.put, List.setIfInBounds_toArray, List.set_cons_zero, List.set_cons_succ]
            refine wpAnyH_take (i := 1) (oi := ?oiz62) (v := ?vz62) ?hiz62 (by kernel_rfl) (by kernel_rfl) (by kernel_rfl) ?hQz62 ?hyz62 (by assumption) ?restz62
            case hiz62 => simp only [List.getElem?_toArray, List.getElem?_cons_zero, List.getElem?_cons_succ]; rfl
            case hQz62 => exact fun _ _ _ h => h
            case hyz62 => exact Or.inl ⟨by rfl, by intro w hSw; (try dsimp only at hSw); go_simp; with_reducible rfl⟩
            try simp only [Act.put, List.setIfInBounds_toArray, List.set_cons_zero, List.set_cons_succ]
            refine wpAnyH_take (i := 2) (oi := ?oiz63) (v := ?vz63) ?hiz63 (by kernel_rfl) (by kernel_rfl) (by kernel_rfl) ?hQz63 ?hyz63 (by assumption) ?restz63
            case hiz63 => simp only [List.getElem?_toArray, List.getElem?_cons_zero, List.getElem?_cons_succ]; rfl
            case hQz63 => exact fun _ _ _ h => h
            case hyz63 => exact Or.inl ⟨by rfl, by intro w hSw; (try dsimp only at hSw); go_simp; with_reducible rfl⟩
            try simp only [Act.put, List.setIfInBounds_toArray, List.set_cons_zero, List.set_cons_succ]
            refine wpAnyH_take (i := 3) (oi := ?oiz64) (v := ?vz64) ?hiz64 (by kernel_rfl) (by kernel_rfl) (by kernel_rfl) ?hQz64 ?hyz64 (by assumption) ?restz64
            case hiz64 => simp only [List.getElem?_toArray, List.getElem?_cons_zero, List.getElem?_cons_succ]; rfl
            case hQz64 => exact fun _ _ _ h => h
            case hyz64 => exact Or.inl ⟨by rfl, by intro w hSw; (try dsimp only at hSw); go_simp; with_reducible rfl⟩
            try simp only [Act.put, List.setIfInBounds_toArray, List.set_cons_zero, List.set_cons_succ]
            refine wpAnyH_take (i := 4) (oi := ?oiz65) (v := ?vz65) ?hiz65 (by kernel_rfl) (by kernel_rfl) (by kernel_rfl) ?hQz65 ?hyz65 (by assumption) ?restz65
            case hiz65 => simp only [List.getElem?_toArray, List.getElem?_cons_zero, List.getElem?_cons_succ]; rfl
            case hQz65 => exact fun _ _ _ h => h
            case hyz65 => exact Or.inl ⟨by rfl, by intro w hSw; (try dsimp only at hSw); go_simp; with_reducible rfl⟩
            try simp only [Act.put, List.setIfInBounds_toArray, List.set_cons_zero, List.set_cons_succ]
            refine wpAnyH_take (i := 5) (oi := ?oiz66) (v := ?vz66) ?hiz66 (by kernel_rfl) (by kernel_rfl) (by kernel_rfl) ?hQz66 ?hyz66 (by assumption) ?restz66
            case hiz66 => simp only [List.getElem?_toArray, List.getElem?_cons_zero, List.getElem?_cons_succ]; rfl
            case hQz66 => exact fun _ _ _ h => h
            case hyz66 => exact Or.inl ⟨by rfl, by intro w hSw; (try dsimp only at hSw); go_simp; with_reducible rfl⟩
            try simp only [Act.put, List.setIfInBounds_toArray, List.set_cons_zero, List.set_cons_succ]
            refine wpAnyH_take (i := 6) (oi := ?oiz67) (v := ?vz67) ?hiz67 (by kernel_rfl) (by kernel_rfl) (by kernel_rfl) ?hQz67 ?hyz67 (by assumption) ?restz67
            case hiz67 => simp only [List.getElem?_toArray, List.getElem?_cons_zero, List.getElem?_cons_succ]; rfl
            case hQz67 => exact fun _ _ _ h => h
            case hyz67 => exact Or.inl ⟨by rfl, by intro w hSw; (try dsimp only at hSw); go_simp; with_reducible rfl⟩
            try simp only [Act.put, List.setIfInBounds_toArray, List.set_cons_zero, List.set_cons_succ]
            refine wpAnyH_take (i := 7) (oi := ?oiz68) (v := ?vz68) ?hiz68 (by kernel_rfl) (by kernel_rfl) (by kernel_rfl) ?hQz68 ?hyz68 (by assumption) ?restz68
            case hiz68 => simp only [List.getElem?_toArray, List.getElem?_cons_zero, List.getElem?_cons_succ]; rfl
            case hQz68 => exact fun _ _ _ h => h
            case hyz68 => exact Or.inl ⟨by rfl, by intro w hSw; (try dsimp only at hSw); go_simp; with_reducible rfl⟩
            try simp only [Act.put, List.setIfInBounds_toArray, List.set_cons_zero, List.set_cons_succ]
            refine wpAnyH_take (i := 8) (oi := ?oiz69) (v := ?vz69) ?hiz69 (by kernel_rfl) (by kernel_rfl) (by kernel_rfl) ?hQz69 ?hyz69 (by assumption) ?restz69
            case hiz69 => simp only [List.getElem?_toArray, List.getElem?_cons_zero, List.getElem?_cons_succ]; rfl
            case hQz69 => exact fun _ _ _ h => h
            case hyz69 => exact Or.inl ⟨by rfl, by intro w hSw; (try dsimp only at hSw); go_simp; with_reducible rfl⟩
            try simp only [Act.put, List.setIfInBounds_toArray, List.set_cons_zero, List.set_cons_succ]
            refine wpAnyH_take (i := 9) (oi := ?oiz70) (v := ?vz70) ?hiz70 (by kernel_rfl) (by kernel_rfl) (by kernel_rfl) ?hQz70 ?hyz70 (by assumption) ?restz70
            case hiz70 => simp only [List.getElem?_toArray, List.getElem?_cons_zero, List.getElem?_cons_succ]; rfl
            case hQz70 => exact fun _ _ _ h => h
            case hyz70 => exact Or.inl ⟨by rfl, by intro w hSw; (try dsimp only at hSw); go_simp; with_reducible rfl⟩
            try simp only [Act.put, List.setIfInBounds_toArray, List.set_cons_zero, List.set_cons_succ]
            refine wpAnyH_take (i := 10) (oi := ?oiz71) (v := ?vz71) ?hiz71 (by kernel_rfl) (by kernel_rfl) (by kernel_rfl) ?hQz71 ?hyz71 (by assumption) ?restz71
            case hiz71 => simp only [List.getElem?_toArray, List.getElem?_cons_zero, List.getElem?_cons_succ]; rfl
            case hQz71 => exact fun _ _ _ h => h
            case hyz71 => exact Or.inl ⟨by rfl, by intro w hSw; (try dsimp only at hSw); go_simp; with_reducible rfl⟩
            try simp only [Act.put, List.setIfInBounds_toArray, List.set_cons_zero, List.set_cons_succ]
            refine wpAnyH_take (i := 11) (oi := ?oiz72) (v := ?vz72) ?hiz72 (by kernel_rfl) (by kernel_rfl) (by kernel_rfl) ?hQz72 ?hyz72 (by assumption) ?restz72
            case hiz72 => simp only [List.getElem?_toArray, List.getElem?_cons_zero, List.getElem?_cons_succ]; rfl
            case hQz72 => exact fun _ _ _ h => h
            case hyz72 => exact Or.inl ⟨by rfl, by intro w hSw; (try dsimp only at hSw); go_simp; with_reducible rfl⟩
            try simp only [Act.put, List.setIfInBounds_toArray, List.set_cons_zero, List.set_cons_succ]
            refine wpAnyH_done (by kernel_rfl) ?_ _
            clear d0 b0
            generalize wr.drew = w0 at *
            have HXa := Lib.hid (HX.out.trans hHeld)
            have HOa := Lib.hid (HO.out.ext hHeld)
            clear hHeld HX HO
            go_wp2_with fail
            have d0 : ∀ W, Ext w0 W → W.cell? ⟨g, o + k * 2, none⟩ = some (.string L[k].1) := fun W hW => (HC.out W (HXa.out.trans hW)).1
            have b0 : ∀ W, Ext w0 W → W.cell? ⟨w.heap.size, 0, none⟩ = some (.string e.1) := fun W hW => (HB.out W (HXa.out.trans hW)).1
            refine wp_region_held_drew (S := fun W => Ext w0 W) (by kernel_rfl) (Ext.refl _).drew (fun hHeld => ?_)
            refine wpAnyH_take (i := 0) (oi := ?oiz73) (v := ?vz73) ?hiz73 (by kernel_rfl) (by kernel_rfl) (by kernel_rfl) ?hQz73 ?hyz73 (by assumption) ?restz73
            case hiz73 => simp only [List.getElem?_toArray, List.getElem?_cons_zero, List.getElem?_cons_succ]; rfl
            case hQz73 => exact fun _ _ _ h => h
            case hyz73 => exact Or.inl ⟨by rfl, by intro w hSw; (try dsimp only at hSw); go_simp; with_reducible rfl⟩
            try simp only [Act.put, List.setIfInBounds_toArray, List.set_cons_zero, List.set_cons_succ]
            refine wpAnyH_take (i := 1) (oi := ?oiz74) (v := ?vz74) ?hiz74 (by kernel_rfl) (by kernel_rfl) (by kernel_rfl) ?hQz74 ?hyz74 (by assumption) ?restz74
            case hiz74 => simp only [List.getElem?_toArray, List.getElem?_cons_zero, List.getElem?_cons_succ]; rfl
            case hQz74 => exact fun _ _ _ h => h
            case hyz74 => exact Or.inl ⟨by rfl, by intro w hSw; (try dsimp only at hSw); go_simp; with_reducible rfl⟩
            try simp only [Act.put, List.setIfInBounds_toArray, List.set_cons_zero, List.set_cons_succ]
            refine wpAnyH_take (i := 2) (oi := ?oiz75) (v := ?vz75) ?hiz75 (by kernel_rfl) (by kernel_rfl) (by kernel_rfl) ?hQz75 ?hyz75 (by assumption) ?restz75
            case hiz75 => simp only [List.getElem?_toArray, List.getElem?_cons_zero, List.getElem?_cons_succ]; rfl
            case hQz75 => exact fun _ _ _ h => h
            case hyz75 => exact Or.inl ⟨by rfl, by intro w hSw; (try dsimp only at hSw); go_simp; with_reducible rfl⟩
            try simp only [Act.put, List.setIfInBounds_toArray, List.set_cons_zero, List.set_cons_succ]
            refine wpAnyH_take (i := 3) (oi := ?oiz76) (v := ?vz76) ?hiz76 (by kernel_rfl) (by kernel_rfl) (by kernel_rfl) ?hQz76 ?hyz76 (by assumption) ?restz76
            case hiz76 => simp only [List.getElem?_toArray, List.getElem?_cons_zero, List.getElem?_cons_succ]; rfl
            case hQz76 => exact fun _ _ _ h => h
            case hyz76 => exact Or.inl ⟨by rfl, by intro w hSw; (try dsimp only at hSw); go_simp; with_reducible rfl⟩
            try simp only [Act.put, List.setIfInBounds_toArray, List.set_cons_zero, List.set_cons_succ]
            refine wpAnyH_take (i := 4) (oi := ?oiz77) (v := ?vz77) ?hiz77 (by kernel_rfl) (by kernel_rfl) (by kernel_rfl) ?hQz77 ?hyz77 (by assumption) ?restz77
            case hiz77 => simp only [List.getElem?_toArray, List.getElem?_cons_zero, List.getElem?_cons_succ]; rfl
            case hQz77 => exact fun _ _ _ h => h
            case hyz77 => exact Or.inl ⟨by rfl, by intro w hSw; (try dsimp only at hSw); go_simp; with_reducible rfl⟩
            try simp only [Act.put, List.setIfInBounds_toArray, List.set_cons_zero, List.set_cons_succ]
            refine wpAnyH_take (i := 5) (oi := ?oiz78) (v := ?vz78) ?hiz78 (by kernel_rfl) (by kernel_rfl) (by kernel_rfl) ?hQz78 ?hyz78 (by assumption) ?restz78
            case hiz78 => simp only [List.getElem?_toArray, List.getElem?_cons_zero, List.getElem?_cons_succ]; rfl
            case hQz78 => exact fun _ _ _ h => h
            case hyz78 => exact Or.inl ⟨by rfl, by intro w hSw; (try dsimp only at hSw); go_simp; with_reducible rfl⟩
            try simp only [Act.put, List.setIfInBounds_toArray, List.set_cons_zero, List.set_cons_succ]
            refine wpAnyH_take (i := 6) (oi := ?oiz79) (v := ?vz79) ?hiz79 (by kernel_rfl) (by kernel_rfl) (by kernel_rfl) ?hQz79 ?hyz79 (by assumption) ?restz79
            case hiz79 => simp only [List.getElem?_toArray, List.getElem?_cons_zero, List.getElem?_cons_succ]; rfl
            case hQz79 => exact fun _ _ _ h => h
            case hyz79 => exact Or.inl ⟨by rfl, by intro w hSw; (try dsimp only at hSw); go_simp; with_reducible rfl⟩
            try simp only [Act.put, List.setIfInBounds_toArray, List.set_cons_zero, List.set_cons_succ]
            refine wpAnyH_take (i := 7) (oi := ?oiz80) (v := ?vz80) ?hiz80 (by kernel_rfl) (by kernel_rfl) (by kernel_rfl) ?hQz80 ?hyz80 (by assumption) ?restz80
            case hiz80 => simp only [List.getElem?_toArray, List.getElem?_cons_zero, List.getElem?_cons_succ]; rfl
            case hQz80 => exact fun _ _ _ h => h
            case hyz80 => exact Or.inl ⟨by rfl, by intro w hSw; (try dsimp only at hSw); go_simp; with_reducible rfl⟩
            try simp only [Act.put, List.setIfInBounds_toArray, List.set_cons_zero, List.set_cons_succ]
            refine wpAnyH_done (by kernel_rfl) ?_ _
            clear d0 b0
            generalize w0.drew = wb at *
            have HXb := Lib.hid (HXa.out.trans hHeld)
            have HOb := Lib.hid (HOa.out.ext hHeld)
            clear hHeld
            have d0 := (HC.out wb HXb.out).1
            have d1 := (HC.out wb HXb.out).2
            go_wp2_with (first | (refine wpl_load ⟨g, o + k * 2, none⟩ [.string L[k].1, .string L[k].2] aggEntryI rfl _ rfl rfl (fun j u hu => by rw [Addr.add_lit]; match j, hu with | 0, hu => rw [Nat.add_zero, d0]; simpa using hu | 1, hu => rw [d1]; simpa using hu) ?_) | (at_builtin; refine wpl_append rowEnt rfl _ _ rfl (v := .slice C cn cc) rfl (HOb.out.alloc _) _ _ rfl (A := some ⟨wb.heap.size, 0, none⟩) (ys := [L[k]]) rfl (rd_ent wb L[k] _) (by intro y hy; obtain rfl := List.mem_singleton.1 hy; exact HX0.out) (by simp only [List.length_append, List.length_singleton]; omega) (HXb.out.alloc _).size ?_; intro vz wz ho1 hg1 hat1; obtain ⟨Cz, nz, cz, rfl⟩ := ho1.shape3; have HOz := Lib.hid ho1; have HXz := Lib.hid ((HOb.out.alloc (Obj.cells #[.string L[k].1, .string L[k].2] 29)).ext_app (HXb.out.alloc _) hg1); clear ho1 hg1 hat1))
            go_roundw
            case rel => exact ⟨k + 1, (R ++ [L[k]], false), by omega, by go_num, rfl, by rw [HN.out, HST.out, HQ.out], HOz.out, by simp; omega, HXz.out⟩
            case measure => simp [intOf]; omega
        | false =>
          cases h2 : (L[k].1.toList == e.1.toList) with
          | true =>
            have h1' : Op.bytesLess L[k].1.toList e.1.toList = false := by rw [ltB_eq]; exact h1
            have hnm : L[k].1 = e.1 := toList_inj (by simpa using h2)
            have HQ := Lib.hid (show putStep e (R, false) L[k] = (R ++ [e], true) by simp [putStep, h1, hnm, ltB_irrefl])
            clear h1 hnm
            have d0 : ∀ W, Ext wr W → W.cell? ⟨g, o + k * 2, none⟩ = some (.string L[k].1) := fun W hW => (HC.out W (HX.out.trans hW)).1
            have b0 : ∀ W, Ext wr W → W.cell? ⟨w.heap.size, 0, none⟩ = some (.string e.1) := fun W hW => (HB.out W (HX.out.trans hW)).1
            go_wp2_with fail
            refine wp_region_held_drew (S := fun W => Ext wr W) (by kernel_rfl) (Ext.refl _).drew (fun hHeld => ?_)
            refine wpAnyH_take (i := 0) (oi := ?oiz81) (v := ?vz81) ?hiz81 (by kernel_rfl) (by kernel_rfl) (by kernel_rfl) ?hQz81 ?hyz81 (by assumption) ?restz81
            case hiz81 => simp only [List.getElem?_toArray, List.getElem?_cons_zero, List.getElem?_cons_succ]; rfl
            case hQz81 => exact fun _ _ _ h => h
            case hyz81 => exact Or.inl ⟨by rfl, by intro w hSw; (try dsimp only at hSw); go_simp; with_reducible rfl⟩
            try simp only [Act.put, List.setIfInBounds_toArray, List.set_cons_zero, List.set_cons_succ]
            refine wpAnyH_take (i := 1) (oi := ?oiz82) (v := ?vz82) ?hiz82 (by kernel_rfl) (by kernel_rfl) (by kernel_rfl) ?hQz82 ?hyz82 (by assumption) ?restz82
            case hiz82 => simp only [List.getElem?_toArray, List.getElem?_cons_zero, List.getElem?_cons_succ]; rfl
            case hQz82 => exact fun _ _ _ h => h
            case hyz82 => exact Or.inl ⟨by rfl, by intro w hSw; (try dsimp only at hSw); go_simp; with_reducible rfl⟩
            try simp only [Act.put, List.setIfInBounds_toArray, List.set_cons_zero, List.set_cons_succ]
            refine wpAnyH_take (i := 2) (oi := ?oiz83) (v := ?vz83) ?hiz83 (by kernel_rfl) (by kernel_rfl) (by kernel_rfl) ?hQz83 ?hyz83 (by assumption) ?restz83
            case hiz83 => simp only [List.getElem?_toArray, List.getElem?_cons_zero, List.getElem?_cons_succ]; rfl
            case hQz83 => exact fun _ _ _ h => h
            case hyz83 => exact Or.inl ⟨by rfl, by intro w hSw; (try dsimp only at hSw); go_simp; with_reducible rfl⟩
            try simp only [Act.put, List.setIfInBounds_toArray, List.set_cons_zero, List.set_cons_succ]
            refine wpAnyH_take (i := 3) (oi := ?oiz84) (v := ?vz84) ?hiz84 (by kernel_rfl) (by kernel_rfl) (by kernel_rfl) ?hQz84 ?hyz84 (by assumption) ?restz84
            case hiz84 => simp only [List.getElem?_toArray, List.getElem?_cons_zero, List.getElem?_cons_succ]; rfl
            case hQz84 => exact fun _ _ _ h => h
            case hyz84 => exact Or.inl ⟨by rfl, by intro w hSw; (try dsimp only at hSw); go_simp; with_reducible rfl⟩
            try simp only [Act.put, List.setIfInBounds_toArray, List.set_cons_zero, List.set_cons_succ]
            refine wpAnyH_take (i := 4) (oi := ?oiz85) (v := ?vz85) ?hiz85 (by kernel_rfl) (by kernel_rfl) (by kernel_rfl) ?hQz85 ?hyz85 (by assumption) ?restz85
            case hiz85 => simp only [List.getElem?_toArray, List.getElem?_cons_zero, List.getElem?_cons_succ]; rfl
            case hQz85 => exact fun _ _ _ h => h
            case hyz85 => exact Or.inl ⟨by rfl, by intro w hSw; (try dsimp only at hSw); go_simp; with_reducible rfl⟩
            try simp only [Act.put, List.setIfInBounds_toArray, List.set_cons_zero, List.set_cons_succ]
            refine wpAnyH_take (i := 5) (oi := ?oiz86) (v := ?vz86) ?hiz86 (by kernel_rfl) (by kernel_rfl) (by kernel_rfl) ?hQz86 ?hyz86 (by assumption) ?restz86
            case hiz86 => simp only [List.getElem?_toArray, List.getElem?_cons_zero, List.getElem?_cons_succ]; rfl
            case hQz86 => exact fun _ _ _ h => h
            case hyz86 => exact Or.inl ⟨by rfl, by intro w hSw; (try dsimp only at hSw); go_simp; with_reducible rfl⟩
            try simp only [Act.put, List.setIfInBounds_toArray, List.set_cons_zero, List.set_cons_succ]
            refine wpAnyH_take (i := 6) (oi := ?oiz87) (v := ?vz87) ?hiz87 (by kernel_rfl) (by kernel_rfl) (by kernel_rfl) ?hQz87 ?hyz87 (by assumption) ?restz87
            case hiz87 => simp only [List.getElem?_toArray, List.getElem?_cons_zero, List.getElem?_cons_succ]; rfl
            case hQz87 => exact fun _ _ _ h => h
            case hyz87 => exact Or.inl ⟨by rfl, by intro w hSw; (try dsimp only at hSw); go_simp; with_reducible rfl⟩
            try simp only [Act.put, List.setIfInBounds_toArray, List.set_cons_zero, List.set_cons_succ]
            refine wpAnyH_take (i := 7) (oi := ?oiz88) (v := ?vz88) ?hiz88 (by kernel_rfl) (by kernel_rfl) (by kernel_rfl) ?hQz88 ?hyz88 (by assumption) ?restz88
            case hiz88 => simp only [List.getElem?_toArray, List.getElem?_cons_zero, List.getElem?_cons_succ]; rfl
            case hQz88 => exact fun _ _ _ h => h
            case hyz88 => exact Or.inl ⟨by rfl, by intro w hSw; (try dsimp only at hSw); go_simp; with_reducible rfl⟩
            try simp only [Act.put, List.setIfInBounds_toArray, List.set_cons_zero, List.set_cons_succ]
            refine wpAnyH_take (i := 8) (oi := ?oiz89) (v := ?vz89) ?hiz89 (by kernel_rfl) (by kernel_rfl) (by kernel_rfl) ?hQz89 ?hyz89 (by assumption) ?restz89
            case hiz89 => simp only [List.getElem?_toArray, List.getElem?_cons_zero, List.getElem?_cons_succ]; rfl
            case hQz89 => exact fun _ _ _ h => h
            case hyz89 => exact Or.inl ⟨by rfl, by intro w hSw; (try dsimp only at hSw); go_simp; with_reducible rfl⟩
            try simp only [Act.put, List.setIfInBounds_toArray, List.set_cons_zero, List.set_cons_succ]
            refine wpAnyH_take (i := 9) (oi := ?oiz90) (v := ?vz90) ?hiz90 (by kernel_rfl) (by kernel_rfl) (by kernel_rfl) ?hQz90 ?hyz90 (by assumption) ?restz90
            case hiz90 => simp only [List.getElem?_toArray, List.getElem?_cons_zero, List.getElem?_cons_succ]; rfl
            case hQz90 => exact fun _ _ _ h => h
            case hyz90 => exact Or.inl ⟨by rfl, by intro w hSw; (try dsimp only at hSw); go_simp; with_reducible rfl⟩
            try simp only [Act.put, List.setIfInBounds_toArray, List.set_cons_zero, List.set_cons_succ]
            refine wpAnyH_take (i := 10) (oi := ?oiz91) (v := ?vz91) ?hiz91 (by kernel_rfl) (by kernel_rfl) (by kernel_rfl) ?hQz91 ?hyz91 (by assumption) ?restz91
            case hiz91 => simp only [List.getElem?_toArray, List.getElem?_cons_zero, List.getElem?_cons_succ]; rfl
            case hQz91 => exact fun _ _ _ h => h
            case hyz91 => exact Or.inl ⟨by rfl, by intro w hSw; (try dsimp only at hSw); go_simp; with_reducible rfl⟩
            try simp only [Act.put, List.setIfInBounds_toArray, List.set_cons_zero, List.set_cons_succ]
            refine wpAnyH_take (i := 11) (oi := ?oiz92) (v := ?vz92) ?hiz92 (by kernel_rfl) (by kernel_rfl) (by kernel_rfl) ?hQz92 ?hyz92 (by assumption) ?restz92
            case hiz92 => simp only [List.getElem?_toArray, List.getElem?_cons_zero, List.getElem?_cons_succ]; rfl
            case hQz92 => exact fun _ _ _ h => h
            case hyz92 => exact Or.inl ⟨by rfl, by intro w hSw; (try dsimp only at hSw); go_simp; with_reducible rfl⟩
            try simp only [Act.put, List.setIfInBounds_toArray, List.set_cons_zero, List.set_cons_succ]
            refine wpAnyH_done (by kernel_rfl) ?_ _
            clear d0 b0
            generalize wr.drew = w0 at *
            have HXa := Lib.hid (HX.out.trans hHeld)
            have HOa := Lib.hid (HO.out.ext hHeld)
            clear hHeld HX HO
            have b0 := (HB.out w0 HXa.out).1
            have b1 := (HB.out w0 HXa.out).2
            go_wp2_with (first | (refine wpl_load ⟨w.heap.size, 0, none⟩ [.string e.1, .string e.2] aggEntryI rfl _ rfl rfl (fun j u hu => by rw [Addr.add_lit, Nat.zero_add]; match j, hu with | 0, hu => rw [b0]; simpa using hu | 1, hu => rw [b1]; simpa using hu) ?_) | (at_builtin; refine wpl_append rowEnt rfl _ _ rfl (v := .slice C cn cc) rfl (HOa.out.alloc _) _ _ rfl (A := some ⟨w0.heap.size, 0, none⟩) (ys := [e]) rfl (rd_ent w0 e _) (by intro y hy; obtain rfl := List.mem_singleton.1 hy; exact HE.out) (by simp only [List.length_append, List.length_singleton]; omega) (HXa.out.alloc _).size ?_; intro v9 w9 ho1 hg1 hat1; obtain ⟨C9, n9, c9, rfl⟩ := ho1.shape3; have HO9 := Lib.hid ho1; have HX9 := Lib.hid ((HOa.out.alloc (Obj.cells #[.string e.1, .string e.2] 29)).ext_app (HXa.out.alloc _) hg1); clear ho1 hg1 hat1))
            clear b0 b1
            have d0 : ∀ W, Ext w9 W → W.cell? ⟨g, o + k * 2, none⟩ = some (.string L[k].1) := fun W hW => (HC.out W (HX9.out.trans hW)).1
            have b0 : ∀ W, Ext w9 W → W.cell? ⟨w.heap.size, 0, none⟩ = some (.string e.1) := fun W hW => (HB.out W (HX9.out.trans hW)).1
            refine wp_region_held_drew (S := fun W => Ext w9 W) (by kernel_rfl) (Ext.refl _).drew (fun hHeld => ?_)
            refine wpAnyH_take (i := 0) (oi := ?oiz93) (v := ?vz93) ?hiz93 (by kernel_rfl) (by kernel_rfl) (by kernel_rfl) ?hQz93 ?hyz93 (by assumption) ?restz93
            case hiz93 => simp only [List.getElem?_toArray, List.getElem?_cons_zero, List.getElem?_cons_succ]; rfl
            case hQz93 => exact fun _ _ _ h => h
            case hyz93 => exact Or.inl ⟨by rfl, by intro w hSw; (try dsimp only at hSw); go_simp; with_reducible rfl⟩
            try simp only [Act.put, List.setIfInBounds_toArray, List.set_cons_zero, List.set_cons_succ]
            refine wpAnyH_take (i := 1) (oi := ?oiz94) (v := ?vz94) ?hiz94 (by kernel_rfl) (by kernel_rfl) (by kernel_rfl) ?hQz94 ?hyz94 (by assumption) ?restz94
            case hiz94 => simp only [List.getElem?_toArray, List.getElem?_cons_zero, List.getElem?_cons_succ]; rfl
            case hQz94 => exact fun _ _ _ h => h
            case hyz94 => exact Or.inl ⟨by rfl, by intro w hSw; (try dsimp only at hSw); go_simp; with_reducible rfl⟩
            try simp only [Act.put, List.setIfInBounds_toArray, List.set_cons_zero, List.set_cons_succ]
            refine wpAnyH_take (i := 2) (oi := ?oiz95) (v := ?vz95) ?hiz95 (by kernel_rfl) (by kernel_rfl) (by kernel_rfl) ?hQz95 ?hyz95 (by assumption) ?restz95
            case hiz95 => simp only [List.getElem?_toArray, List.getElem?_cons_zero, List.getElem?_cons_succ]; rfl
            case hQz95 => exact fun _ _ _ h => h
            case hyz95 => exact Or.inl ⟨by rfl, by intro w hSw; (try dsimp only at hSw); go_simp; with_reducible rfl⟩
            try simp only [Act.put, List.setIfInBounds_toArray, List.set_cons_zero, List.set_cons_succ]
            refine wpAnyH_take (i := 3) (oi := ?oiz96) (v := ?vz96) ?hiz96 (by kernel_rfl) (by kernel_rfl) (by kernel_rfl) ?hQz96 ?hyz96 (by assumption) ?restz96
            case hiz96 => simp only [List.getElem?_toArray, List.getElem?_cons_zero, List.getElem?_cons_succ]; rfl
            case hQz96 => exact fun _ _ _ h => h
            case hyz96 => exact Or.inl ⟨by rfl, by intro w hSw; (try dsimp only at hSw); go_simp; with_reducible rfl⟩
            try simp only [Act.put, List.setIfInBounds_toArray, List.set_cons_zero, List.set_cons_succ]
            refine wpAnyH_take (i := 4) (oi := ?oiz97) (v := ?vz97) ?hiz97 (by kernel_rfl) (by kernel_rfl) (by kernel_rfl) ?hQz97 ?hyz97 (by assumption) ?restz97
            case hiz97 => simp only [List.getElem?_toArray, List.getElem?_cons_zero, List.getElem?_cons_succ]; rfl
            case hQz97 => exact fun _ _ _ h => h
            case hyz97 => exact Or.inl ⟨by rfl, by intro w hSw; (try dsimp only at hSw); go_simp; with_reducible rfl⟩
            try simp only [Act.put, List.setIfInBounds_toArray, List.set_cons_zero, List.set_cons_succ]
            refine wpAnyH_take (i := 5) (oi := ?oiz98) (v := ?vz98) ?hiz98 (by kernel_rfl) (by kernel_rfl) (by kernel_rfl) ?hQz98 ?hyz98 (by assumption) ?restz98
            case hiz98 => simp only [List.getElem?_toArray, List.getElem?_cons_zero, List.getElem?_cons_succ]; rfl
            case hQz98 => exact fun _ _ _ h => h
            case hyz98 => exact Or.inl ⟨by rfl, by intro w hSw; (try dsimp only at hSw); go_simp; with_reducible rfl⟩
            try simp only [Act.put, List.setIfInBounds_toArray, List.set_cons_zero, List.set_cons_succ]
            refine wpAnyH_take (i := 6) (oi := ?oiz99) (v := ?vz99) ?hiz99 (by kernel_rfl) (by kernel_rfl) (by kernel_rfl) ?hQz99 ?hyz99 (by assumption) ?restz99
            case hiz99 => simp only [List.getElem?_toArray, List.getElem?_cons_zero, List.getElem?_cons_succ]; rfl
            case hQz99 => exact fun _ _ _ h => h
            case hyz99 => exact Or.inl ⟨by rfl, by intro w hSw; (try dsimp only at hSw); go_simp; with_reducible rfl⟩
            try simp only [Act.put, List.setIfInBounds_toArray, List.set_cons_zero, List.set_cons_succ]
            refine wpAnyH_take (i := 7) (oi := ?oiz100) (v := ?vz100) ?hiz100 (by kernel_rfl) (by kernel_rfl) (by kernel_rfl) ?hQz100 ?hyz100 (by assumption) ?restz100
            case hiz100 => simp only [List.getElem?_toArray, List.getElem?_cons_zero, List.getElem?_cons_succ]; rfl
            case hQz100 => exact fun _ _ _ h => h
            case hyz100 => exact Or.inl ⟨by rfl, by intro w hSw; (try dsimp only at hSw); go_simp; with_reducible rfl⟩
            try simp only [Act.put, List.setIfInBounds_toArray, List.set_cons_zero, List.set_cons_succ]
            refine wpAnyH_done (by kernel_rfl) ?_ _
            clear d0 b0
            generalize w9.drew = wb at *
            have HXb := Lib.hid (HX9.out.trans hHeld)
            have HOb := Lib.hid (HO9.out.ext hHeld)
            clear hHeld
            go_wp2
            go_roundw
            case rel => exact ⟨k + 1, (R ++ [e], true), by omega, by go_num, rfl, by rw [HN.out, HST.out, HQ.out], HOb.out, by simp; omega, HXb.out⟩
            case measure => simp [intOf]; omega
          | false =>
            have h1' : Op.bytesLess L[k].1.toList e.1.toList = false := by rw [ltB_eq]; exact h1
            have hnm : L[k].1 ≠ e.1 := fun q => by rw [q] at h2; simp at h2
            have HQ := Lib.hid (show putStep e (R, false) L[k] = (R ++ [e] ++ [L[k]], true) by simp [putStep, h1, hnm, ltB_irrefl])
            clear h1 hnm
            have d0 : ∀ W, Ext wr W → W.cell? ⟨g, o + k * 2, none⟩ = some (.string L[k].1) := fun W hW => (HC.out W (HX.out.trans hW)).1
            have b0 : ∀ W, Ext wr W → W.cell? ⟨w.heap.size, 0, none⟩ = some (.string e.1) := fun W hW => (HB.out W (HX.out.trans hW)).1
            go_wp2_with fail
            refine wp_region_held_drew (S := fun W => Ext wr W) (by kernel_rfl) (Ext.refl _).drew (fun hHeld => ?_)
            refine wpAnyH_take (i := 0) (oi := ?oiz101) (v := ?vz101) ?hiz101 (by kernel_rfl) (by kernel_rfl) (by kernel_rfl) ?hQz101 ?hyz101 (by assumption) ?restz101
            case hiz101 => simp only [List.getElem?_toArray, List.getElem?_cons_zero, List.getElem?_cons_succ]; rfl
            case hQz101 => exact fun _ _ _ h => h
            case hyz101 => exact Or.inl ⟨by rfl, by intro w hSw; (try dsimp only at hSw); go_simp; with_reducible rfl⟩
            try simp only [Act.put, List.setIfInBounds_toArray, List.set_cons_zero, List.set_cons_succ]
            refine wpAnyH_take (i := 1) (oi := ?oiz102) (v := ?vz102) ?hiz102 (by kernel_rfl) (by kernel_rfl) (by kernel_rfl) ?hQz102 ?hyz102 (by assumption) ?restz102
            case hiz102 => simp only [List.getElem?_toArray, List.getElem?_cons_zero, List.getElem?_cons_succ]; rfl
            case hQz102 => exact fun _ _ _ h => h
            case hyz102 => exact Or.inl ⟨by rfl, by intro w hSw; (try dsimp only at hSw); go_simp; with_reducible rfl⟩
            try simp only [Act.put, List.setIfInBounds_toArray, List.set_cons_zero, List.set_cons_succ]
            refine wpAnyH_take (i := 2) (oi := ?oiz103) (v := ?vz103) ?hiz103 (by kernel_rfl) (by kernel_rfl) (by kernel_rfl) ?hQz103 ?hyz103 (by assumption) ?restz103
            case hiz103 => simp only [List.getElem?_toArray, List.getElem?_cons_zero, List.getElem?_cons_succ]; rfl
            case hQz103 => exact fun _ _ _ h => h
            case hyz103 => exact Or.inl ⟨by rfl, by intro w hSw; (try dsimp only at hSw); go_simp; with_reducible rfl⟩
            try simp only [Act.put, List.setIfInBounds_toArray, List.set_cons_zero, List.set_cons_succ]
            refine wpAnyH_take (i := 3) (oi := ?oiz104) (v := ?vz104) ?hiz104 (by kernel_rfl) (by kernel_rfl) (by kernel_rfl) ?hQz104 ?hyz104 (by assumption) ?restz104
            case hiz104 => simp only [List.getElem?_toArray, List.getElem?_cons_zero, List.getElem?_cons_succ]; rfl
            case hQz104 => exact fun _ _ _ h => h
            case hyz104 => exact Or.inl ⟨by rfl, by intro w hSw; (try dsimp only at hSw); go_simp; with_reducible rfl⟩
            try simp only [Act.put, List.setIfInBounds_toArray, List.set_cons_zero, List.set_cons_succ]
            refine wpAnyH_take (i := 4) (oi := ?oiz105) (v := ?vz105) ?hiz105 (by kernel_rfl) (by kernel_rfl) (by kernel_rfl) ?hQz105 ?hyz105 (by assumption) ?restz105
            case hiz105 => simp only [List.getElem?_toArray, List.getElem?_cons_zero, List.getElem?_cons_succ]; rfl
            case hQz105 => exact fun _ _ _ h => h
            case hyz105 => exact Or.inl ⟨by rfl, by intro w hSw; (try dsimp only at hSw); go_simp; with_reducible rfl⟩
            try simp only [Act.put, List.setIfInBounds_toArray, List.set_cons_zero, List.set_cons_succ]
            refine wpAnyH_take (i := 5) (oi := ?oiz106) (v := ?vz106) ?hiz106 (by kernel_rfl) (by kernel_rfl) (by kernel_rfl) ?hQz106 ?hyz106 (by assumption) ?restz106
            case hiz106 => simp only [List.getElem?_toArray, List.getElem?_cons_zero, List.getElem?_cons_succ]; rfl
            case hQz106 => exact fun _ _ _ h => h
            case hyz106 => exact Or.inl ⟨by rfl, by intro w hSw; (try dsimp only at hSw); go_simp; with_reducible rfl⟩
            try simp only [Act.put, List.setIfInBounds_toArray, List.set_cons_zero, List.set_cons_succ]
            refine wpAnyH_take (i := 6) (oi := ?oiz107) (v := ?vz107) ?hiz107 (by kernel_rfl) (by kernel_rfl) (by kernel_rfl) ?hQz107 ?hyz107 (by assumption) ?restz107
            case hiz107 => simp only [List.getElem?_toArray, List.getElem?_cons_zero, List.getElem?_cons_succ]; rfl
            case hQz107 => exact fun _ _ _ h => h
            case hyz107 => exact Or.inl ⟨by rfl, by intro w hSw; (try dsimp only at hSw); go_simp; with_reducible rfl⟩
            try simp only [Act.put, List.setIfInBounds_toArray, List.set_cons_zero, List.set_cons_succ]
            refine wpAnyH_take (i := 7) (oi := ?oiz108) (v := ?vz108) ?hiz108 (by kernel_rfl) (by kernel_rfl) (by kernel_rfl) ?hQz108 ?hyz108 (by assumption) ?restz108
            case hiz108 => simp only [List.getElem?_toArray, List.getElem?_cons_zero, List.getElem?_cons_succ]; rfl
            case hQz108 => exact fun _ _ _ h => h
            case hyz108 => exact Or.inl ⟨by rfl, by intro w hSw; (try dsimp only at hSw); go_simp; with_reducible rfl⟩
            try simp only [Act.put, List.setIfInBounds_toArray, List.set_cons_zero, List.set_cons_succ]
            refine wpAnyH_take (i := 8) (oi := ?oiz109) (v := ?vz109) ?hiz109 (by kernel_rfl) (by kernel_rfl) (by kernel_rfl) ?hQz109 ?hyz109 (by assumption) ?restz109
            case hiz109 => simp only [List.getElem?_toArray, List.getElem?_cons_zero, List.getElem?_cons_succ]; rfl
            case hQz109 => exact fun _ _ _ h => h
            case hyz109 => exact Or.inl ⟨by rfl, by intro w hSw; (try dsimp only at hSw); go_simp; with_reducible rfl⟩
            try simp only [Act.put, List.setIfInBounds_toArray, List.set_cons_zero, List.set_cons_succ]
            refine wpAnyH_take (i := 9) (oi := ?oiz110) (v := ?vz110) ?hiz110 (by kernel_rfl) (by kernel_rfl) (by kernel_rfl) ?hQz110 ?hyz110 (by assumption) ?restz110
            case hiz110 => simp only [List.getElem?_toArray, List.getElem?_cons_zero, List.getElem?_cons_succ]; rfl
            case hQz110 => exact fun _ _ _ h => h
            case hyz110 => exact Or.inl ⟨by rfl, by intro w hSw; (try dsimp only at hSw); go_simp; with_reducible rfl⟩
            try simp only [Act.put, List.setIfInBounds_toArray, List.set_cons_zero, List.set_cons_succ]
            refine wpAnyH_take (i := 10) (oi := ?oiz111) (v := ?vz111) ?hiz111 (by kernel_rfl) (by kernel_rfl) (by kernel_rfl) ?hQz111 ?hyz111 (by assumption) ?restz111
            case hiz111 => simp only [List.getElem?_toArray, List.getElem?_cons_zero, List.getElem?_cons_succ]; rfl
            case hQz111 => exact fun _ _ _ h => h
            case hyz111 => exact Or.inl ⟨by rfl, by intro w hSw; (try dsimp only at hSw); go_simp; with_reducible rfl⟩
            try simp only [Act.put, List.setIfInBounds_toArray, List.set_cons_zero, List.set_cons_succ]
            refine wpAnyH_take (i := 11) (oi := ?oiz112) (v := ?vz112) ?hiz112 (by kernel_rfl) (by kernel_rfl) (by kernel_rfl) ?hQz112 ?hyz112 (by assumption) ?restz112
            case hiz112 => simp only [List.getElem?_toArray, List.getElem?_cons_zero, List.getElem?_cons_succ]; rfl
            case hQz112 => exact fun _ _ _ h => h
            case hyz112 => exact Or.inl ⟨by rfl, by intro w hSw; (try dsimp only at hSw); go_simp; with_reducible rfl⟩
            try simp only [Act.put, List.setIfInBounds_toArray, List.set_cons_zero, List.set_cons_succ]
            refine wpAnyH_done (by kernel_rfl) ?_ _
            clear d0 b0
            generalize wr.drew = w0 at *
            have HXa := Lib.hid (HX.out.trans hHeld)
            have HOa := Lib.hid (HO.out.ext hHeld)
            clear hHeld HX HO
            have b0 := (HB.out w0 HXa.out).1
            have b1 := (HB.out w0 HXa.out).2
            go_wp2_with (first | (refine wpl_load ⟨w.heap.size, 0, none⟩ [.string e.1, .string e.2] aggEntryI rfl _ rfl rfl (fun j u hu => by rw [Addr.add_lit, Nat.zero_add]; match j, hu with | 0, hu => rw [b0]; simpa using hu | 1, hu => rw [b1]; simpa using hu) ?_) | (at_builtin; refine wpl_append rowEnt rfl _ _ rfl (v := .slice C cn cc) rfl (HOa.out.alloc _) _ _ rfl (A := some ⟨w0.heap.size, 0, none⟩) (ys := [e]) rfl (rd_ent w0 e _) (by intro y hy; obtain rfl := List.mem_singleton.1 hy; exact HE.out) (by simp only [List.length_append, List.length_singleton]; omega) (HXa.out.alloc _).size ?_; intro v9 w9 ho1 hg1 hat1; obtain ⟨C9, n9, c9, rfl⟩ := ho1.shape3; have HO9 := Lib.hid ho1; have HX9 := Lib.hid ((HOa.out.alloc (Obj.cells #[.string e.1, .string e.2] 29)).ext_app (HXa.out.alloc _) hg1); clear ho1 hg1 hat1))
            clear b0 b1
            have d0 : ∀ W, Ext w9 W → W.cell? ⟨g, o + k * 2, none⟩ = some (.string L[k].1) := fun W hW => (HC.out W (HX9.out.trans hW)).1
            have b0 : ∀ W, Ext w9 W → W.cell? ⟨w.heap.size, 0, none⟩ = some (.string e.1) := fun W hW => (HB.out W (HX9.out.trans hW)).1
            refine wp_region_held_drew (S := fun W => Ext w9 W) (by kernel_rfl) (Ext.refl _).drew (fun hHeld => ?_)
            refine wpAnyH_take (i := 0) (oi := ?oiz113) (v := ?vz113) ?hiz113 (by kernel_rfl) (by kernel_rfl) (by kernel_rfl) ?hQz113 ?hyz113 (by assumption) ?restz113
            case hiz113 => simp only [List.getElem?_toArray, List.getElem?_cons_zero, List.getElem?_cons_succ]; rfl
            case hQz113 => exact fun _ _ _ h => h
            case hyz113 => exact Or.inl ⟨by rfl, by intro w hSw; (try dsimp only at hSw); go_simp; with_reducible rfl⟩
            try simp only [Act.put, List.setIfInBounds_toArray, List.set_cons_zero, List.set_cons_succ]
            refine wpAnyH_take (i := 1) (oi := ?oiz114) (v := ?vz114) ?hiz114 (by kernel_rfl) (by kernel_rfl) (by kernel_rfl) ?hQz114 ?hyz114 (by assumption) ?restz114
            case hiz114 => simp only [List.getElem?_toArray, List.getElem?_cons_zero, List.getElem?_cons_succ]; rfl
            case hQz114 => exact fun _ _ _ h => h
            case hyz114 => exact Or.inl ⟨by rfl, by intro w hSw; (try dsimp only at hSw); go_simp; with_reducible rfl⟩
            try simp only [Act.put, List.setIfInBounds_toArray, List.set_cons_zero, List.set_cons_succ]
            refine wpAnyH_take (i := 2) (oi := ?oiz115) (v := ?vz115) ?hiz115 (by kernel_rfl) (by kernel_rfl) (by kernel_rfl) ?hQz115 ?hyz115 (by assumption) ?restz115
            case hiz115 => simp only [List.getElem?_toArray, List.getElem?_cons_zero, List.getElem?_cons_succ]; rfl
            case hQz115 => exact fun _ _ _ h => h
            case hyz115 => exact Or.inl ⟨by rfl, by intro w hSw; (try dsimp only at hSw); go_simp; with_reducible rfl⟩
            try simp only [Act.put, List.setIfInBounds_toArray, List.set_cons_zero, List.set_cons_succ]
            refine wpAnyH_take (i := 3) (oi := ?oiz116) (v := ?vz116) ?hiz116 (by kernel_rfl) (by kernel_rfl) (by kernel_rfl) ?hQz116 ?hyz116 (by assumption) ?restz116
            case hiz116 => simp only [List.getElem?_toArray, List.getElem?_cons_zero, List.getElem?_cons_succ]; rfl
            case hQz116 => exact fun _ _ _ h => h
            case hyz116 => exact Or.inl ⟨by rfl, by intro w hSw; (try dsimp only at hSw); go_simp; with_reducible rfl⟩
            try simp only [Act.put, List.setIfInBounds_toArray, List.set_cons_zero, List.set_cons_succ]
            refine wpAnyH_take (i := 4) (oi := ?oiz117) (v := ?vz117) ?hiz117 (by kernel_rfl) (by kernel_rfl) (by kernel_rfl) ?hQz117 ?hyz117 (by assumption) ?restz117
            case hiz117 => simp only [List.getElem?_toArray, List.getElem?_cons_zero, List.getElem?_cons_succ]; rfl
            case hQz117 => exact fun _ _ _ h => h
            case hyz117 => exact Or.inl ⟨by rfl, by intro w hSw; (try dsimp only at hSw); go_simp; with_reducible rfl⟩
            try simp only [Act.put, List.setIfInBounds_toArray, List.set_cons_zero, List.set_cons_succ]
            refine wpAnyH_take (i := 5) (oi := ?oiz118) (v := ?vz118) ?hiz118 (by kernel_rfl) (by kernel_rfl) (by kernel_rfl) ?hQz118 ?hyz118 (by assumption) ?restz118
            case hiz118 => simp only [List.getElem?_toArray, List.getElem?_cons_zero, List.getElem?_cons_succ]; rfl
            case hQz118 => exact fun _ _ _ h => h
            case hyz118 => exact Or.inl ⟨by rfl, by intro w hSw; (try dsimp only at hSw); go_simp; with_reducible rfl⟩
            try simp only [Act.put, List.setIfInBounds_toArray, List.set_cons_zero, List.set_cons_succ]
            refine wpAnyH_take (i := 6) (oi := ?oiz119) (v := ?vz119) ?hiz119 (by kernel_rfl) (by kernel_rfl) (by kernel_rfl) ?hQz119 ?hyz119 (by assumption) ?restz119
            case hiz119 => simp only [List.getElem?_toArray, List.getElem?_cons_zero, List.getElem?_cons_succ]; rfl
            case hQz119 => exact fun _ _ _ h => h
            case hyz119 => exact Or.inl ⟨by rfl, by intro w hSw; (try dsimp only at hSw); go_simp; with_reducible rfl⟩
            try simp only [Act.put, List.setIfInBounds_toArray, List.set_cons_zero, List.set_cons_succ]
            refine wpAnyH_take (i := 7) (oi := ?oiz120) (v := ?vz120) ?hiz120 (by kernel_rfl) (by kernel_rfl) (by kernel_rfl) ?hQz120 ?hyz120 (by assumption) ?restz120
            case hiz120 => simp only [List.getElem?_toArray, List.getElem?_cons_zero, List.getElem?_cons_succ]; rfl
            case hQz120 => exact fun _ _ _ h => h
            case hyz120 => exact Or.inl ⟨by rfl, by intro w hSw; (try dsimp only at hSw); go_simp; with_reducible rfl⟩
            try simp only [Act.put, List.setIfInBounds_toArray, List.set_cons_zero, List.set_cons_succ]
            refine wpAnyH_done (by kernel_rfl) ?_ _
            clear d0 b0
            generalize w9.drew = wb at *
            have HXb := Lib.hid (HX9.out.trans hHeld)
            have HOb := Lib.hid (HO9.out.ext hHeld)
            clear hHeld
            have d0 := (HC.out wb HXb.out).1
            have d1 := (HC.out wb HXb.out).2
            go_wp2_with (first | (refine wpl_load ⟨g, o + k * 2, none⟩ [.string L[k].1, .string L[k].2] aggEntryI rfl _ rfl rfl (fun j u hu => by rw [Addr.add_lit]; match j, hu with | 0, hu => rw [Nat.add_zero, d0]; simpa using hu | 1, hu => rw [d1]; simpa using hu) ?_) | (at_builtin; refine wpl_append rowEnt rfl _ _ rfl (v := .slice C9 n9 c9) rfl (HOb.out.alloc _) _ _ rfl (A := some ⟨wb.heap.size, 0, none⟩) (ys := [L[k]]) rfl (rd_ent wb L[k] _) (by intro y hy; obtain rfl := List.mem_singleton.1 hy; exact HX0.out) (by simp only [List.length_append, List.length_singleton]; omega) (HXb.out.alloc _).size ?_; intro vz wz ho1 hg1 hat1; obtain ⟨Cz, nz, cz, rfl⟩ := ho1.shape3; have HOz := Lib.hid ho1; have HXz := Lib.hid ((HOb.out.alloc (Obj.cells #[.string L[k].1, .string L[k].2] 29)).ext_app (HXb.out.alloc _) hg1); clear ho1 hg1 hat1))
            go_roundw
            case rel => exact ⟨k + 1, (R ++ [e] ++ [L[k]], true), by omega, by go_num, rfl, by rw [HN.out, HST.out, HQ.out], HOz.out, by simp; omega, HXz.out⟩
            case measure => simp [intOf]; omega
    · obtain rfl : k = L.length := by omega
      rw [List.take_length] at HST
      have HF := Lib.hid (show putF e L = (R, fl) from HST.out)
      cases fl with
      | true =>
        go_wp2
        go_ret
        exact ⟨_, rfl, by rw [HF.out]; exact HO.out.le HXX.out.size, HXX.out.trans HX.out⟩
      | false =>
        have b0 := (HB.out wr HX.out).1
        have b1 := (HB.out wr HX.out).2
        go_wp2_with (first
          | (refine wpl_load ⟨w.heap.size, 0, none⟩ [.string e.1, .string e.2] aggEntryI rfl _ rfl rfl (fun j u hu => by rw [Addr.add_lit, Nat.zero_add]; match j, hu with | 0, hu => rw [b0]; simpa using hu | 1, hu => rw [b1]; simpa using hu) ?_)
          | (at_builtin; refine wpl_append rowEnt rfl _ _ rfl (v := .slice C cn cc) rfl (HO.out.alloc _) _ _ rfl (A := some ⟨wr.heap.size, 0, none⟩) (ys := [e]) rfl (rd_ent wr e _) (by intro y hy; obtain rfl := List.mem_singleton.1 hy; exact HE.out) (by simp only [List.length_append, List.length_singleton]; omega) (HX.out.alloc _).size ?_; intro v9 w9 ho1 hg1 hat1; obtain ⟨C9, n9, c9, rfl⟩ := ho1.shape3; have HO9 := Lib.hid ho1; have HX9 := Lib.hid ((HO.out.alloc (Obj.cells #[.string e.1, .string e.2] 29)).ext_app (HX.out.alloc _) hg1); clear ho1 hg1 hat1))
        go_ret
        exact ⟨_, rfl, by rw [HF.out]; exact HO9.out.le HXX.out.size, HXX.out.trans HX9.out⟩
end Go.Proofs.Ytmndkbheehcoaaa
/- An entry put into a map: the reference. No condition. -/
namespace Go.Proofs.Ytmndkbheehcoaaa
open Go.RowKit
set_option linter.unusedVariables false
set_option linter.unusedSimpArgs false

def putR (L : List En) (e : En) : List En × Int := if okE L && entB e.1 e.2 then (if 64 < (putEnd e (putF e L)).length then ([], 3) else (putEnd e (putF e L), 0)) else ([], 1)
set_option maxHeartbeats 1000000 in
set_option maxRecDepth 100000 in
theorem specPutEntry_any (v : Value) (L : List En) (e : En) (he : tEnt.ok e) (w : World) (S : Nat → Prop) (h : RdL tEnt w S v L) :
    Calls Try.prog 66 #[v, .agg #[.string e.1, .string e.2]] w fun q w' => ∃ v', q = .returned (.tuple #[v', .int .i64 (putR L e).2]) ∧ Own tEnt 29 w' w.heap.size v' (putR L e).1 ∧ Ext w w' := by
  have hwx : ∃ wx, wx = w.alloc (.cells #[.string e.1, .string e.2] 29) := ⟨_, rfl⟩
  obtain ⟨wx, hwx⟩ := hwx
  have HB := Lib.hid (show ∀ W, Ext wx W → W.cell? ⟨w.heap.size, 0, none⟩ = some (.string e.1) ∧ W.cell? ⟨w.heap.size, 1, none⟩ = some (.string e.2) from fun W hW => by
    subst hwx
    exact ⟨hW.cell (by rw [(Blk.new w _ _).cell]; rfl), hW.cell (by rw [(Blk.new w _ _).cell]; rfl)⟩)
  have HXX := Lib.hid (show Ext w wx by subst hwx; exact ext_alloc _ _)
  have H := Lib.hid h
  have hc := l04Ok_any v L wx S (h.ext (by decide) HXX.out)
  have hn := fun W hW => l04Entry_any e.1 e.2 he.1 he.2 w.heap.size 0 W (HB.out W hW).1 (HB.out W hW).2
  have hp := fun W hW h64 => l04Put_any v L e he W S (h.ext (by decide) hW) h64
  obtain ⟨A, cap, rfl, hcap, hlen, _⟩ := h
  cases hb : okE L with
  | false =>
    simp only [putR, hb, Bool.false_and, Bool.false_eq_true, if_false]
    simp only [hb] at hc
    clear hb
    go_enter Try.func66, Try.ntmps66
    go_wp2_with fail
    rw [← hwx]
    refine hc.mono ?_
    rintro q w1 ⟨rfl, hx⟩
    have HX := Lib.hid (HXX.out.trans hx)
    clear hx hwx
    go_wp2
    go_ret2
    exact ⟨_, rfl, Own.empty tEnt _ 29 _ HX.out.size, HX.out.alloc _⟩
  | true =>
    obtain ⟨hinc, h64⟩ := okE_incs' hb
    simp only [hb] at hc
    cases hb2 : entB e.1 e.2 with
    | false =>
      simp only [putR, hb, hb2, Bool.and_false, Bool.false_eq_true, if_false]
      simp only [hb2] at hn
      clear hb hb2
      go_enter Try.func66, Try.ntmps66
      go_wp2_with fail
      rw [← hwx]
      refine hc.mono ?_
      rintro q w1 ⟨rfl, hx⟩
      have HX := Lib.hid hx
      have HX2 := Lib.hid (HXX.out.trans hx)
      clear hx hwx
      go_wp2_with fail
      refine (hn _ HX.out).mono ?_
      rintro q w' ⟨rfl, rfl⟩
      go_wp2
      go_ret2
      exact ⟨_, rfl, Own.empty tEnt _ 29 _ HX2.out.size, HX2.out.alloc _⟩
    | true =>
      simp only [putR, hb, hb2, Bool.and_true, if_true]
      simp only [hb2] at hn
      clear hb hb2
      obtain ⟨Z, hZ⟩ : ∃ Z, putEnd e (putF e L) = Z := ⟨_, rfl⟩
      simp only [hZ] at hp ⊢
      go_enter Try.func66, Try.ntmps66
      go_wp2_with fail
      rw [← hwx]
      refine hc.mono ?_
      rintro q w1 ⟨rfl, hx⟩
      have HX := Lib.hid hx
      have HX2 := Lib.hid (HXX.out.trans hx)
      clear hx hwx
      go_wp2_with fail
      refine (hn _ HX.out).mono ?_
      rintro q w' ⟨rfl, rfl⟩
      have b0 := (HB.out _ HX.out).1
      have b1 := (HB.out _ HX.out).2
      go_wp2_with (refine wpl_load ⟨w.heap.size, 0, none⟩ [.string e.1, .string e.2] aggEntryI rfl _ rfl rfl (fun j u hu => by rw [Addr.add_lit, Nat.zero_add]; match j, hu with | 0, hu => rw [b0]; simpa using hu | 1, hu => rw [b1]; simpa using hu) ?_)
      refine (hp _ HX2.out h64).mono ?_
      rintro q w2 ⟨v2, rfl, ho, hx⟩
      have HO := Lib.hid (ho.le (base' := w.heap.size) HX2.out.size)
      have HX3 := Lib.hid (HX2.out.trans hx)
      obtain ⟨A2, c2, rfl⟩ := ho.shape
      clear ho hx
      by_cases hl : 64 < Z.length
      · have hif := Lib.hid (show (if 64 < Z.length then (([], 3) : List En × Int) else (Z, 0)) = ([], 3) from if_pos hl)
        have hl2 : (64 : Int) < (Z.length : Int) := by omega
        go_wp2
        go_ret2
        exact ⟨_, by (try simp only [if_pos hl]); (try rw [if_pos hl]); rfl, by (try simp only [if_pos hl]); (try rw [if_pos hl]); exact Own.empty tEnt _ 29 _ HX3.out.size, HX3.out.alloc _⟩
      · have hif := Lib.hid (show (if 64 < Z.length then (([], 3) : List En × Int) else (Z, 0)) = (Z, 0) from if_neg hl)
        have hl2 : ¬ (64 : Int) < (Z.length : Int) := by omega
        go_wp2
        go_ret2
        exact ⟨_, by (try simp only [if_neg hl]); (try rw [if_neg hl]); rfl, by (try simp only [if_neg hl]); (try rw [if_neg hl]); exact HO.out, HX3.out⟩
end Go.Proofs.Ytmndkbheehcoaaa
/- The entries of a range: the program's predicate; the first entry outside. No condition. -/
namespace Go.Proofs.Ytmndkbheehcoaaa
open Go.RowKit
set_option linter.unusedVariables false
set_option linter.unusedSimpArgs false

set_option maxHeartbeats 400000 in
theorem cloneE_any (v : Value) (xs : List En) (w : World) (S : Nat → Prop) (h : RdL tEnt w S v xs) (hl : xs.length * 32 ≤ 140737488351232) :
    Calls Try.prog 120 #[v] w fun e w' => ∃ v', e = .returned v' ∧ Own tEnt 29 w' w.heap.size v' xs ∧ Ext w w' := by
  obtain ⟨A, cap, rfl, hcap, hlen, hrd, hok⟩ := h
  have Hrd := Lib.hid hrd
  have Hok := Lib.hid hok
  clear hrd hok
  rcases A with _ | ad
  · have h0 : xs.length = 0 := by
      rcases Nat.eq_zero_or_pos xs.length with h0 | h0
      · exact h0
      · obtain ⟨g, o, h, _⟩ := Hrd.out.2 h0
        cases h
    obtain rfl : xs = [] := List.eq_nil_of_length_eq_zero h0
    have he : ∀ W : World, (binOp .eql 34 (.slice none 0 cap) (.slice none 0 0)).run Try.prog W = .ok (.bool true) W := fun W => Lib.run_eql_slice_nil W 34 _ none 0 cap 0 0 Try.underlying34
    go_enter Try.func120, Try.ntmps120
    go_wp2_with fail
    go_ret
    exact ⟨_, rfl, Own.nil _ _ _ _, Ext.refl _⟩
  · have he : ∀ W : World, (binOp .eql 34 (.slice (some ad) xs.length cap) (.slice none 0 0)).run Try.prog W = .ok (.bool false) W := fun W => Lib.run_eql_slice_nil W 34 _ (some ad) xs.length cap 0 0 Try.underlying34
    go_enter Try.func120, Try.ntmps120
    go_wp2_with (at_builtin; refine wpl_append rowEnt rfl _ _ rfl rfl (Own.empty tEnt _ 29 w.heap.size (Nat.le_refl _)) _ _ rfl rfl (Hrd.out.ext (by decide) (ext_alloc _ _)) Hok.out (by simp; omega) (by simp) ?_; intro v1 w1 ho1 hg1 hat1; obtain ⟨A1, c1, rfl⟩ := ho1.shape; have HO := Lib.hid ho1; have HG := Lib.hid hg1; clear ho1 hg1 hat1)
    go_ret
    exact ⟨_, rfl, HO.out, (ext_alloc _ _).grown HG.out (fun k hk => Nat.le_of_eq (Option.some.inj hk))⟩


set_option maxHeartbeats 1000000 in
set_option maxRecDepth 100000 in
theorem rangeFn_any (e : En) (lo hi : ByteArray) (p r : Nat) (w : World) (hp : w.cell? ⟨p, 0, none⟩ = some (.string lo)) (hr : w.cell? ⟨r, 0, none⟩ = some (.string hi)) :
    Calls Try.prog 121 #[.agg #[.string e.1, .string e.2], .pointer (some ⟨p, 0, none⟩), .pointer (some ⟨r, 0, none⟩)] w fun q w' => q = .returned (.bool (!inR lo hi e)) ∧ Ext w w' := by
  have hp2 : ∀ o, (w.alloc o).cell? ⟨p, 0, none⟩ = some (.string lo) := fun o => (ext_alloc w o).cell hp
  have hr2 : ∀ o, (w.alloc o).cell? ⟨r, 0, none⟩ = some (.string hi) := fun o => (ext_alloc w o).cell hr
  cases h1 : ltB e.1 lo with
  | true =>
    have h1' : Op.bytesLess e.1.toList lo.toList = true := by rw [ltB_eq]; exact h1
    have HQ := Lib.hid (show inR lo hi e = false by rw [inR_eq, h1]; rfl)
    clear h1
    go_enter Try.func121, Try.ntmps121
    go_wp2
    go_ret
    exact ⟨by rw [HQ.out]; rfl, ext_alloc _ _⟩
  | false =>
    have h1' : Op.bytesLess e.1.toList lo.toList = false := by rw [ltB_eq]; exact h1
    have h2' : Op.bytesLess e.1.toList hi.toList = ltB e.1 hi := ltB_eq _ _
    have HQ := Lib.hid (show inR lo hi e = ltB e.1 hi by rw [inR_eq, h1]; rfl)
    clear h1
    go_enter Try.func121, Try.ntmps121
    go_wp2
    go_ret
    exact ⟨by rw [HQ.out]; rfl, ext_alloc _ _⟩
set_option maxHeartbeats 1000000 in
set_option maxRecDepth 100000 in
theorem rangeIdx_any (v : Value) (xs : List En) (lo hi : ByteArray) (p r : Nat) (w : World) (S : Nat → Prop) (h : RdL tEnt w S v xs) (hp : w.cell? ⟨p, 0, none⟩ = some (.string lo)) (hr : w.cell? ⟨r, 0, none⟩ = some (.string hi)) :
    Calls Try.prog 157 #[v, .func (.func 121) #[] #[.pointer (some ⟨p, 0, none⟩), .pointer (some ⟨r, 0, none⟩)]] w fun q w' => (∃ k : Nat, k ≤ xs.length ∧ (∀ j (hj : j < xs.length), j < k → inR lo hi xs[j] = true) ∧ ((k = xs.length ∧ q = .returned (.int .i64 (-1))) ∨ (∃ hk : k < xs.length, inR lo hi xs[k] = false ∧ q = .returned (.int .i64 k)))) ∧ Ext w w' := by
  obtain ⟨A, cap, rfl, hcap, hlen, hrd, hok⟩ := h
  have Hrd := Lib.hid hrd
  have Hok := Lib.hid hok
  have HP := Lib.hid hp
  have HR := Lib.hid hr
  clear hrd hok hp hr
  go_enter Try.func157, Try.ntmps157
  go_wp2
  go_loopw [8] (fun i wr => ∃ k : Nat, k ≤ xs.length ∧ i = .int .i64 k ∧ (∀ j (hj : j < xs.length), j < k → inR lo hi xs[j] = true) ∧ Ext w wr) (fun i _ => xs.length - (intOf i).toNat)
  case atStart => exact ⟨0, by omega, rfl, fun j hj h => by omega, Ext.refl _⟩
  case round =>
    obtain ⟨k, hk, rfl, hm, hx⟩ := hrel
    have HX := Lib.hid hx
    have HM := Lib.hid hm
    clear hx hm
    by_cases hlt : k < xs.length
    · obtain ⟨g, o, rfl, hs0, hc⟩ := Hrd.out.elem Hok.out k hlt
      have HD0 := Lib.hid (show ∀ j u, (tEnt.enc xs[k])[j]? = some u → wr.cell? ⟨g, o + k * 2 + j, none⟩ = some u from fun j u hu => HX.out.cell (hc j u hu))
      have hf := rangeFn_any xs[k] lo hi p r wr (HX.out.cell HP.out) (HX.out.cell HR.out)
      have hk0 : (0 : Int) ≤ (k : Int) := by omega
      have hk2 : (k : Int) < (xs.length : Int) := by omega
      clear hc
      cases hq : inR lo hi xs[k] with
      | true =>
        simp only [hq] at hf
        go_wp2_with (refine wpl_load ⟨g, o + k * 2, none⟩ [.string xs[k].1, .string xs[k].2] aggEntryI rfl _ rfl rfl (fun j u hu => by rw [Addr.add_lit]; exact HD0.out j u hu) ?_)
        refine hf.mono ?_
        rintro e w1 ⟨rfl, hx⟩
        have HX1 := Lib.hid (HX.out.trans hx)
        clear hx hf
        go_wp2
        go_roundw
        case rel => exact ⟨k + 1, by omega, by go_num, fun j hj h => by
          by_cases e : j = k
          · subst e; exact hq
          · exact HM.out j hj (by omega), HX1.out⟩
        case measure => simp [intOf]; omega
      | false =>
        simp only [hq] at hf
        go_wp2_with (refine wpl_load ⟨g, o + k * 2, none⟩ [.string xs[k].1, .string xs[k].2] aggEntryI rfl _ rfl rfl (fun j u hu => by rw [Addr.add_lit]; exact HD0.out j u hu) ?_)
        refine hf.mono ?_
        rintro e w1 ⟨rfl, hx⟩
        have HX1 := Lib.hid (HX.out.trans hx)
        clear hx hf
        go_wp2
        go_ret
        exact ⟨⟨k, hk, HM.out, .inr ⟨hlt, hq, rfl⟩⟩, HX1.out⟩
    · obtain rfl : k = xs.length := by omega
      go_wp2
      go_ret
      exact ⟨⟨xs.length, hk, HM.out, .inl ⟨rfl, rfl⟩⟩, HX.out⟩
end Go.Proofs.Ytmndkbheehcoaaa
/- An entry put into a map: the program. No condition. -/
namespace Go.Proofs.Ytmndkbheehcoaaa
open Go.RowKit
set_option linter.unusedVariables false
set_option linter.unusedSimpArgs false

def putI (L : List En) (e : En) : List En × Int := if hasE L e.1 then (L.set (posE L e.1) e, 0) else if L.length = 64 then ([], 3) else (insR L (posE L e.1) e, 0)
/-- both make the same -/
theorem putI_eq {L : List En} {e : En} (hb : okE L = true) (hb2 : entB e.1 e.2 = true) : putR L e = putI L e := by
  obtain ⟨hinc, h64⟩ := okE_incs' hb
  have hp := (posE_facts L e.1).1
  simp only [putR, hb, hb2, Bool.and_true, if_true, putF_eq hinc, putI]
  cases hh : hasE L e.1 with
  | true =>
    have hlt := hasE_lt' hh
    have e1 : L.set (posE L e.1) e = L.take (posE L e.1) ++ [e] ++ L.drop (posE L e.1 + 1) := by
      rw [List.set_eq_take_append_cons_drop, if_pos hlt, List.append_assoc, List.singleton_append]
    have e2 : (L.take (posE L e.1) ++ [e] ++ L.drop (posE L e.1 + 1)).length = L.length := by rw [← e1, List.length_set]
    simp only [if_true]
    rw [e2, if_neg (by omega), e1]
  | false =>
    have e1 : (L.take (posE L e.1) ++ [e] ++ L.drop (posE L e.1)).length = L.length + 1 := insR_length e hp
    simp only [Bool.false_eq_true, if_false]
    rw [e1]
    by_cases h : L.length = 64
    · rw [if_pos (by omega), if_pos h]
    · rw [if_neg (by omega), if_neg h]; rfl
set_option maxHeartbeats 1000000 in
set_option maxRecDepth 100000 in
theorem put_any (v : Value) (L : List En) (e : En) (he : tEnt.ok e) (hinc : incs L L.length = true) (h64 : L.length ≤ 64) (w : World) (S : Nat → Prop) (h : RdL tEnt w S v L) :
    Calls Try.prog 127 #[v, .agg #[.string e.1, .string e.2]] w fun q w' => ∃ v', q = .returned (.tuple #[v', .int .i64 (putI L e).2]) ∧ Own tEnt 29 w' w.heap.size v' (putI L e).1 ∧ Ext w w' := by
  have hpl := (posE_facts L e.1).1
  have hwx : ∃ wx, wx = w.alloc (.cells #[.string e.1, .string e.2] 29) := ⟨_, rfl⟩
  obtain ⟨wx, hwx⟩ := hwx
  have HB := Lib.hid (show ∀ W, Ext wx W → W.cell? ⟨w.heap.size, 0, none⟩ = some (.string e.1) ∧ W.cell? ⟨w.heap.size, 1, none⟩ = some (.string e.2) from fun W hW => by
    subst hwx
    exact ⟨hW.cell (by rw [(Blk.new w _ _).cell]; rfl), hW.cell (by rw [(Blk.new w _ _).cell]; rfl)⟩)
  have HXX := Lib.hid (show Ext w wx by subst hwx; exact ext_alloc _ _)
  have HSX := Lib.hid (show wx.heap.size = w.heap.size + 1 by subst hwx; simp)
  have H := Lib.hid h
  have hclone := cloneE_any v L wx S (h.ext (by decide) HXX.out) (by omega)
  obtain ⟨k, hk⟩ : ∃ k, posE L e.1 = k := ⟨_, rfl⟩
  have hf := fun v W S hW => find_any v L hinc e.1 W S hW
  rw [hk] at hpl
  simp only [hk] at hf
  obtain ⟨A, cap, rfl, hcap, hlen, _⟩ := h
  cases hh : hasE L e.1 with
  | true =>
    have hlt := hasE_lt' hh
    rw [hk] at hlt
    simp only [putI, hh, if_true, hk]
    simp only [hh] at hf
    clear hh hk hinc
    go_enter Try.func127, Try.ntmps127
    go_wp2_with fail
    rw [← hwx]
    refine hclone.mono ?_
    rintro q w1 ⟨v1, rfl, ho, hx⟩
    have b0 := (HB.out _ hx).1
    have hr := ho.rd
    have hbw := ho.base_le
    have HO := Lib.hid ho
    have HX := Lib.hid (HXX.out.trans hx)
    have HX0 := Lib.hid hx
    obtain ⟨A1, c1, rfl⟩ := ho.shape
    clear ho hx hclone hwx
    go_wp2_with fail
    refine (hf _ w1 _ hr).mono ?_
    rintro q w2 ⟨rfl, hx⟩
    have b0 := (HB.out _ (HX0.out.trans hx)).1
    have b1 := (HB.out _ (HX0.out.trans hx)).2
    have HX2 := Lib.hid (HX.out.trans hx)
    have ho2 := HO.out.ext hx
    obtain ⟨g, cap2, cur, hv, hgb, hgl, hB, hcs, hnc, hcm, hat⟩ := at_of_own ho2 (by omega)
    injection hv with hv1 hv2 hv3
    subst hv1 hv3
    have HB2 := Lib.hid hB
    have HAT := Lib.hid hat
    have HOK := Lib.hid HO.out.2.2
    have hst : St 2 #[.string e.1, .string e.2] := ⟨rfl, fun u hu => by simp at hu; rcases hu with rfl | rfl <;> rfl⟩
    have hne : w.heap.size ≠ g := by have := HSX.out; omega
    have i1 : (0 : Int) ≤ (k : Int) := by omega
    have i2 : (k : Int) < (L.length : Int) := by omega
    clear hx hat hB ho2 HO hr hbw hf
    go_wp2_with (first
      | (refine wpl_load ⟨w.heap.size, 0, none⟩ [.string e.1, .string e.2] aggEntryI rfl _ rfl rfl (fun j u hu => by rw [Addr.add_lit, Nat.zero_add]; match j, hu with | 0, hu => rw [b0]; simpa using hu | 1, hu => rw [b1]; simpa using hu) ?_)
      | (refine wpl_storeP (off := k * 2) HB2.out aggEntryI hst (by rw [hcs]; omega) rfl _ _ rfl rfl rfl rfl ?_))
    go_ret2
    refine ⟨_, rfl, ?_, HX2.out.setRow (by have := HSX.out; omega) _⟩
    have hfit : k * 2 + 2 ≤ cur.size := by rw [hcs]; omega
    have hsz : (splice cur (k * 2) [.string e.1, .string e.2]).size = c1 * 2 := by rw [splice_size _ _ _ hfit, hcs]
    have := own_of_at (base := w.heap.size) (cap := c1) (xs := L.set k e) (HB2.out.setRow (splice cur (k * 2) [.string e.1, .string e.2])) (by have := HSX.out; omega) hsz (by rw [List.length_set]; exact hnc) hcm (by rw [List.length_set]; omega) (fun x hx => by
      rcases List.mem_or_eq_of_mem_set hx with hx | rfl
      · exact HOK.out x hx
      · exact he) (fun i hi => by
      rw [List.length_set] at hi
      rw [List.getElem_set]
      split
      · subst_vars
        exact at_put cur _ e hfit
      · exact at_far hfit (by omega) (HAT.out i hi))
    rw [List.length_set] at this
    exact this
  | false =>
    by_cases hl : L.length = 64
    · simp only [putI, hh, Bool.false_eq_true, if_false, if_pos hl]
      simp only [hh] at hf
      have l1 : ((L.length : Int) == 64) = true := by rw [hl]; rfl
      have HL := Lib.hid hl
      clear hh hk hinc hl
      go_enter Try.func127, Try.ntmps127
      go_wp2_with fail
      rw [← hwx]
      refine hclone.mono ?_
      rintro q w1 ⟨v1, rfl, ho, hx⟩
      have b0 := (HB.out _ hx).1
      have hr := ho.rd
      have HX := Lib.hid (HXX.out.trans hx)
      obtain ⟨A1, c1, rfl⟩ := ho.shape
      clear ho hx hclone hwx
      go_wp2_with fail
      refine (hf _ w1 _ hr).mono ?_
      rintro q w2 ⟨rfl, hx⟩
      have HX2 := Lib.hid (HX.out.trans hx)
      clear hx hr hf
      go_wp2
      go_ret2
      exact ⟨_, rfl, Own.nil _ _ _ _, HX2.out⟩
    · simp only [putI, hh, Bool.false_eq_true, if_false, if_neg hl, hk]
      simp only [hh] at hf
      have l1 : ((L.length : Int) == 64) = false := by rw [beq_eq_false_iff_ne]; omega
      clear hh hk hinc
      go_enter Try.func127, Try.ntmps127
      go_wp2_with fail
      rw [← hwx]
      refine hclone.mono ?_
      rintro q w1 ⟨v1, rfl, ho, hx⟩
      have b0 := (HB.out _ hx).1
      have hr := ho.rd
      have HX := Lib.hid (HXX.out.trans hx)
      have HX0 := Lib.hid hx
      have HO := Lib.hid ho
      obtain ⟨A1, c1, rfl⟩ := ho.shape
      clear ho hx hclone hwx
      go_wp2_with fail
      refine (hf _ w1 _ hr).mono ?_
      rintro q w2 ⟨rfl, hx⟩
      have b0 := (HB.out _ (HX0.out.trans hx)).1
      have b1 := (HB.out _ (HX0.out.trans hx)).2
      have HX2 := Lib.hid (HX.out.trans hx)
      have HX20 := Lib.hid (HX0.out.trans hx)
      have HO2 := Lib.hid (HO.out.ext hx)
      have HW := Lib.hid (show wx.heap.size ≤ w2.heap.size from HX20.out.size)
      have HBL := Lib.hid HO2.out.base_le
      have hins := insE_any _ L k e he (w2.alloc (.cells #[.string e.1, .string e.2] 29)) wx.heap.size w2.heap.size 29 (HO2.out.alloc _) hpl h64 (Blk.new w2 _ _) (by have := HW.out; simp; omega) (fun h => by have := HBL.out _ h; omega)
      clear hx hr hf HO
      go_wp2_with (refine wpl_load ⟨w.heap.size, 0, none⟩ [.string e.1, .string e.2] aggEntryI rfl _ rfl rfl (fun j u hu => by rw [Addr.add_lit, Nat.zero_add]; match j, hu with | 0, hu => rw [b0]; simpa using hu | 1, hu => rw [b1]; simpa using hu) ?_)
      refine hins.mono ?_
      rintro q w3 ⟨v3, rfl, ho, hg⟩
      have HO3 := Lib.hid (ho.le (base' := w.heap.size) (by have := HSX.out; omega))
      have HX3 := Lib.hid ((HX2.out.alloc _).grown hg (fun q hq => by have := HBL.out q hq; have := HSX.out; omega))
      clear ho hg hins
      go_wp2
      go_ret2
      exact ⟨_, rfl, HO3.out, HX3.out⟩
set_option maxHeartbeats 1000000 in
set_option maxRecDepth 100000 in
theorem implPutEntry_any (v : Value) (L : List En) (e : En) (he : tEnt.ok e) (w : World) (S : Nat → Prop) (h : RdL tEnt w S v L) :
    Calls Try.prog 65 #[v, .agg #[.string e.1, .string e.2]] w fun q w' => ∃ v', q = .returned (.tuple #[v', .int .i64 (putR L e).2]) ∧ Own tEnt 29 w' w.heap.size v' (putR L e).1 ∧ Ext w w' := by
  have hwx : ∃ wx, wx = w.alloc (.cells #[.string e.1, .string e.2] 29) := ⟨_, rfl⟩
  obtain ⟨wx, hwx⟩ := hwx
  have HB := Lib.hid (show ∀ W, Ext wx W → W.cell? ⟨w.heap.size, 0, none⟩ = some (.string e.1) ∧ W.cell? ⟨w.heap.size, 1, none⟩ = some (.string e.2) from fun W hW => by
    subst hwx
    exact ⟨hW.cell (by rw [(Blk.new w _ _).cell]; rfl), hW.cell (by rw [(Blk.new w _ _).cell]; rfl)⟩)
  have HXX := Lib.hid (show Ext w wx by subst hwx; exact ext_alloc _ _)
  have H := Lib.hid h
  have hc := validEntries_any v L wx S (h.ext (by decide) HXX.out)
  have hn := fun W => validEntry_any e.1 e.2 he.1 he.2 W
  have hp := fun hb W hW => put_any v L e he (okE_incs' hb).1 (okE_incs' hb).2 W S (h.ext (by decide) hW)
  obtain ⟨A, cap, rfl, hcap, hlen, _⟩ := h
  cases hb : okE L with
  | false =>
    simp only [putR, hb, Bool.false_and, Bool.false_eq_true, if_false]
    simp only [hb] at hc
    clear hb hp
    go_enter Try.func65, Try.ntmps65
    go_wp2_with fail
    rw [← hwx]
    refine hc.mono ?_
    rintro q w1 ⟨rfl, hx⟩
    have HX := Lib.hid (HXX.out.trans hx)
    clear hx hwx
    go_wp2
    go_ret2
    exact ⟨_, rfl, Own.nil _ _ _ _, HX.out⟩
  | true =>
    simp only [hb] at hc
    cases hb2 : entB e.1 e.2 with
    | false =>
      simp only [putR, hb, hb2, Bool.and_false, Bool.false_eq_true, if_false]
      simp only [hb2] at hn
      clear hb hb2 hp
      go_enter Try.func65, Try.ntmps65
      go_wp2_with fail
      rw [← hwx]
      refine hc.mono ?_
      rintro q w1 ⟨rfl, hx⟩
      have HX := Lib.hid (HXX.out.trans hx)
      have b0 := (HB.out _ hx).1
      have b1 := (HB.out _ hx).2
      clear hx hwx
      go_wp2_with (refine wpl_load ⟨w.heap.size, 0, none⟩ [.string e.1, .string e.2] aggEntryI rfl _ rfl rfl (fun j u hu => by rw [Addr.add_lit, Nat.zero_add]; match j, hu with | 0, hu => rw [b0]; simpa using hu | 1, hu => rw [b1]; simpa using hu) ?_)
      refine (hn _).mono ?_
      rintro q w2 ⟨rfl, hx⟩
      have HX2 := Lib.hid (HX.out.trans hx)
      clear hx
      go_wp2
      go_ret2
      exact ⟨_, rfl, Own.nil _ _ _ _, HX2.out⟩
    | true =>
      rw [putI_eq hb hb2]
      simp only [hb2] at hn
      replace hp := hp hb
      clear hb hb2
      go_enter Try.func65, Try.ntmps65
      go_wp2_with fail
      rw [← hwx]
      refine hc.mono ?_
      rintro q w1 ⟨rfl, hx⟩
      have HX := Lib.hid (HXX.out.trans hx)
      have HX0 := Lib.hid hx
      have b0 := (HB.out _ hx).1
      have b1 := (HB.out _ hx).2
      clear hx hwx
      go_wp2_with (refine wpl_load ⟨w.heap.size, 0, none⟩ [.string e.1, .string e.2] aggEntryI rfl _ rfl rfl (fun j u hu => by rw [Addr.add_lit, Nat.zero_add]; match j, hu with | 0, hu => rw [b0]; simpa using hu | 1, hu => rw [b1]; simpa using hu) ?_)
      refine (hn _).mono ?_
      rintro q w2 ⟨rfl, hx⟩
      have HX2 := Lib.hid (HX.out.trans hx)
      have b0 := (HB.out _ (HX0.out.trans hx)).1
      have b1 := (HB.out _ (HX0.out.trans hx)).2
      clear hx
      go_wp2_with (refine wpl_load ⟨w.heap.size, 0, none⟩ [.string e.1, .string e.2] aggEntryI rfl _ rfl rfl (fun j u hu => by rw [Addr.add_lit, Nat.zero_add]; match j, hu with | 0, hu => rw [b0]; simpa using hu | 1, hu => rw [b1]; simpa using hu) ?_)
      refine (hp _ HX2.out).mono ?_
      rintro q w3 ⟨v3, rfl, ho, hx⟩
      have HO := Lib.hid (ho.le (base' := w.heap.size) HX2.out.size)
      have HX3 := Lib.hid (HX2.out.trans hx)
      obtain ⟨A3, n3, c3, rfl⟩ := ho.shape3
      clear ho hx
      go_wp2
      go_ret2
      exact ⟨_, rfl, HO.out, HX3.out⟩
end Go.Proofs.Ytmndkbheehcoaaa
/- The value of a name in a map: the reference and the program. No condition. -/
namespace Go.Proofs.Ytmndkbheehcoaaa
open Go.RowKit
set_option linter.unusedVariables false
set_option linter.unusedSimpArgs false

def getR (L : List En) (s : ByteArray) : ByteArray × Int := if okE L && nameB s then (if hasE L s then ((gE L (posE L s)).2, 0) else (⟨#[]⟩, 6)) else (⟨#[]⟩, 1)
theorem okE_incs {L : List En} (h : okE L = true) : incs L L.length = true ∧ L.length ≤ 64 := by
  rw [okE_eq] at h
  simpa using h
theorem hasE_lt {L : List En} {s : ByteArray} (h : hasE L s = true) : posE L s < L.length := by
  rw [hasE_eq] at h
  simp at h
  exact h.1
set_option maxHeartbeats 1000000 in
set_option maxRecDepth 100000 in
theorem specGetEntry_any (v : Value) (L : List En) (s : ByteArray) (hsz : s.size ≤ 140737488351232) (w : World) (S : Nat → Prop) (h : RdL tEnt w S v L) :
    Calls Try.prog 53 #[v, .string s] w fun e w' => e = .returned (.tuple #[.string (getR L s).1, .int .i64 (getR L s).2]) ∧ Ext w w' := by
  have H := Lib.hid h
  have hc := l04Ok_any v L w S h
  have hn := l04Name_any s hsz
  obtain ⟨A, cap, rfl, hcap, hlen, _⟩ := h
  cases hb : okE L with
  | false =>
    simp only [getR, hb, Bool.false_and, Bool.false_eq_true, if_false]
    simp only [hb] at hc
    clear hb
    go_enter Try.func53, Try.ntmps53
    go_wp2_with fail
    refine hc.mono ?_
    rintro e w1 ⟨rfl, hx⟩
    have HX := Lib.hid hx
    clear hx
    go_wp2
    go_ret2
    exact ⟨rfl, HX.out⟩
  | true =>
    obtain ⟨hinc, h64⟩ := okE_incs hb
    have HI := Lib.hid hinc
    simp only [hb] at hc
    cases hb2 : nameB s with
    | false =>
      simp only [getR, hb, hb2, Bool.and_false, Bool.false_eq_true, if_false]
      simp only [hb2] at hn
      clear hb hb2 hinc
      go_enter Try.func53, Try.ntmps53
      go_wp2_with fail
      refine hc.mono ?_
      rintro e w1 ⟨rfl, hx⟩
      have HX := Lib.hid hx
      clear hx
      go_wp2_with fail
      refine (hn _).mono ?_
      rintro e w' ⟨rfl, rfl⟩
      go_wp2
      go_ret2
      exact ⟨rfl, HX.out⟩
    | true =>
      simp only [hb2] at hn
      have HF := Lib.hid (findI_eq L s)
      cases hb3 : hasE L s with
      | false =>
        simp only [getR, hb, hb2, hb3, Bool.and_true, if_true, Bool.false_eq_true, if_false]
        have e : findI L s = -1 := by rw [HF.out, hb3]; rfl
        have hf := fun W hW => l04Find_any (.slice A L.length cap) L HI.out s W S hW
        simp only [e] at hf
        clear hb hb2 hb3 hinc e
        go_enter Try.func53, Try.ntmps53
        go_wp2_with fail
        refine hc.mono ?_
        rintro e w1 ⟨rfl, hx⟩
        have HX := Lib.hid hx
        clear hx
        go_wp2_with fail
        refine (hn _).mono ?_
        rintro e w' ⟨rfl, rfl⟩
        go_wp2_with fail
        refine (hf _ (H.out.ext (by decide) HX.out)).mono ?_
        rintro e w' ⟨rfl, rfl⟩
        go_wp2
        go_ret2
        exact ⟨rfl, HX.out⟩
      | true =>
        simp only [getR, hb, hb2, hb3, Bool.and_true, if_true]
        have hlt := hasE_lt hb3
        obtain ⟨k, hk⟩ : ∃ k, posE L s = k := ⟨_, rfl⟩
        have e : findI L s = k := by rw [HF.out, hb3, hk]; rfl
        rw [hk] at hlt ⊢
        have hf := fun W hW => l04Find_any (.slice A L.length cap) L HI.out s W S hW
        simp only [e] at hf
        rw [gE_lt hlt]
        clear hb hb2 hb3 hinc e hk HF
        have hi : (0 : Int) ≤ (k : Int) := by omega
        have hi2 : (k : Int) < (L.length : Int) := by omega
        go_enter Try.func53, Try.ntmps53
        go_wp2_with fail
        refine hc.mono ?_
        rintro e w1 ⟨rfl, hx⟩
        have HX := Lib.hid hx
        clear hx
        go_wp2_with fail
        refine (hn _).mono ?_
        rintro e w' ⟨rfl, rfl⟩
        go_wp2_with fail
        refine (hf _ (H.out.ext (by decide) HX.out)).mono ?_
        rintro e w' ⟨rfl, rfl⟩
        obtain ⟨A2, cap2, e, _, _, hrd, hok⟩ := H.out
        injection e with e1 e2 e3
        subst e1 e3
        obtain ⟨g, o, rfl, hs0, hc2⟩ := hrd.elem hok k hlt
        have d1 : w1.cell? ⟨g, o + k * 2 + 1, none⟩ = some (.string L[k].2) := HX.out.cell (hc2 1 _ rfl)
        clear hrd hok hc2
        go_wp2
        go_ret2
        exact ⟨rfl, HX.out⟩
set_option maxHeartbeats 1000000 in
set_option maxRecDepth 100000 in
theorem implGetEntry_any (v : Value) (L : List En) (s : ByteArray) (hsz : s.size ≤ 140737488351232) (w : World) (S : Nat → Prop) (h : RdL tEnt w S v L) :
    Calls Try.prog 64 #[v, .string s] w fun e w' => e = .returned (.tuple #[.string (getR L s).1, .int .i64 (getR L s).2]) ∧ Ext w w' := by
  have H := Lib.hid h
  have hc := validEntries_any v L w S h
  have hn := isName_any s hsz
  obtain ⟨A, cap, rfl, hcap, hlen, _⟩ := h
  cases hb : okE L with
  | false =>
    simp only [getR, hb, Bool.false_and, Bool.false_eq_true, if_false]
    simp only [hb] at hc
    clear hb
    go_enter Try.func64, Try.ntmps64
    go_wp2_with fail
    refine hc.mono ?_
    rintro e w1 ⟨rfl, hx⟩
    have HX := Lib.hid hx
    clear hx
    go_wp2
    go_ret2
    exact ⟨rfl, HX.out⟩
  | true =>
    obtain ⟨hinc, h64⟩ := okE_incs hb
    have HI := Lib.hid hinc
    simp only [hb] at hc
    cases hb2 : nameB s with
    | false =>
      simp only [getR, hb, hb2, Bool.and_false, Bool.false_eq_true, if_false]
      simp only [hb2] at hn
      clear hb hb2 hinc
      go_enter Try.func64, Try.ntmps64
      go_wp2_with fail
      refine hc.mono ?_
      rintro e w1 ⟨rfl, hx⟩
      have HX := Lib.hid hx
      clear hx
      go_wp2_with fail
      refine (hn _).mono ?_
      rintro e w' ⟨rfl, rfl⟩
      go_wp2
      go_ret2
      exact ⟨rfl, HX.out⟩
    | true =>
      simp only [hb2] at hn
      have hf := fun W hW => find_any (.slice A L.length cap) L HI.out s W S hW
      cases hb3 : hasE L s with
      | false =>
        simp only [getR, hb, hb2, hb3, Bool.and_true, if_true, Bool.false_eq_true, if_false]
        simp only [hb3] at hf
        clear hb hb2 hb3 hinc
        go_enter Try.func64, Try.ntmps64
        go_wp2_with fail
        refine hc.mono ?_
        rintro e w1 ⟨rfl, hx⟩
        have HX := Lib.hid hx
        clear hx
        go_wp2_with fail
        refine (hn _).mono ?_
        rintro e w' ⟨rfl, rfl⟩
        go_wp2_with fail
        refine (hf _ (H.out.ext (by decide) HX.out)).mono ?_
        rintro e w2 ⟨rfl, hx⟩
        have HX2 := Lib.hid (HX.out.trans hx)
        clear hx
        go_wp2
        go_ret2
        exact ⟨rfl, HX2.out⟩
      | true =>
        simp only [getR, hb, hb2, hb3, Bool.and_true, if_true]
        have hlt := hasE_lt hb3
        simp only [hb3] at hf
        obtain ⟨k, hk⟩ : ∃ k, posE L s = k := ⟨_, rfl⟩
        rw [hk] at hlt ⊢
        simp only [hk] at hf
        rw [gE_lt hlt]
        clear hb hb2 hb3 hinc hk
        have hi : (0 : Int) ≤ (k : Int) := by omega
        have hi2 : (k : Int) < (L.length : Int) := by omega
        go_enter Try.func64, Try.ntmps64
        go_wp2_with fail
        refine hc.mono ?_
        rintro e w1 ⟨rfl, hx⟩
        have HX := Lib.hid hx
        clear hx
        go_wp2_with fail
        refine (hn _).mono ?_
        rintro e w' ⟨rfl, rfl⟩
        go_wp2_with fail
        refine (hf _ (H.out.ext (by decide) HX.out)).mono ?_
        rintro e w2 ⟨rfl, hx⟩
        have HX2 := Lib.hid (HX.out.trans hx)
        clear hx
        obtain ⟨A2, cap2, e, _, _, hrd, hok⟩ := H.out
        injection e with e1 e2 e3
        subst e1 e3
        obtain ⟨g, o, rfl, hs0, hc2⟩ := hrd.elem hok k hlt
        have d1 : w2.cell? ⟨g, o + k * 2 + 1, none⟩ = some (.string L[k].2) := HX2.out.cell (hc2 1 _ rfl)
        clear hrd hok hc2
        go_wp2
        go_ret2
        exact ⟨rfl, HX2.out⟩

end Go.Proofs.Ytmndkbheehcoaaa
/- A name struck out of a map: the program. No condition. -/
namespace Go.Proofs.Ytmndkbheehcoaaa
open Go.RowKit
set_option linter.unusedVariables false
set_option linter.unusedSimpArgs false

theorem notN_true {s : ByteArray} {e : En} (h : e.1 ≠ s) : notN s e = true := by
  rw [notN_eq, bne_iff_ne]
  exact fun q => h (toList_inj q)
theorem del_filter {L : List En} {s : ByteArray} (hinc : incs L L.length = true) (hh : hasE L s = true) : L.filter (notN s) = L.take (posE L s) ++ L.drop (posE L s + 1) := by
  obtain ⟨k, hk⟩ : ∃ k, posE L s = k := ⟨_, rfl⟩
  have h1 := hh
  rw [hasE_eq, hk] at h1
  simp only [decide_eq_true_eq] at h1
  obtain ⟨hlt, he⟩ := h1
  rw [gE_lt hlt] at he
  have hne : ∀ p (hp : p < L.length), p ≠ k → notN s L[p] = true := fun p hp hpk => notN_true fun e => hpk (by
    have := posE_hit hinc p hp (s := s) (by rw [gE_lt hp]; exact e)
    omega)
  rw [hk]
  conv => lhs; rw [← List.take_append_drop k L, List.drop_eq_getElem_cons hlt, List.filter_append, List.filter_cons]
  have h0 : notN s L[k] = false := by rw [notN_eq, he]; simp
  rw [h0]
  simp only [Bool.false_eq_true, if_false]
  congr 1
  · rw [List.filter_eq_self]
    intro x hx
    obtain ⟨i, hi, rfl⟩ := List.getElem_of_mem hx
    rw [List.length_take] at hi
    rw [List.getElem_take]
    exact hne i (by omega) (by omega)
  · rw [List.filter_eq_self]
    intro x hx
    obtain ⟨i, hi, rfl⟩ := List.getElem_of_mem hx
    rw [List.length_drop] at hi
    rw [List.getElem_drop]
    exact hne _ (by omega) (by omega)
set_option maxHeartbeats 1000000 in
set_option maxRecDepth 100000 in
theorem implDeleteEntry_any (v : Value) (L : List En) (s : ByteArray) (hsz : s.size ≤ 140737488351232) (w : World) (S : Nat → Prop) (h : RdL tEnt w S v L) :
    Calls Try.prog 67 #[v, .string s] w fun e w' => ∃ v', e = .returned (.tuple #[v', .int .i64 (delR L s).2]) ∧ Own tEnt 29 w' w.heap.size v' (delR L s).1 ∧ Ext w w' := by
  have H := Lib.hid h
  have hg := implGetEntry_any v L s hsz w S h
  obtain ⟨A, cap, rfl, hcap, hlen, _⟩ := h
  cases hb : (okE L && nameB s && hasE L s) with
  | false =>
    obtain ⟨c, hc0, e1, e2⟩ : ∃ c : Int, (c != 0) = true ∧ delR L s = ([], c) ∧ (getR L s).2 = c := by
      cases h1 : (okE L && nameB s) with
      | false => exact ⟨1, rfl, by rw [delR, h1]; rfl, by rw [getR, h1]; rfl⟩
      | true =>
        rw [h1, Bool.true_and] at hb
        exact ⟨6, rfl, by rw [delR, h1, hb]; rfl, by rw [getR, h1, hb]; rfl⟩
    rw [e1]
    simp only [e2] at hg
    clear e1 e2 hb
    go_enter Try.func67, Try.ntmps67
    go_wp2_with fail
    refine hg.mono ?_
    rintro e w1 ⟨rfl, hx⟩
    have HX := Lib.hid hx
    clear hx
    go_wp2
    go_ret2
    exact ⟨_, rfl, Own.nil _ _ _ _, HX.out⟩
  | true =>
    simp only [Bool.and_eq_true] at hb
    obtain ⟨⟨h1, h2⟩, h3⟩ := hb
    obtain ⟨hinc, h64⟩ := okE_incs' h1
    have e1 : delR L s = (L.take (posE L s) ++ L.drop (posE L s + 1), 0) := by rw [delR, h1, h2, h3, ← del_filter hinc h3]; rfl
    have e2 : (getR L s).2 = 0 := by rw [getR, h1, h2, h3]; rfl
    have hlt := hasE_lt h3
    obtain ⟨k, hk⟩ : ∃ k, posE L s = k := ⟨_, rfl⟩
    have hf := fun W hW => find_any (.slice A L.length cap) L hinc s W S hW
    rw [e1, hk]
    simp only [e2] at hg
    simp only [hk, h3] at hf
    rw [hk] at hlt
    clear e1 e2 h1 h2 h3 hk hinc
    go_enter Try.func67, Try.ntmps67
    go_wp2_with fail
    refine hg.mono ?_
    rintro e w1 ⟨rfl, hx⟩
    have HX := Lib.hid hx
    clear hx
    go_wp2_with fail
    refine (hf _ (H.out.ext (by decide) HX.out)).mono ?_
    rintro e w2 ⟨rfl, hx⟩
    have HX2 := Lib.hid (HX.out.trans hx)
    clear hx
    go_wp2_with fail
    refine (cloneE_any _ L _ _ (H.out.ext (by decide) HX2.out) (by omega)).mono ?_
    rintro e w3 ⟨v', rfl, ho, hx⟩
    have hd := sdel_any _ L k w3 _ ho hlt h64
    have HX3 := Lib.hid (HX2.out.trans hx)
    have hbl := ho.base_le
    have hs2 := HX2.out.size
    obtain ⟨A', n', c', rfl⟩ := ho.shape3
    clear hx ho
    go_wp2_with fail
    refine hd.mono ?_
    rintro e w4 ⟨v2, rfl, ho, hg2⟩
    have HO := Lib.hid (ho.le (base' := w.heap.size) (by omega))
    have HX4 := Lib.hid (HX3.out.grown hg2 (fun k hk => by have := hbl k hk; omega))
    clear hd ho hg2
    go_wp2
    go_ret2
    exact ⟨_, rfl, HO.out, HX4.out⟩
end Go.Proofs.Ytmndkbheehcoaaa
/- Maps stay maps when an entry is put or struck out. No condition. -/
namespace Go.Proofs.Ytmndkbheehcoaaa
open Go.RowKit
set_option linter.unusedVariables false
set_option linter.unusedSimpArgs false

def ltE (a b : En) : Prop := ltB a.1 b.1 = true
theorem incs_pair {L : List En} : incs L L.length = true ↔ (∀ e ∈ L, entB e.1 e.2 = true) ∧ L.Pairwise ltE := by
  constructor
  · intro h
    refine ⟨?_, ?_⟩
    · intro e he
      have h2 := h
      rw [incs, List.all_eq_true] at h2
      obtain ⟨i, hi, rfl⟩ := List.getElem_of_mem he
      have := h2 i (List.mem_range.2 hi)
      simp only [incC, Bool.and_eq_true] at this
      rw [gE_lt hi] at this
      exact this.1
    · rw [List.pairwise_iff_getElem]
      intro i j hi hj hij
      have := incs_lt h i j hij hj
      rw [gE_lt hi, gE_lt hj] at this
      exact this
  · rintro ⟨h1, h2⟩
    rw [incs, List.all_eq_true]
    intro i hi
    have hi := List.mem_range.1 hi
    rw [incC, gE_lt hi, h1 _ (List.getElem_mem hi), Bool.true_and, Bool.or_eq_true]
    rcases Nat.eq_zero_or_pos i with rfl | hp
    · exact .inl rfl
    · right
      rw [gE_lt (by omega)]
      exact (List.pairwise_iff_getElem.1 h2) (i - 1) i (by omega) hi (by omega)
theorem incs_filter {L : List En} (h : incs L L.length = true) (p : En → Bool) : incs (L.filter p) (L.filter p).length = true := by
  rw [incs_pair] at h ⊢
  exact ⟨fun e he => h.1 e (List.mem_filter.1 he).1, h.2.filter p⟩
/-- an entry put in keeps the order -/
theorem incs_put {L : List En} {e : En} (h : incs L L.length = true) (he : entB e.1 e.2 = true) : incs (putEnd e (putF e L)) (putEnd e (putF e L)).length = true := by
  have h0 := h
  rw [putF_eq h]
  rw [incs_pair] at h ⊢
  obtain ⟨h1, h2⟩ := h
  obtain ⟨hle, hb, ha⟩ := posE_facts L e.1
  obtain ⟨k, hk⟩ : ∃ k, posE L e.1 = k := ⟨_, rfl⟩
  have hH := hasE_eq L e.1
  rw [hk] at hle hb ha hH ⊢
  obtain ⟨j, hj⟩ : ∃ j, (if hasE L e.1 then k + 1 else k) = j := ⟨_, rfl⟩
  rw [hj]
  have hkj : k ≤ j := by rw [← hj]; split <;> omega
  have hlt : ∀ x ∈ L.take k, ltE x e := by
    intro x hx
    obtain ⟨i, hi, rfl⟩ := List.getElem_of_mem hx
    rw [List.length_take] at hi
    rw [List.getElem_take]
    have := hb i (by omega)
    rwa [gE_lt (by omega)] at this
  have hpw := List.pairwise_iff_getElem.1 h2
  have hgt : ∀ y ∈ L.drop j, ltE e y := by
    intro y hy
    obtain ⟨i, hi, rfl⟩ := List.getElem_of_mem hy
    rw [List.length_drop] at hi
    rw [List.getElem_drop]
    have hkl : k < L.length := by omega
    have hkf := ha hkl
    rw [gE_lt hkl] at hkf
    cases hh : hasE L e.1 with
    | true =>
      have hj2 : j = k + 1 := by rw [← hj, hh]; rfl
      subst hj2
      have hke : L[k].1 = e.1 := by
        rw [hh] at hH
        have := (of_decide_eq_true hH.symm).2
        rwa [gE_lt hkl] at this
      have := hpw k (k + 1 + i) hkl (by omega) (by omega)
      unfold ltE at this ⊢
      rwa [hke] at this
    | false =>
      have hj2 : j = k := by rw [← hj, hh]; rfl
      subst hj2
      have hne : L[j].1 ≠ e.1 := fun q => by
        rw [hh] at hH
        have := of_decide_eq_false hH.symm
        exact this ⟨hkl, by rw [gE_lt hkl]; exact q⟩
      have h3 : ltB e.1 L[j].1 = true := by
        cases q : ltB e.1 L[j].1 with
        | true => rfl
        | false => exact absurd (ltB_total hkf q) hne
      rcases Nat.eq_zero_or_pos i with rfl | hp
      · exact h3
      · exact ltB_trans h3 (hpw j (j + i) hkl (by omega) (by omega))
  refine ⟨?_, ?_⟩
  · intro x hx
    simp only [List.mem_append, List.mem_singleton] at hx
    rcases hx with (hx | rfl) | hx
    · exact h1 x (List.mem_of_mem_take hx)
    · exact he
    · exact h1 x (List.mem_of_mem_drop hx)
  · rw [List.pairwise_append, List.pairwise_append]
    refine ⟨⟨h2.sublist (List.take_sublist _ _), List.pairwise_singleton _ _, ?_⟩, h2.sublist (List.drop_sublist _ _), ?_⟩
    · intro x hx y hy
      obtain rfl := List.mem_singleton.1 hy
      exact hlt x hx
    · intro x hx y hy
      simp only [List.mem_append, List.mem_singleton] at hx
      rcases hx with hx | rfl
      · exact ltB_trans (hlt x hx) (hgt y hy)
      · exact hgt y hy
end Go.Proofs.Ytmndkbheehcoaaa
/- A map's own path, checked; where two paths part: plainly. No condition. -/
namespace Go.Proofs.Ytmndkbheehcoaaa
open Go.RowKit
set_option linter.unusedVariables false
set_option linter.unusedSimpArgs false

/-- the path to a name in a tree -/
def Tr.way (s : ByteArray) (T : Tr) : List Nd := T.sel (fun o => ltB s o) (fun o => ltB o s)
theorem Tr.way_node (s : ByteArray) (x : Nd) (l r : Tr) : (Tr.node x l r).way s = x :: ((if ltB s x.n then l.way s else []) ++ (if ltB x.n s then r.way s else [])) := by rw [way, Tr.sel]; rfl
theorem way_ck (s : ByteArray) (f : Nat) : ∀ (L : List En), L.length ≤ f → L.Pairwise ltE → (∀ e ∈ L, e.1 = s → ckF s (trF f L).key ((trF f L).way s) = (true, e.2, true)) ∧ ((∀ e ∈ L, e.1 ≠ s) → ckF s (trF f L).key ((trF f L).way s) = (false, ⟨#[]⟩, true)) := by
  have nil : ckF s Tr.leaf.key (Tr.leaf.way s) = (false, ⟨#[]⟩, true) := by
    show ckF s emptyL [] = _
    rw [ckF_nil]; simp
  induction f with
  | zero =>
    intro L hf hp
    obtain rfl : L = [] := List.eq_nil_of_length_eq_zero (by omega)
    rw [trF_zero]
    exact ⟨(fun e he => by cases he), fun _ => nil⟩
  | succ f ih =>
    intro L hf hp
    by_cases h0 : L.length = 0
    · obtain rfl : L = [] := List.eq_nil_of_length_eq_zero h0
      rw [trF_nil _ _ h0]
      exact ⟨(fun e he => by cases he), fun _ => nil⟩
    · have hlt := topE_lt (L := L) (by omega)
      rw [trF_cons _ _ h0]
      obtain ⟨k, hk⟩ : ∃ k, topE L = k := ⟨_, rfl⟩
      rw [hk] at hlt ⊢
      rw [gE_lt hlt]
      have hpw := List.pairwise_iff_getElem.1 hp
      have hl := ih (L.take k) (by rw [List.length_take]; omega) (hp.sublist (List.take_sublist _ _))
      have hr := ih (L.drop (k + 1)) (by rw [List.length_drop]; omega) (hp.sublist (List.drop_sublist _ _))
      generalize trF f (L.take k) = TL at hl ⊢
      generalize trF f (L.drop (k + 1)) = TR at hr ⊢
      rw [Tr.way_node]
      show (∀ e ∈ L, e.1 = s → ckF s (hashL 5 (nodeL ⟨TL.key, TR.key, L[k].1, L[k].2⟩)) _ = _) ∧ (_ → ckF s (hashL 5 (nodeL ⟨TL.key, TR.key, L[k].1, L[k].2⟩)) _ = _)
      rw [ckF_cons]
      by_cases hq : L[k].1 = s
      · rw [ckS_hit _ _ rfl hq]
        have e1 : ltB s L[k].1 = false := by rw [hq]; exact ltB_irrefl s
        have e2 : ltB L[k].1 s = false := by rw [hq]; exact ltB_irrefl s
        simp only [e1, e2, Bool.false_eq_true, if_false, List.append_nil, List.isEmpty_nil]
        refine ⟨fun e he hes => ?_, fun h => absurd hq (h _ (List.getElem_mem hlt))⟩
        obtain ⟨i, hi, rfl⟩ := List.getElem_of_mem he
        obtain rfl : i = k := by
          rcases Nat.lt_trichotomy i k with h | h | h
          · exact absurd (hes.trans hq.symm) (ltB_ne (hpw i k hi hlt h))
          · exact h
          · exact absurd (hq.trans hes.symm) (ltB_ne (hpw k i hlt hi h))
        rfl
      · rw [ckS_on _ _ rfl hq]
        cases h1 : ltB s L[k].1 with
        | true =>
          have e2 := ltB_asymm h1
          simp only [e2, Bool.false_eq_true, if_false, if_true, List.append_nil]
          refine ⟨fun e he hes => hl.1 e ?_ hes, fun h => hl.2 fun e he => h e (List.mem_of_mem_take he)⟩
          obtain ⟨i, hi, rfl⟩ := List.getElem_of_mem he
          have hik : i < k := by
            rcases Nat.lt_trichotomy i k with h | h | h
            · exact h
            · subst h; exact absurd hes hq
            · have h2 := hpw k i hlt hi h
              rw [ltE, hes, e2] at h2
              cases h2
          rw [List.mem_take_iff_getElem]
          exact ⟨i, by omega, rfl⟩
        | false =>
          have e2 : ltB L[k].1 s = true := by
            cases h2 : ltB L[k].1 s with
            | true => rfl
            | false => exact absurd (ltB_total h2 h1) hq
          simp only [e2, Bool.false_eq_true, if_false, if_true, List.nil_append]
          refine ⟨fun e he hes => hr.1 e ?_ hes, fun h => hr.2 fun e he => h e (List.mem_of_mem_drop he)⟩
          obtain ⟨i, hi, rfl⟩ := List.getElem_of_mem he
          have hik : k < i := by
            rcases Nat.lt_trichotomy i k with h | h | h
            · have h2 := hpw i k hi hlt h
              rw [ltE, hes, h1] at h2
              cases h2
            · subst h; exact absurd hes hq
            · exact h
          rw [List.mem_drop_iff_getElem]
          exact ⟨i - (k + 1), by omega, by congr 1; omega⟩
/-- what a map has of a name -/
def valE (L : List En) (s : ByteArray) : ByteArray := if hasE L s then (gE L (posE L s)).2 else ⟨#[]⟩
theorem own_ck {L : List En} (h : okE L = true) (s : ByteArray) : ckF s (trF L.length L).key ((trF L.length L).way s) = (hasE L s, valE L s, true) := by
  have hi := (okE_incs h).1
  have hw := way_ck s L.length L (Nat.le_refl _) (incs_pair.1 hi).2
  cases hh : hasE L s with
  | true =>
    have h2 := hh
    rw [hasE_eq, decide_eq_true_eq] at h2
    rw [valE, hh, if_pos rfl, gE_lt h2.1]
    refine hw.1 _ (List.getElem_mem h2.1) ?_
    rw [← gE_lt h2.1]; exact h2.2
  | false =>
    rw [valE, hh]
    refine hw.2 fun e he hes => ?_
    obtain ⟨i, hl, rfl⟩ := List.getElem_of_mem he
    have hp := posE_hit (s := s) hi i hl (by rw [gE_lt hl]; exact hes)
    rw [hasE_eq, decide_eq_false_iff_not] at hh
    exact hh (by rw [hp]; exact ⟨hl, by rw [gE_lt hl]; exact hes⟩)
/-- the node of zeros -/
def zeroN : Nd := ⟨List.replicate 32 0, List.replicate 32 0, ⟨#[]⟩, ⟨#[]⟩⟩
theorem zK : K32 (List.replicate 32 0) := ⟨rfl, by intro x hx; obtain ⟨_, rfl⟩ := List.mem_replicate.1 hx; omega⟩
theorem zeroN_ok : zeroN.ok := ⟨zK, zK, by decide, by decide⟩
deriving instance DecidableEq for Nd
/-- how far two paths are alike -/
def partN : List Nd → List Nd → Nat
  | x :: xs, y :: ys => if x = y then partN xs ys + 1 else 0
  | _, _ => 0
theorem partN_eq (A : List Nd) : ∀ (B : List Nd) (d : Nat), d ≤ A.length → d ≤ B.length → (∀ p, p < d → A.getD p zeroN = B.getD p zeroN) → (d = A.length ∨ d = B.length ∨ A.getD d zeroN ≠ B.getD d zeroN) → partN A B = d := by
  induction A with
  | nil => intro B d h1 _ _ _; simp at h1; subst h1; simp [partN]
  | cons x xs ih =>
    intro B d h1 h2 h3 h4
    match B, d with
    | [], d => simp at h2; subst h2; simp [partN]
    | y :: ys, 0 =>
      rw [partN, if_neg]
      rcases h4 with h | h | h
      · simp at h
      · simp at h
      · simpa using h
    | y :: ys, d + 1 =>
      have e0 := h3 0 (by omega)
      simp only [List.getD_cons_zero] at e0
      rw [partN, if_pos e0, ih ys d (by simpa using h1) (by simpa using h2) (fun p hp => by simpa using h3 (p + 1) (by omega)) (by simpa using h4)]
theorem alike {A B : List Nd} (hl : A.length = B.length) (h : ∀ p, p < A.length → A.getD p zeroN = B.getD p zeroN) : A = B := by
  refine List.ext_getElem hl fun i h1 h2 => ?_
  have := h i h1
  rw [List.getD_eq_getElem?_getD, List.getD_eq_getElem?_getD, List.getElem?_eq_getElem h1, List.getElem?_eq_getElem h2] at this
  exact this
/-- valid nodes are not the node of zeros -/
def full (A : List Nd) : Prop := ∀ i, i < A.length → A.getD i zeroN ≠ zeroN
theorem full_of {A : List Nd} (h : ∀ x ∈ A, entB x.n x.v = true) : full A := by
  intro i hi e
  rw [List.getD_eq_getElem?_getD, List.getElem?_eq_getElem hi] at e
  have h2 := entB_le (h _ (List.getElem_mem hi))
  rw [show A[i] = zeroN from e] at h2
  exact absurd h2.1 (by decide)
theorem both {A B : List Nd} (fa : full A) (fb : full B) (ne : A ≠ B) (i : Nat) (ha : i ≤ A.length) (hb : i ≤ B.length) (h : ∀ p, p < i → A.getD p zeroN = B.getD p zeroN) (e : A.getD i zeroN = B.getD i zeroN) : i < A.length ∧ i < B.length := by
  by_cases h1 : i < A.length
  · refine ⟨h1, ?_⟩
    by_cases h2 : i < B.length
    · exact h2
    · refine absurd ?_ (fa i h1)
      rw [e, List.getD_eq_getElem?_getD, List.getElem?_eq_none (by omega)]; rfl
  · by_cases h2 : i < B.length
    · refine absurd ?_ (fb i h2)
      rw [← e, List.getD_eq_getElem?_getD, List.getElem?_eq_none (by omega)]; rfl
    · exact absurd (alike (by omega) (fun p hp => h p (by omega))) ne
/-- what is answered: the two nodes and the code -/
def clR (L : List En) (s : ByteArray) (P : List Nd) : Nd × Nd × Int :=
  if okE L && nameB s && okNs P then
    (if (chkR (trF L.length L).key s P).2.2 = 0 then
      (if (chkR (trF L.length L).key s P).1 = hasE L s ∧ (chkR (trF L.length L).key s P).2.1 = valE L s then (zeroN, zeroN, 6)
       else (((trF L.length L).way s).getD (partN ((trF L.length L).way s) P) zeroN, P.getD (partN ((trF L.length L).way s) P) zeroN, 0))
     else (zeroN, zeroN, 4))
  else (zeroN, zeroN, 1)
theorem own_ne {L : List En} (h : okE L = true) (s : ByteArray) {P : List Nd} {c1 : Bool} {c2 : ByteArray} {c3 : Bool} (hc : ckF s (trF L.length L).key P = (c1, c2, c3)) (hn : ¬ (c1 = hasE L s ∧ c2 = valE L s)) : (trF L.length L).way s ≠ P := by
  intro e
  rw [← e, own_ck h s] at hc
  injection hc with e1 e2
  injection e2 with e2 e3
  exact hn ⟨e1.symm, e2.symm⟩
theorem Tr.sel_sub (p q : ByteArray → Bool) (T : Tr) : ∀ x ∈ T.sel p q, x ∈ T.all := by
  induction T with
  | leaf => intro x hx; simp [Tr.sel] at hx
  | node y l r il ir =>
    intro x hx
    simp only [Tr.sel, Tr.all, List.mem_cons, List.mem_append] at hx ⊢
    rcases hx with rfl | hx | hx
    · exact .inl rfl
    · split at hx
      · exact .inr (.inl (il x hx))
      · simp at hx
    · split at hx
      · exact .inr (.inr (ir x hx))
      · simp at hx
theorem way_full {L : List En} (hg : good L) (s : ByteArray) : full ((trF L.length L).way s) := full_of fun x hx => ((trF L.length L).all_ok (trF_ok _ _ hg) x (Tr.sel_sub _ _ _ x hx)).2
theorem okNs_full {P : List Nd} (h : okNs P = true) : full P := full_of fun x hx => by obtain ⟨i, hi, rfl⟩ := List.getElem_of_mem hx; exact okNs_at h hi
end Go.Proofs.Ytmndkbheehcoaaa
/- The nodes of a map, as they are asked for. No condition. -/
namespace Go.Proofs.Ytmndkbheehcoaaa
open Go.RowKit
set_option linter.unusedVariables false
set_option linter.unusedSimpArgs false

/-- the nodes of a map, and the code -/
def nodR (L : List En) : List Nd × Int := if okE L then ((trF L.length L).all, 0) else ([], 1)
theorem nodR_len (L : List En) : (nodR L).1.length ≤ 64 := by
  unfold nodR
  split
  · rename_i h
    exact Nat.le_trans (trF_len _ _) (okE_incs' h).2
  · exact Nat.zero_le _
set_option maxHeartbeats 1000000 in
set_option maxRecDepth 100000 in
theorem specNodesOfMap_any (v : Value) (L : List En) (w : World) (S : Nat → Prop) (h : RdL tEnt w S v L) :
    Calls Try.prog 37 #[v] w fun e w' => ∃ v', e = .returned (.tuple #[v', .int .i64 (nodR L).2]) ∧ Own tNd 31 w' w.heap.size v' (nodR L).1 ∧ Ext w w' := by
  have H := Lib.hid h
  have hokL := h.choose_spec.choose_spec.2.2.2.2
  have hc := l04Ok_any v L w S h
  have hp := fun (hb : okE L = true) W hW => l04Nodes_any L.length v L (Nat.le_refl _) (okE_incs' hb).2 (good_of hb hokL) W S hW
  obtain ⟨A, cap, rfl, hcap, hlen, _⟩ := h
  cases hb : okE L with
  | false =>
    simp only [nodR, hb, Bool.false_eq_true, if_false]
    simp only [hb] at hc
    clear hb hp
    go_enter Try.func37, Try.ntmps37
    go_wp2_with fail
    refine hc.mono ?_
    rintro e w1 ⟨rfl, hx⟩
    have HX := Lib.hid hx
    clear hx
    go_wp2
    go_ret2
    exact ⟨_, rfl, Own.empty tNd _ 31 _ HX.out.size, HX.out.alloc _⟩
  | true =>
    simp only [hb] at hc
    replace hp := hp hb
    simp only [nodR, hb, if_true]
    have HKK := Lib.hid (trF L.length L).key_ok.1
    clear hb
    go_enter Try.func37, Try.ntmps37
    go_wp2_with fail
    refine hc.mono ?_
    rintro e w1 ⟨rfl, hx⟩
    have HX := Lib.hid hx
    clear hx
    go_wp2_with fail
    refine (hp _ (H.out.ext (by decide) HX.out)).mono ?_
    rintro e w2 ⟨v2, rfl, ho, hx⟩
    have HO := Lib.hid (ho.le (base' := w.heap.size) HX.out.size)
    have HX2 := Lib.hid (HX.out.trans hx)
    obtain ⟨A2, n2, c2, rfl⟩ := ho.shape3
    clear ho hx
    go_wp2_with (refine wpl_storeNew aggKey HKK.out rfl rfl _ _ rfl rfl rfl rfl ?_)
    go_ret2
    exact ⟨_, rfl, HO.out.alloc _, HX2.out.alloc _⟩
set_option maxHeartbeats 1000000 in
set_option maxRecDepth 100000 in
theorem implNodesOfMap_any (v : Value) (L : List En) (w : World) (S : Nat → Prop) (h : RdL tEnt w S v L) :
    Calls Try.prog 36 #[v] w fun e w' => ∃ v', e = .returned (.tuple #[v', .int .i64 (nodR L).2]) ∧ Own tNd 31 w' w.heap.size v' (nodR L).1 ∧ Ext w w' := by
  have H := Lib.hid h
  have hokL := h.choose_spec.choose_spec.2.2.2.2
  have hc := validEntries_any v L w S h
  have hp := fun (hb : okE L = true) W hW => allNodes_any v L (okE_incs' hb).2 (good_of hb hokL) W S hW
  obtain ⟨A, cap, rfl, hcap, hlen, _⟩ := h
  cases hb : okE L with
  | false =>
    simp only [nodR, hb, Bool.false_eq_true, if_false]
    simp only [hb] at hc
    clear hb hp
    go_enter Try.func36, Try.ntmps36
    go_wp2_with fail
    refine hc.mono ?_
    rintro e w1 ⟨rfl, hx⟩
    have HX := Lib.hid hx
    clear hx
    go_wp2
    go_ret2
    exact ⟨_, rfl, Own.nil _ _ _ _, HX.out⟩
  | true =>
    simp only [hb] at hc
    replace hp := hp hb
    simp only [nodR, hb, if_true]
    have HKK := Lib.hid (trF L.length L).key_ok.1
    clear hb
    go_enter Try.func36, Try.ntmps36
    go_wp2_with fail
    refine hc.mono ?_
    rintro e w1 ⟨rfl, hx⟩
    have HX := Lib.hid hx
    clear hx
    go_wp2_with fail
    refine (hp _ (H.out.ext (by decide) HX.out)).mono ?_
    rintro e w2 ⟨v2, rfl, ho, hx⟩
    have HO := Lib.hid (ho.le (base' := w.heap.size) HX.out.size)
    have HX2 := Lib.hid (HX.out.trans hx)
    obtain ⟨A2, n2, c2, rfl⟩ := ho.shape3
    clear ho hx
    go_wp2
    go_ret2
    exact ⟨_, rfl, HO.out, HX2.out⟩
end Go.Proofs.Ytmndkbheehcoaaa
/- How deep a name lies. No condition. -/
namespace Go.Proofs.Ytmndkbheehcoaaa
open Go.RowKit
set_option linter.unusedVariables false
set_option linter.unusedSimpArgs false

/-- how deep a name lies, and the code -/
def depR (L : List En) (s : ByteArray) : Int × Int := if okE L && nameB s then (if hasE L s then ((((trF L.length L).sel (fun o => ltB s o) (fun o => ltB o s)).length : Nat), 0) else (0, 6)) else (0, 1)
theorem sizeNd_any (A : Option Addr) (n c : Nat) (w : World) : Calls Try.prog 107 #[.slice A n c] w fun e w' => e = .returned (.int .i64 n) ∧ w = w' := by
  go_enter Try.func107, Try.ntmps107
  go_wp2
  go_ret
  exact ⟨rfl, rfl⟩
set_option maxHeartbeats 1000000 in
set_option maxRecDepth 100000 in
theorem implDepth_any (v : Value) (L : List En) (s : ByteArray) (hsz : s.size ≤ 140737488351232) (w : World) (S : Nat → Prop) (h : RdL tEnt w S v L) :
    Calls Try.prog 46 #[v, .string s] w fun e w' => e = .returned (.tuple #[.int .i64 (depR L s).1, .int .i64 (depR L s).2]) ∧ Ext w w' := by
  have H := Lib.hid h
  have hokL := h.choose_spec.choose_spec.2.2.2.2
  have hg := implGetEntry_any v L s hsz w S h
  have hp := fun (hb : okE L = true) W hW => path_any v L s (okE_incs' hb).2 (good_of hb hokL) W S hW
  obtain ⟨A, cap, rfl, hcap, hlen, _⟩ := h
  cases hb : (okE L && nameB s && hasE L s) with
  | false =>
    obtain ⟨c, hc0, e1, e2⟩ : ∃ c : Int, (c != 0) = true ∧ depR L s = (0, c) ∧ (getR L s).2 = c := by
      cases h1 : (okE L && nameB s) with
      | false => exact ⟨1, rfl, by rw [depR, h1]; rfl, by rw [getR, h1]; rfl⟩
      | true =>
        rw [h1, Bool.true_and] at hb
        exact ⟨6, rfl, by rw [depR, h1, hb]; rfl, by rw [getR, h1, hb]; rfl⟩
    rw [e1]
    simp only [e2] at hg
    clear e1 e2 hb hp
    go_enter Try.func46, Try.ntmps46
    go_wp2_with fail
    refine hg.mono ?_
    rintro e w1 ⟨rfl, hx⟩
    have HX := Lib.hid hx
    clear hx
    go_wp2
    go_ret2
    exact ⟨rfl, HX.out⟩
  | true =>
    simp only [Bool.and_eq_true] at hb
    obtain ⟨⟨h1, h2⟩, h3⟩ := hb
    replace hp := hp h1
    obtain ⟨R, hR⟩ : ∃ R, (trF L.length L).sel (fun o => ltB s o) (fun o => ltB o s) = R := ⟨_, rfl⟩
    simp only [hR] at hp
    have e1 : depR L s = (((R.length : Nat) : Int), 0) := by rw [depR, h1, h2, h3, hR]; rfl
    have e2 : (getR L s).2 = 0 := by rw [getR, h1, h2, h3]; rfl
    rw [e1]
    simp only [e2] at hg
    clear e1 e2 h1 h2 h3 hR
    go_enter Try.func46, Try.ntmps46
    go_wp2_with fail
    refine hg.mono ?_
    rintro e w1 ⟨rfl, hx⟩
    have HX := Lib.hid hx
    clear hx
    go_wp2_with fail
    refine (hp _ (H.out.ext (by decide) HX.out)).mono ?_
    rintro e w2 ⟨v2, rfl, ho, hx⟩
    have HX2 := Lib.hid (HX.out.trans hx)
    obtain ⟨A2, c2, rfl⟩ := ho.shape
    clear ho hx hg hp
    go_wp2_with fail
    refine (sizeNd_any _ _ _ _).mono ?_
    rintro e w' ⟨rfl, rfl⟩
    go_wp2
    go_ret2
    exact ⟨rfl, HX2.out⟩
end Go.Proofs.Ytmndkbheehcoaaa
