/- An entry set into a row of one's own: slices.Insert where there is room. No condition. -/
import Derived.Test.YtbippohfinbngaaInsD
namespace Go.Proofs.Ytbippohfinbngaa
open Go.RowKit
set_option linter.unusedVariables false
set_option linter.unusedSimpArgs false


set_option maxHeartbeats 1000000 in
set_option maxRecDepth 100000 in
theorem insRoom_any (v : Value) (xs : List En) (k : Nat) (e : En) (he : tEnt.ok e) (w : World) (base p tp : Nat) (h : Own tEnt 67 w base v xs) (hk : k < xs.length) (h64 : xs.length ≤ 64) (hp : Blk w p tp #[.string e.1, .string e.2]) (hfar : v.ownBlock ≠ some p) (hroom : ∃ A n c, v = .slice A n c ∧ xs.length + 1 ≤ c) :
    Calls Try.prog 123 #[v, .int .i64 k, .slice (some ⟨p, 0, none⟩) 1 1] w fun q w' => ∃ v', q = .returned v' ∧ Own tEnt 67 w' base v' (insR xs k e) ∧ w.grownBy w' v.ownBlock := by
  obtain ⟨g, cap, cur, rfl, hgb, hgl, hB, hcs, hnc, hcm, hat⟩ := at_of_own h (by omega)
  have HB := Lib.hid hB
  have HAT := Lib.hid hat
  have HOK := Lib.hid (insR_ok (k := k) he h.2.2)
  have HP := Lib.hid hp
  have HPL := Lib.hid hp.lt
  have h1 : (0 : Int) ≤ (k : Int) := by omega
  have h2 : (k : Int) ≤ (xs.length : Int) := by omega
  have h3 : (xs.length : Int) ≤ (cap : Int) := by omega
  have h4 : (k : Int) ≤ (cap : Int) := by omega
  have h5 : ((k : Int) == (xs.length : Int)) = false := by rw [beq_eq_false_iff_ne]; omega
  have h6 : (k : Int) + 1 ≤ (cap : Int) + 1 := by omega
  have h7 : ((1 : Int) == 0) = false := rfl
  have h8 : (k : Int) + 1 ≤ (xs.length : Int) + 1 := by omega
  have h9 : (0 : Int) ≤ (k : Int) + 1 := by omega
  have hdl : (xs.drop k).length = xs.length - k := by rw [List.length_drop]
  have htl : (xs.take k).length = k := by rw [List.length_take]; omega
  have hcel : ∀ j u, ((xs.drop k).flatMap tEnt.enc)[j]? = some u → cur[k * 2 + j]? = some u := cells_of_at (fun i hi => by
    rw [hdl] at hi
    rw [List.getElem_drop]
    exact hat _ _)
  have hcel2 : ∀ j u, ((xs.take k).flatMap tEnt.enc)[j]? = some u → cur[0 * 2 + j]? = some u := cells_of_at (fun i hi => by
    rw [htl] at hi
    simp only [Nat.zero_add]
    rw [List.getElem_take]
    exact hat _ _)
  have HC := Lib.hid hcel
  have HC2 := Lib.hid hcel2
  clear hB hat h hcel hcel2 he
  have hfar2 : p ≠ g := fun e => hfar (by rw [e]; rfl)
  obtain ⟨A9, n9, c9, hv9, hr9⟩ := hroom
  obtain rfl : cap = c9 := by injection hv9
  clear hv9 hfar
  have m1 : (xs.length : Int) + 1 ≤ (cap : Int) := by omega
  have m2 : (k : Int) + 1 ≤ (cap : Int) := by omega
  have m3 : ¬ cap = k + 1 := by omega
  have m4 : ¬ cap = k := by omega
  have m5 : ¬ (cap : Int) < (xs.length : Int) + 1 := by omega
  have m6 : (k : Int) ≤ (xs.length : Int) + 1 := by omega
  have m7 : IntKind.i64.wrap ((k : Int) + 1) = (k : Int) + 1 := by rw [IntKind.wrap_i64]; simp only [maxLen] at hcm; omega
  have m8 : IntKind.i64.wrap ((xs.length : Int) + 1) = (xs.length : Int) + 1 := by rw [IntKind.wrap_i64]; omega
  have hov : ∀ W, Blk W p tp #[.string e.1, .string e.2] → Blk W g 67 cur → ∀ lb cb, (callFunc 141 #[.slice (some ⟨p, 0, none⟩) 1 1, .slice (some ⟨g, (k + 1) * 2, none⟩) lb cb]).run Try.prog W = .ok (.value (.bool false)) W := fun W h1 h2 lb cb => by
    rw [run_callFunc_extern Try.func141 (by kernel_rfl) (by kernel_rfl) (by kernel_rfl) (e := Extern.SlicesOverlaps.overlaps #[43, 43] #[4]) (by kernel_rfl),
      Lib.run_overlaps_apart W 43 4 67 Try.underlying43 2 (fun w => by
        cases hq : Try.prog.info? 67 with
        | none => have := sizeEnt; simp [hq] at this
        | some i => have hi : i.size = 2 := by have := sizeEnt; simpa [hq] using this
                    simp [sizeOf, typeInfo, hq, hi]) ⟨p, 0, none⟩ ⟨g, (k + 1) * 2, none⟩ 1 1 lb cb hfar2 tp 67 2 cur.size (shape_blk h1) (shape_blk h2) (by omega) (h1.free _) (h1.free _)]
    rfl
  have hov2 := hov w HP.out HB.out
  clear hov
  go_enter Try.func123, Try.ntmps123
  go_wp2_with fail
  have HB0 := Lib.hid (show Blk w.drew g 67 cur from HB.out)
  have HP0 := Lib.hid (show Blk w.drew p tp #[.string e.1, .string e.2] from HP.out)
  refine wp_region_held_drew (S := fun W => w.grownBy W (some g)) (by kernel_rfl) (ext_grown _ (Ext.refl _).drew) (fun hHeld => ?_)
  generalize w.drew = w0 at hHeld HB0 HP0 ⊢
  refine wpAnyH_take (i := 0) (oi := ?oir0) (v := ?vr0) ?hir0 (by kernel_rfl) (by kernel_rfl) (by kernel_rfl) ?hQr0 ?hyr0 (by assumption) ?restr0
  case hir0 => simp only [List.getElem?_toArray, List.getElem?_cons_zero, List.getElem?_cons_succ]; rfl
  case hQr0 => exact fun _ _ _ h => h
  case hyr0 => exact Or.inl ⟨by rfl, by intro w hSw; (try dsimp only at hSw); go_simp; with_reducible rfl⟩
  try simp only [Act.put, List.setIfInBounds_toArray, List.set_cons_zero, List.set_cons_succ]
  refine wpAnyH_take (i := 1) (oi := ?oir1) (v := ?vr1) ?hir1 (by kernel_rfl) (by kernel_rfl) (by kernel_rfl) ?hQr1 ?hyr1 (by assumption) ?restr1
  case hir1 => simp only [List.getElem?_toArray, List.getElem?_cons_zero, List.getElem?_cons_succ]; rfl
  case hQr1 => exact fun _ _ _ h => h
  case hyr1 => exact Or.inl ⟨by rfl, by intro w hSw; (try dsimp only at hSw); go_simp; with_reducible rfl⟩
  try simp only [Act.put, List.setIfInBounds_toArray, List.set_cons_zero, List.set_cons_succ]
  refine wpAnyH_take (i := 2) (oi := ?oir2) (v := ?vr2) ?hir2 (by kernel_rfl) (by kernel_rfl) (by kernel_rfl) ?hQr2 ?hyr2 (by assumption) ?restr2
  case hir2 => simp only [List.getElem?_toArray, List.getElem?_cons_zero, List.getElem?_cons_succ]; rfl
  case hQr2 => exact fun _ _ _ h => h
  case hyr2 => exact Or.inl ⟨by rfl, by intro w hSw; (try dsimp only at hSw); go_simp; with_reducible rfl⟩
  try simp only [Act.put, List.setIfInBounds_toArray, List.set_cons_zero, List.set_cons_succ]
  refine wpAnyH_take (i := 3) (oi := ?oir3) (v := ?vr3) ?hir3 (by kernel_rfl) (by kernel_rfl) (by kernel_rfl) ?hQr3 ?hyr3 (by assumption) ?restr3
  case hir3 => simp only [List.getElem?_toArray, List.getElem?_cons_zero, List.getElem?_cons_succ]; rfl
  case hQr3 => exact fun _ _ _ h => h
  case hyr3 => exact Or.inl ⟨by rfl, by intro w hSw; (try dsimp only at hSw); go_simp; with_reducible rfl⟩
  try simp only [Act.put, List.setIfInBounds_toArray, List.set_cons_zero, List.set_cons_succ]
  refine wpAnyH_take (i := 4) (oi := ?oir4) (v := ?vr4) ?hir4 (by kernel_rfl) (by kernel_rfl) (by kernel_rfl) ?hQr4 ?hyr4 (by assumption) ?restr4
  case hir4 => simp only [List.getElem?_toArray, List.getElem?_cons_zero, List.getElem?_cons_succ]; rfl
  case hQr4 => exact fun _ _ _ h => h
  case hyr4 => exact Or.inl ⟨by rfl, by intro w hSw; (try dsimp only at hSw); go_simp; with_reducible rfl⟩
  try simp only [Act.put, List.setIfInBounds_toArray, List.set_cons_zero, List.set_cons_succ]
  refine wpAnyH_take (i := 5) (oi := ?oir5) (v := ?vr5) ?hir5 (by kernel_rfl) (by kernel_rfl) (by kernel_rfl) ?hQr5 ?hyr5 (by assumption) ?restr5
  case hir5 => simp only [List.getElem?_toArray, List.getElem?_cons_zero, List.getElem?_cons_succ]; rfl
  case hQr5 => exact fun _ _ _ h => h
  case hyr5 => exact Or.inl ⟨by rfl, by intro w hSw; (try dsimp only at hSw); go_simp; with_reducible rfl⟩
  try simp only [Act.put, List.setIfInBounds_toArray, List.set_cons_zero, List.set_cons_succ]
  refine wpAnyH_take (i := 6) (oi := ?oir6) (v := ?vr6) ?hir6 (by kernel_rfl) (by kernel_rfl) (by kernel_rfl) ?hQr6 ?hyr6 (by assumption) ?restr6
  case hir6 => simp only [List.getElem?_toArray, List.getElem?_cons_zero, List.getElem?_cons_succ]; rfl
  case hQr6 => exact fun _ _ _ h => h
  case hyr6 => exact Or.inl ⟨by rfl, by intro w hSw; (try dsimp only at hSw); go_simp; with_reducible rfl⟩
  try simp only [Act.put, List.setIfInBounds_toArray, List.set_cons_zero, List.set_cons_succ]
  refine wpAnyH_take (i := 7) (oi := ?oir7) (v := ?vr7) ?hir7 (by kernel_rfl) (by kernel_rfl) (by kernel_rfl) ?hQr7 ?hyr7 (by assumption) ?restr7
  case hir7 => simp only [List.getElem?_toArray, List.getElem?_cons_zero, List.getElem?_cons_succ]; rfl
  case hQr7 => exact fun _ _ _ h => h
  case hyr7 => exact Or.inl ⟨by rfl, by intro w hSw; (try dsimp only at hSw); go_simp; with_reducible rfl⟩
  try simp only [Act.put, List.setIfInBounds_toArray, List.set_cons_zero, List.set_cons_succ]
  have hl1 : ((xs.drop k).flatMap tEnt.enc).length = (xs.length - k) * 2 := by rw [flat_len, hdl]
  have hmm : (xs.length - k) * 2 = Nat.min (xs.length + 1 - k) (xs.length - k) * 2 := by simp only [Nat.min_def]; split <;> omega
  have hrun : ∀ ty c c', (Builtin.copy_ #[43, 43] ty #[.slice (some ⟨g, (k + 1) * 2, none⟩) (xs.length - k) c, .slice (some ⟨g, k * 2, none⟩) (xs.length + 1 - k) c']).run Try.prog w0 = .ok (goInt (Nat.min (xs.length + 1 - k) (xs.length - k))) (w0.setRow g (splice cur ((k + 1) * 2) ((xs.drop k).flatMap tEnt.enc))) := fun ty c c' =>
    run_copyE w0 _ _ ty 67 g ((k + 1) * 2) _ c ⟨g, k * 2, none⟩ _ c' cur _ _ Try.underlying43 sizeEnt HB0.out (by rw [hl1]; exact hmm) (fun j u hu => by rw [Addr.add_lit, HB0.out.cell]; exact HC.out j u hu) (by rw [hl1, hcs]; omega) (one_ents _)
  refine wpAnyH_ready (rs := [8]) (by kernel_rfl) (by simp) (AllReadyH.cons (o := ?or8) ?hr8 (fun K hK => ?sr8) AllReadyH.nil)
  case hr8 => simp only [List.getElem?_toArray, List.getElem?_cons_zero, List.getElem?_cons_succ]; rfl
  refine stp_copyRun rfl (.tmp 73) (.tmp 76) rfl rfl rfl (hrun _ _ _) ?_
  have hH2 := grown_row hHeld (g := g) (splice cur ((k + 1) * 2) ((xs.drop k).flatMap tEnt.enc))
  have HB1 := Lib.hid (HB0.out.setRow (splice cur ((k + 1) * 2) ((xs.drop k).flatMap tEnt.enc)))
  have HP1 := Lib.hid (HP0.out.row_far (g' := g) hfar2 (splice cur ((k + 1) * 2) ((xs.drop k).flatMap tEnt.enc)))
  have HH2 := Lib.hid hH2
  obtain ⟨w1, hw1⟩ : ∃ w1, w1 = w0.setRow g (splice cur ((k + 1) * 2) ((xs.drop k).flatMap tEnt.enc)) := ⟨_, rfl⟩
  simp only [← hw1] at hH2 HB1 HP1 HH2 hK ⊢
  refine hK.out _ _ hH2 (fun _ => ?_)
  clear hHeld hK K
  try simp only [Act.put, List.setIfInBounds_toArray, List.set_cons_zero, List.set_cons_succ]
  refine wpAnyH_done (by kernel_rfl) ?_ _
  clear hrun hw1 hH2 HB0 HP0
  obtain ⟨cur1, hc1⟩ : ∃ cur1, splice cur ((k + 1) * 2) ((xs.drop k).flatMap tEnt.enc) = cur1 := ⟨_, rfl⟩
  have hs1 : cur1.size = cap * 2 := by rw [← hc1, splice_size _ _ _ (by rw [hl1, hcs]; omega), hcs]
  have HC1 := Lib.hid hc1
  rw [hc1] at HB1
  clear hc1
  have hm1 : [e].length * 2 = Nat.min 1 (xs.length + 1 - k) * 2 := by simp only [Nat.min_def, List.length_singleton]; split <;> omega
  have hrun : ∀ ty c c', (Builtin.copy_ #[43, 43] ty #[.slice (some ⟨g, k * 2, none⟩) (xs.length + 1 - k) c, .slice (some ⟨p, 0, none⟩) 1 c']).run Try.prog w1 = .ok (goInt (Nat.min 1 (xs.length + 1 - k))) (w1.setRow g (splice cur1 (k * 2) ([e].flatMap tEnt.enc))) := fun ty c c' =>
    run_copyE w1 _ _ ty 67 g (k * 2) _ c ⟨p, 0, none⟩ _ c' cur1 _ _ Try.underlying43 sizeEnt HB1.out (by rw [flat_len]; exact hm1) (cells_box HP1.out) (by rw [flat_len, hs1]; simp only [List.length_singleton]; omega) (one_ents _)
  go_wp2_with (at_builtin; refine wpl_copyRun rfl _ _ rfl rfl rfl (hrun _ _ _) ?_)
  go_ret
  refine ⟨_, rfl, ?_, grown_row HH2.out _⟩
  have hL := insR_length e (show k ≤ xs.length by omega)
  have hz2 : (splice cur1 (k * 2) ([e].flatMap tEnt.enc)).size = cap * 2 := by rw [splice_size _ _ _ (by rw [flat_len, hs1]; simp only [List.length_singleton]; omega), hs1]
  have hfit1 : (k + 1) * 2 + (xs.drop k).length * 2 ≤ cur.size := by rw [hdl, hcs]; omega
  have hfit2 : k * 2 + [e].length * 2 ≤ cur1.size := by rw [hs1]; simp only [List.length_singleton]; omega
  have := own_of_at (base := base) (cap := cap) (xs := insR xs k e) (HB1.out.setRow (splice cur1 (k * 2) ([e].flatMap tEnt.enc))) hgb hz2 (by rw [hL]; omega) hcm (by rw [hL]; omega) HOK.out
    (at_ins (show k ≤ xs.length by omega)
      (fun i hi hx => at_out hfit2 (.inl hi) (by rw [← HC1.out]; exact at_out hfit1 (.inl (by omega)) (HAT.out i hx)))
      (at_in hfit2 0 (by simp))
      (fun i hi => at_out hfit2 (.inr (by simp only [List.length_singleton]; omega)) (by rw [← HC1.out]; have := at_in hfit1 i (by rw [hdl]; omega); rwa [List.getElem_drop] at this)))
  rw [hL] at this
  exact this
end Go.Proofs.Ytbippohfinbngaa
