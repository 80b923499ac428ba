/- What the walk of the law FnExactLinksOf needs, part 3 of 4. No condition. -/
import Derived.Laws.StructEq
import Derived.Laws.BytesArg
import Derived.Deep.RegionLaw
import Derived.Test.YteegnbdgfedajaaPFnExactLinksOf2
/- The program of a delta: the reference. No condition. -/
namespace Go.Proofs.Yteegnbdgfedajaa
open Go.RowKit
set_option linter.unusedVariables false
set_option linter.unusedSimpArgs false

theorem Own.rd_at {α : Type} {T : Ty α} {e : TypeId} {w : World} {base : Nat} {v : Value} {xs : List α} (h : Own T e w base v xs) : RdL T w (fun g => some g = v.ownBlock ∧ g < w.heap.size) v xs := by
  obtain ⟨⟨hl, hx⟩, h2, h3⟩ := h
  rcases hx with ⟨rfl, h0⟩ | ⟨g, cap, cur, rfl, hb, hg, hc, hm, hs, ht⟩
  · obtain rfl : xs = [] := List.eq_nil_of_length_eq_zero h0
    exact ⟨none, 0, rfl, Nat.le_refl _, by simp, Rd.nil _ _ _ _, h3⟩
  · refine ⟨_, cap, rfl, hc, h2, ⟨hl, fun hn => ⟨g, 0, rfl, ⟨rfl, (Array.getElem?_eq_some_iff.1 hg).1⟩, fun j u hu => ?_⟩⟩, h3⟩
    rw [Nat.zero_add, cell_of_row w g j cur e (0, 0) hg]
    rw [← ht, List.getElem?_take] at hu
    split at hu
    · simpa using hu
    · cases hu
/-- what is left behind the first j -/
theorem rdl_cut {w : World} {S : Nat → Prop} {g o cap n : Nat} {B : List Int} (h : Rd w S 1 (some ⟨g, o, none⟩) n (nums .u8 B)) (hok : B8 B) (hc : B.length ≤ cap) (hl : B.length ≤ 140737488355328) (j : Nat) (hj : j ≤ B.length) : RdL tByte w S (.slice (some ⟨g, o + j, none⟩) (B.length - j) (cap - j)) (B.drop j) := by
  have h1 := h.sub8 j (B.length - j) (by omega)
  have e : (B.drop j).take (B.length - j) = B.drop j := List.take_of_length_le (by simp)
  rw [e] at h1
  refine ⟨_, cap - j, by rw [List.length_drop], by rw [List.length_drop]; omega, by rw [List.length_drop]; omega, h1, fun x hx => hok x (List.mem_of_mem_drop hx)⟩
theorem rd_four (w : World) (x y z u : Int) (t : TypeId) : Rd (w.alloc (.cells #[.int .u8 x, .int .u8 y, .int .u8 z, .int .u8 u] t)) (fun _ => True) tByte.sz (some ⟨w.heap.size, 0, none⟩) [x, y, z, u].length ([x, y, z, u].flatMap tByte.enc) := by
  refine ⟨rfl, fun _ => ⟨_, 0, rfl, trivial, fun j q hu => ?_⟩⟩
  rw [Nat.zero_add, (Blk.new w t _).cell]
  have e : ([x, y, z, u].flatMap tByte.enc) = [.int .u8 x, .int .u8 y, .int .u8 z, .int .u8 u] := rfl
  rw [e] at hu
  simpa using hu
theorem rd_four' {w : World} {g : Nat} (hg : g = w.heap.size) (x y z u : Int) (t : TypeId) : Rd (w.alloc (.cells #[.int .u8 x, .int .u8 y, .int .u8 z, .int .u8 u] t)) (fun _ => True) tByte.sz (some ⟨g, 0, none⟩) [x, y, z, u].length ([x, y, z, u].flatMap tByte.enc) := by
  subst hg
  exact rd_four w x y z u t
theorem ok4 {x y z u : Int} (hx : 0 ≤ x ∧ x ≤ 255) (hy : 0 ≤ y ∧ y ≤ 255) (hz : 0 ≤ z ∧ z ≤ 255) (hu : 0 ≤ u ∧ u ≤ 255) : ∀ q ∈ [x, y, z, u], tByte.ok q := by
  intro q hq
  simp at hq
  rcases hq with rfl | rfl | rfl | rfl <;> assumption
set_option maxHeartbeats 4000000 in
set_option maxRecDepth 100000 in
theorem l06Delta_any (v u : Value) (B D : List Int) (w : World) (S S' : Nat → Prop) (h : RdL tByte w S v B) (h' : RdL tByte w S' u D) (hBl : B.length ≤ 1024) (hDl : D.length ≤ 1024) :
    Calls Try.prog 43 #[v, u] w fun e w' => ∃ v', e = .returned (.tuple #[v', .bool (decide (((dltL B D).length : Int) ≤ 1024))]) ∧ Own tByte 5 w' w.heap.size v' (dltL B D) ∧ Ext w w' := by
  obtain ⟨A, cap, rfl, hcap, hlen, hrd, hok⟩ := h
  obtain ⟨A', cap', rfl, hcap', hlen', hrd', hok'⟩ := h'
  have Hrd := Lib.hid (show Rd w S 1 A B.length (nums .u8 B) by rw [← flat_bytes]; exact hrd)
  have Hrd' := Lib.hid (show Rd w S' 1 A' D.length (nums .u8 D) by rw [← flat_bytes]; exact hrd')
  have Hok := Lib.hid (show B8 B from hok)
  have Hok' := Lib.hid (show B8 D from hok')
  clear hrd hrd' hok hok'
  go_enter Try.func43, Try.ntmps43
  go_wp2_with fail
  go_loopw [6, 7, 8] (fun o hv i wr => ∃ (k : Nat) (O H : List Int) (f : Nat), k ≤ D.length ∧ i = .int .i64 k ∧ dltL B D = dlt B f (D.drop k) H O ∧ D.length - k ≤ f ∧ O.length + 3 * H.length ≤ 4 * k ∧ H.length ≤ k ∧ B8 H ∧ Own tByte 5 wr w.heap.size o O ∧ Own tByte 5 wr w.heap.size hv H ∧ o.ownBlock ≠ hv.ownBlock ∧ Ext w wr)
    (fun _ _ i _ => D.length - (intOf i).toNat)
  case atStart => exact ⟨0, [], [], D.length, by omega, rfl, rfl, by omega, by decide, by decide, fun x hx => by simp at hx, (Own.empty _ _ _ _ (Nat.le_refl _)).alloc _, Own.of_blk8 (g := w.heap.size + 1) (xs := []) (Blk.new' (g := w.heap.size + 1) (w := w.alloc _) (by simp) 5 #[]) (by omega) (by simp) (fun x hx => by simp at hx), by simp [Value.ownBlock], (ext_alloc _ _).alloc _⟩
  case round =>
    obtain ⟨k, O, H, f, hk, rfl, hF, hf, hol, hHk, hB8, hO, hH, hne, hX⟩ := hrel
    obtain ⟨wo, hwo⟩ : ∃ wo, wo = wr := ⟨_, rfl⟩
    subst hwo
    obtain ⟨O1, on, oc, rfl⟩ := hO.shape3
    obtain ⟨H1, hn, hc, rfl⟩ := hH.shape3
    have HF := Lib.hid hF
    have HO := Lib.hid hO
    have HH := Lib.hid hH
    have HN := Lib.hid hne
    have HX := Lib.hid hX
    have HB8 := Lib.hid hB8
    clear hF hO hH hne hX hB8
    by_cases hlt : k < D.length
    rotate_left
    · obtain rfl : k = D.length := by omega
      have hend := HF.out
      rw [List.drop_length, dlt_end] at hend
      have HE := Lib.hid hend
      have hpl := l06Plain_any _ _ O H wo w.heap.size _ HO.out HH.out.rd_at (fun g hg => ⟨fun e => HN.out (e.symm.trans hg.1 |> fun q => q), hg.2⟩) HX.out.size (by omega) (by omega)
      have HP := Lib.hid hpl
      clear hend hpl
      go_wp2_with fail
      refine HP.out.mono ?_
      rintro e w1 ⟨v1, rfl, ho1, hg1⟩
      rw [← HE.out] at ho1
      obtain ⟨C1, hCl⟩ := ho1.shape
      obtain ⟨cc1, rfl⟩ := hCl
      have HO1 := Lib.hid ho1
      have HX1 := Lib.hid (HX.out.grown hg1.g (fun q hq => (HO.out.base_le q hq).1))
      clear ho1 hg1
      go_wp2_with fail
      go_ret2
      exact ⟨_, rfl, HO1.out, HX1.out⟩
    obtain ⟨f, rfl⟩ : ∃ f', f = f' + 1 := ⟨f - 1, by omega⟩
    obtain ⟨g', o', rfl, hs', hcd⟩ := (Hrd'.out).byte k hlt
    have hcapk : ¬ cap' = k := by omega
    have hi1 : (0 : Int) ≤ (k : Int) := by omega
    have hi2 : (k : Int) ≤ (cap' : Int) := by omega
    have hi3 : (k : Int) ≤ (D.length : Int) := by omega
    go_wp2_with fail
    go_loopw [9, 10, 11] (fun b p i w2 => ∃ j : Nat, j ≤ B.length ∧ i = .int .i64 j ∧ b = .int .i64 ((bestK B (D.drop k) j).2 : Nat) ∧ p = .int .i64 ((bestK B (D.drop k) j).1 : Nat) ∧ Drawn wo w2) (fun _ _ i _ => B.length - (intOf i).toNat)
    case atStart => exact ⟨0, by omega, rfl, rfl, rfl, Drawn.refl _⟩
    case round =>
      obtain ⟨j, hj, rfl, rfl, rfl, hD⟩ := hrel
      have HD := Lib.hid hD
      clear hD
      by_cases hltj : j < B.length
      · obtain ⟨g, o, hA, hs, hc0⟩ := (Hrd.out).byte j hltj
        subst hA
        clear hc0
        have hcapj : ¬ cap = j := by omega
        have hj1 : (0 : Int) ≤ (j : Int) := by omega
        have hj2 : (j : Int) ≤ (cap : Int) := by omega
        have hj3 : (j : Int) ≤ (B.length : Int) := by omega
        have HBK := Lib.hid (show bestK B (D.drop k) (j + 1) = if (bestK B (D.drop k) j).2 < mat 255 (B.drop j) (D.drop k) then (j, mat 255 (B.drop j) (D.drop k)) else bestK B (D.drop k) j from rfl)
        have hcall := fun n => l06Match_any _ _ (B.drop j) (D.drop k) (wr.drewN n) S S' ((rdl_cut Hrd.out Hok.out hcap hlen j hj).ext (by decide) ((HX.out.trans HD.out.ext).drewN n)) ((rdl_cut Hrd'.out Hok'.out hcap' hlen' k hk).ext (by decide) ((HX.out.trans HD.out.ext).drewN n))
        have hmm := (mat_le 255 (B.drop j) (D.drop k)).1
        generalize mat 255 (B.drop j) (D.drop k) = m at hcall HBK hmm
        have HC := Lib.hid hcall
        clear hcall
        by_cases hm : (bestK B (D.drop k) j).2 < m
        · have HB1 := Lib.hid (show (bestK B (D.drop k) (j + 1)) = (j, m) by rw [HBK.out, if_pos hm])
          generalize bestK B (D.drop k) j = q at hm HBK ⊢
          obtain ⟨q1, q2⟩ := q
          dsimp only at hm ⊢
          go_wp2_with fail
          go_quiet ((go_at_call 77; exact Calls.quiet_of (HC.out _)))
          go_wp2_with fail
          go_roundw
          case rel => exact ⟨j + 1, by omega, by go_num, by rw [HB1.out], by rw [HB1.out], HD.out.drewN _⟩
          case measure => simp [intOf]; omega
        · have HB1 := Lib.hid (show (bestK B (D.drop k) (j + 1)) = bestK B (D.drop k) j by rw [HBK.out, if_neg hm])
          generalize bestK B (D.drop k) j = q at hm HBK HB1 ⊢
          obtain ⟨q1, q2⟩ := q
          dsimp only at hm ⊢
          go_wp2_with fail
          go_quiet ((go_at_call 77; exact Calls.quiet_of (HC.out _)))
          go_wp2_with fail
          go_roundw
          case rel => exact ⟨j + 1, by omega, by go_num, by rw [HB1.out], by rw [HB1.out], HD.out.drewN _⟩
          case measure => simp [intOf]; omega
      · obtain rfl : j = B.length := by omega
        have hbo := bestK_ok B (D.drop k) B.length (Nat.le_refl _)
        have HHD := Lib.hid (fun hb => dlt_hold B f (D.drop k) H O (by simp; omega) hb)
        have HCP := Lib.hid (fun hb => dlt_copy B f (D.drop k) H O (by simp; omega) hb)
        have hml := fun i => mat_le 255 (B.drop i) (D.drop k)
        generalize bestK B (D.drop k) B.length = q at hbo HHD HCP ⊢
        obtain ⟨p, m⟩ := q
        dsimp only at hbo HHD HCP ⊢
        have hpm : p ≤ B.length ∧ m ≤ 255 ∧ m ≤ D.length - k := by
          have h1 := hml p
          rw [List.length_drop, List.length_drop] at h1
          rcases hbo with h | h
          · omega
          · omega
        clear hbo hml
        have HX1 := Lib.hid (HX.out.trans HD.out.ext)
        have HO1 := Lib.hid (HO.out.ext HD.out.ext)
        have HH1 := Lib.hid (HH.out.ext HD.out.ext)
        have hcd1 := HX1.out.cell hcd
        have hd255 := B8.get Hok'.out k
        clear hcd
        by_cases h8 : m < 8
        · have HST := Lib.hid (HHD.out h8)
          have h8I : (m : Int) < 8 := by omega
          clear HHD HCP
          go_wp2_with (at_builtin; refine wpl_append rowByte rfl _ _ rfl (v := .slice H1 hn hc) rfl (HH1.out.alloc _) _ _ rfl (A := some ⟨wr.heap.size, 0, none⟩) (ys := [gI D k]) rfl (rd_byte wr (gI D k) (by omega) _) (okOne (by omega)) (by simp; omega) (HX1.out.alloc _).size ?_; intro v9 w9 ho9 hg9 hat9; have HX9 := Lib.hid ((HH1.out.alloc _).ext_app (HX1.out.alloc _) hg9); have HG9 := Lib.hid ((Go1.ext (v := .slice H1 hn hc) (ext_alloc _ _) rfl).trans (Go1.app hg9 hat9)); have HH9 := Lib.hid ho9; obtain ⟨H2, hn2, hc2, rfl⟩ := ho9.shape3; clear ho9 hg9 hat9)
          go_roundw
          case rel => exact ⟨k + 1, O, H ++ [gI D k], f, by omega, by go_num, by rw [HF.out, HST.out, List.drop_drop, gI_drop]; rfl, by omega, by simp; omega, by simp; omega, fun x hx => by
            rcases List.mem_append.1 hx with hx | hx
            · exact HB8.out x hx
            · simp at hx; subst hx; exact hd255, HO1.out.kept HG9.out.g (.inr HN.out), HH9.out, by
              rcases HG9.out.at_ with e | ⟨q, e, hq⟩
              · rw [e]; exact HN.out
              · rw [e]; intro e2; have := (HO1.out.base_le _ e2).2; omega, HX9.out⟩
          case measure => simp [intOf]; omega
        · have HST := Lib.hid (HCP.out h8)
          have h8I : ¬ (m : Int) < 8 := by omega
          have hpl := l06Plain_any _ _ O H wr w.heap.size _ HO1.out HH1.out.rd_at (fun g hg => ⟨fun e => HN.out (e.symm.trans hg.1), hg.2⟩) HX1.out.size (by omega) (by omega)
          have HP := Lib.hid hpl
          clear HHD HCP hpl
          go_wp2_with fail
          refine HP.out.mono ?_
          rintro e w1 ⟨v1, rfl, ho1, hg1⟩
          obtain ⟨C1, cn1, cc1, rfl⟩ := ho1.shape3
          have HO2 := Lib.hid ho1
          have HX2 := Lib.hid (HX1.out.grown hg1.g (fun q hq => (HO1.out.base_le q hq).1))
          clear ho1 hg1 HP
          have e1 : ((p % 256 : Nat) : Int) = (p : Int) % 256 := by omega
          have e2 : ((p / 256 : Nat) : Int) = (p : Int) / 256 := by omega
          have HST2 := Lib.hid (show dlt B (f + 1) (D.drop k) H O = dlt B f ((D.drop k).drop m) [] (O ++ chk H.length H ++ [1, (p : Int) % 256, (p : Int) / 256, (m : Int)]) by rw [HST.out, e1, e2])
          have HCL := Lib.hid (chk_len H.length H)
          have hcl := HCL.out
          have HNE := Lib.hid (show ∀ q, (Value.slice C1 cn1 cc1).ownBlock = some q → q < w1.heap.size from fun q hq => (HO2.out.base_le q hq).2)
          clear e1 e2 HST
          go_wp2_with (at_builtin; refine wpl_append rowByte rfl _ _ rfl (v := .slice C1 cn1 cc1) rfl ((HO2.out.alloc _).alloc _) _ _ rfl (A := some ⟨w1.heap.size + 1, 0, none⟩) (ys := [1, (p : Int) % 256, (p : Int) / 256, (m : Int)]) rfl (rd_four' (by simp) 1 _ _ _ _) (ok4 (by omega) (by omega) (by omega) (by omega)) (by simp; omega) ((HX2.out.alloc _).alloc _).size ?_; intro v9 w9 ho9 hg9 hat9; have HX9 := Lib.hid (((HO2.out.alloc _).alloc _).ext_app ((HX2.out.alloc _).alloc _) hg9); have HH9 := Lib.hid (((Own.empty tByte w1 5 w.heap.size HX2.out.size).alloc _).kept hg9 (.inr fun e => absurd (HNE.out _ e.symm) (Nat.lt_irrefl _))); have HG9 := Lib.hid (Go1.app hg9 hat9); have HO9 := Lib.hid ho9; obtain ⟨O2, on2, oc2, rfl⟩ := ho9.shape3; clear ho9 hg9 hat9)
          go_roundw
          case rel => exact ⟨k + m, _, [], f, by omega, by go_num, by rw [HF.out, HST2.out, List.drop_drop], by omega, by simp; omega, by simp, fun x hx => by simp at hx, HO9.out, HH9.out, by
            rcases HG9.out.at_ with e | ⟨q, e, hq⟩
            · rw [e]; exact fun e2 => absurd (HNE.out _ e2) (Nat.lt_irrefl _)
            · rw [e]; intro e2; have h3 : q = w1.heap.size := Option.some.inj e2; simp at hq; omega, HX9.out⟩
          case measure => simp [intOf]; omega
set_option maxHeartbeats 1000000 in
set_option maxRecDepth 100000 in
theorem specDeltaOf_any (v u : Value) (B D : List Int) (w : World) (S S' : Nat → Prop) (h : RdL tByte w S v B) (h' : RdL tByte w S' u D) :
    Calls Try.prog 9 #[v, u] w fun e w' => ∃ v', e = .returned (.tuple #[v', .int .i64 (deltaR B D).2]) ∧ Own tByte 5 w' w.heap.size v' (deltaR B D).1 ∧ Ext w w' := by
  have H := Lib.hid h
  have H' := Lib.hid h'
  obtain ⟨A, cap, rfl, hcap, hlen, _⟩ := h
  obtain ⟨A', cap', rfl, hcap', hlen', _⟩ := h'
  unfold deltaR
  by_cases h1 : 1024 < B.length
  · rw [if_pos (.inl h1)]
    have h1' : (1024 : Int) < (B.length : Int) := by omega
    go_enter Try.func9, Try.ntmps9
    go_wp2_with fail
    go_ret2
    exact ⟨_, rfl, Own.empty _ _ _ _ (Nat.le_refl _), ext_alloc _ _⟩
  by_cases h2 : 1024 < D.length
  · rw [if_pos (.inr h2)]
    have h2' : (1024 : Int) < (D.length : Int) := by omega
    have h1' : ¬ (1024 : Int) < (B.length : Int) := by omega
    go_enter Try.func9, Try.ntmps9
    go_wp2_with fail
    go_ret2
    exact ⟨_, rfl, Own.empty _ _ _ _ (Nat.le_refl _), ext_alloc _ _⟩
  rw [if_neg (by omega)]
  have h2' : ¬ (1024 : Int) < (D.length : Int) := by omega
  have h1' : ¬ (1024 : Int) < (B.length : Int) := by omega
  have hc := l06Delta_any _ _ B D w S S' H.out H'.out (by omega) (by omega)
  generalize dltL B D = R at hc ⊢
  by_cases h3 : 1024 < R.length
  · rw [if_pos h3]
    rw [decide_eq_false (by omega)] at hc
    have HC := Lib.hid hc
    clear hc
    go_enter Try.func9, Try.ntmps9
    go_wp2_with fail
    refine HC.out.mono ?_
    rintro e w1 ⟨v1, rfl, ho, hx⟩
    obtain ⟨A1, n1, c1, rfl⟩ := ho.shape3
    have HX := Lib.hid hx
    clear ho hx
    go_wp2_with fail
    go_ret2
    exact ⟨_, rfl, Own.empty _ _ _ _ HX.out.size, HX.out.alloc _⟩
  · rw [if_neg h3]
    rw [decide_eq_true (by omega)] at hc
    have HC := Lib.hid hc
    clear hc
    go_enter Try.func9, Try.ntmps9
    go_wp2_with fail
    refine HC.out.mono ?_
    rintro e w1 ⟨v1, rfl, ho, hx⟩
    obtain ⟨A1, n1, c1, rfl⟩ := ho.shape3
    have HO := Lib.hid ho
    have HX := Lib.hid hx
    clear ho hx
    go_wp2_with fail
    go_ret2
    exact ⟨_, rfl, HO.out, HX.out⟩
end Go.Proofs.Yteegnbdgfedajaa
/- The links of a blob: keys out of bytes; a node's bytes. No condition. -/
namespace Go.Proofs.Yteegnbdgfedajaa
open Go.RowKit
set_option linter.unusedVariables false
set_option linter.unusedSimpArgs false

theorem rowKeyK : Row Try.prog tKey 41 40 32 := Row.mk' Try.underlying41 (.agg (numsA .u8 (List.replicate 32 0))) (by kernel_rfl) rfl (by decide) (by decide)
theorem built_zeroK7 : Try.prog.built 40 [] = some (numsA .u8 (List.replicate 32 0)) := by kernel_rfl
set_option maxHeartbeats 4000000 in
set_option maxRecDepth 100000 in
theorem keysInK_any (v : Value) (al : List Int) (m : Nat) (w : World) (S : Nat → Prop) (h : RdL tByte w S v al) (hm : al.length = 32 * m) (hl : al.length ≤ 140737488355) :
    Calls Try.prog 57 #[v] w fun e w' => ∃ v', e = .returned v' ∧ Own tKey 40 w' w.heap.size v' (blocksL al m) ∧ Ext w w' := by
  obtain ⟨A, cap, rfl, hcap, hlen, hrd, hok⟩ := h
  have Hrd := Lib.hid (show Rd w S 1 A al.length (nums .u8 al) by rw [← flat_bytes]; exact hrd)
  have Hok := Lib.hid (show B8 al from hok)
  clear hrd hok
  have rowBlk : Row Try.prog tKey 41 40 32 := Row.mk' (by kernel_rfl) (.agg #[.int .u8 0, .int .u8 0, .int .u8 0, .int .u8 0, .int .u8 0, .int .u8 0, .int .u8 0, .int .u8 0, .int .u8 0, .int .u8 0, .int .u8 0, .int .u8 0, .int .u8 0, .int .u8 0, .int .u8 0, .int .u8 0, .int .u8 0, .int .u8 0, .int .u8 0, .int .u8 0, .int .u8 0, .int .u8 0, .int .u8 0, .int .u8 0, .int .u8 0, .int .u8 0, .int .u8 0, .int .u8 0, .int .u8 0, .int .u8 0, .int .u8 0, .int .u8 0]) (by kernel_rfl) rfl (by decide) (by decide)
  have HR := Lib.hid rowBlk
  clear rowBlk
  go_enter Try.func57, Try.ntmps57
  go_wp2_with fail
  go_loopw [0, 3] (fun d o wr => ∃ (k : Nat) (A1 : Option Addr) (c1 : Nat), k ≤ m ∧ d = .slice A1 (al.drop (32 * k)).length c1 ∧ (al.drop (32 * k)).length ≤ c1 ∧ Rd w S 1 A1 (al.drop (32 * k)).length (nums .u8 (al.drop (32 * k))) ∧ Own tKey 40 wr w.heap.size o (blocksL al k) ∧ Ext w wr) (fun d _ _ => lenV d)
  case atStart => exact ⟨0, A, cap, by omega, rfl, hcap, Hrd.out, Own.empty _ _ _ _ (Nat.le_refl _), ext_alloc _ _⟩
  case round =>
    obtain ⟨k, A1, c1, hk, rfl, hc1, hr, ho, hx⟩ := hrel
    have HX := Lib.hid hx
    have HO := Lib.hid ho
    have HR1 := Lib.hid hr
    obtain ⟨B, bn, bc, rfl⟩ := ho.shape3
    clear hx ho hr
    have hdl : (al.drop (32 * k)).length = 32 * (m - k) := by rw [List.length_drop]; omega
    rw [hdl] at HR1 hc1 ⊢
    by_cases hlt : k < m
    · obtain ⟨n, hn⟩ : ∃ n, n = 32 * (m - k) := ⟨_, rfl⟩
      rw [← hn] at HR1 hc1 ⊢
      have hn32 : 32 ≤ n := by omega
      obtain ⟨g, o, rfl, hs, hcell⟩ := HR1.out.2 (by omega)
      have hK := blockL_ok al k Hok.out (by omega)
      have hbl : (blockL al k).length = 32 := hK.1
      have hck : ∀ j u, (nums .u8 (blockL al k))[j]? = some u → wr.cell? ((⟨g, o, none⟩ : Addr).add j) = some u := by
        intro j u hu
        rw [Addr.add_lit]
        refine HX.out.cell (hcell j u ?_)
        have hj : j < 32 := by
          have := (List.getElem?_eq_some_iff.1 hu).1
          rw [nums_length, hbl] at this
          exact this
        rw [blockL_eq] at hu
        rw [← hu]
        simp [nums, List.getElem?_take, hj]
      have HCK := Lib.hid hck
      have HCut := Lib.hid (HR1.out.cut8 32 c1 hn32 hc1)
      have HBS := Lib.hid (blocksL_succ al k)
      have hle : (blocksL al k).length = k := by simp [blocksL]
      generalize blockL al k = blk at *
      have HN := Lib.hid hn
      have HDL := Lib.hid hdl
      have HK := Lib.hid hK
      have HLE := Lib.hid hle
      clear hn hdl hcell hck hK hle
      have hnl : (nums .u8 blk).length = 32 := by rw [nums_length, hbl]
      have hge : (32 : Int) ≤ (n : Int) := by omega
      have W7 : ¬ n < 32 := by omega
      have harr : (Instr.arrayAt 40 (.slice (some ⟨g, o, none⟩) n c1)).run Try.prog wr = .ok (.pointer (some ⟨g, o, none⟩)) wr := by
        simp [Instr.arrayAt, run_underlying (show Try.prog.underlying 40 = some (.array 32 5) by kernel_rfl), W7]
      go_wp2_with (first
        | (refine wpl_load ⟨g, o, none⟩ (nums .u8 blk) (by rw [nums_length, hbl]; exact aggKey) rfl _ rfl rfl HCK.out ?_)
        | (at_builtin; rw [fold_fill (nums .u8 blk) _ (by rw [hnl]; rfl)]; refine wpl_append HR.out rfl _ _ rfl (v := .slice B bn bc) rfl (HO.out.alloc _) _ _ rfl (A := some ⟨wr.heap.size, 0, none⟩) (ys := [blk]) rfl (rd_one (T := tKey) wr blk HK.out _) (by intro y hy; obtain rfl := List.mem_singleton.1 hy; exact HK.out) (by rw [HLE.out]; simp; omega) (HX.out.alloc _).size ?_; intro v9 w9 ho1 hg1 hat1; have HX9 := Lib.hid ((HO.out.alloc _).ext_app (HX.out.alloc _) hg1); have HO9 := Lib.hid ho1; clear ho1 hg1 hat1))
      go_roundw
      case rel =>
        have hcut := HCut.out
        rw [List.drop_drop, show 32 * k + 32 = 32 * (k + 1) by omega] at hcut
        have hl2 : (al.drop (32 * (k + 1))).length = n - 32 := by rw [List.length_drop]; have := HN.out; omega
        refine ⟨k + 1, _, c1 - 32, by omega, ?_, by omega, hcut, by rw [HBS.out]; exact HO9.out, HX9.out⟩
        rw [hl2]
      case measure => simp [lenV]; omega
    · obtain rfl : k = m := by omega
      rw [Nat.sub_self, Nat.mul_zero] at HR1 hc1 ⊢
      go_wp2_with fail
      go_ret
      exact ⟨_, rfl, HO.out, HX.out⟩
set_option maxHeartbeats 4000000 in
set_option maxRecDepth 100000 in
theorem l05Keys_any (v : Value) (d : List Int) (f n : Nat) (w : World) (S : Nat → Prop) (h : RdL tByte w S v d) (hf : f + 32 * n ≤ d.length) (hdl : d.length ≤ 1048576) :
    Calls Try.prog 96 #[v, .int .i64 (f : Int), .int .i64 (n : Int)] w fun e w' => ∃ v', e = .returned v' ∧ Own tKey 40 w' w.heap.size v' (blocksL (d.drop f) n) ∧ Ext w w' := by
  obtain ⟨A, cap, rfl, hcap, hlen, hrd, hok⟩ := h
  have Hrd := Lib.hid (show Rd w S 1 A d.length (nums .u8 d) by rw [← flat_bytes]; exact hrd)
  have Hok := Lib.hid (show B8 d from hok)
  clear hrd hok
  have HBD := Lib.hid (show B8 (d.drop f) from fun x hx => Hok.out x (List.mem_of_mem_drop hx))
  go_enter Try.func96, Try.ntmps96
  go_wp2_with fail
  go_loopw [7, 8] (fun a i wr => ∃ k : Nat, k ≤ n ∧ i = .int .i64 k ∧ Own tKey 40 wr w.heap.size a (blocksL (d.drop f) k) ∧ Ext w wr) (fun _ i _ => n - (intOf i).toNat)
  case atStart => exact ⟨0, by omega, rfl, Own.empty _ _ _ _ (Nat.le_refl _), ext_alloc _ _⟩
  case round =>
    obtain ⟨k, hk, rfl, ho, hx⟩ := hrel
    obtain ⟨wo, hwo⟩ : ∃ wo, wo = wr := ⟨_, rfl⟩
    subst hwo
    obtain ⟨C, cn, cc, rfl⟩ := ho.shape3
    have HO := Lib.hid ho
    have HX := Lib.hid hx
    clear ho hx
    by_cases hlt : k < n
    · have hkI : (k : Int) < (n : Int) := by omega
      obtain ⟨g, o, rfl, _, _⟩ := Hrd.out.byte 0 (by omega)
      have HKB := Lib.hid (blockL_ok (d.drop f) k HBD.out (by rw [List.length_drop]; omega))
      have HBS := Lib.hid (blocksL_succ (d.drop f) k)
      have HBC := Lib.hid (show ∀ j, j < 32 → ∀ W, Ext w W → W.cell? ⟨g, o + (f + 32 * k + j), none⟩ = some (.int .u8 (gI (blockL (d.drop f) k) j)) from fun j hj W hW => by
        obtain ⟨g6, o6, e6, _, h6⟩ := Hrd.out.byte (f + 32 * k + j) (by omega)
        injection e6 with e6
        injection e6 with e5 e4
        subst e5 e4
        have e9 : gI (blockL (d.drop f) k) j = gI d (f + 32 * k + j) := by
          rw [blockL_eq]
          unfold gI
          rw [List.getD_eq_getElem?_getD, List.getElem?_take, if_pos hj, List.getElem?_drop, List.getElem?_drop, List.getD_eq_getElem?_getD]
          congr 2
          omega
        rw [e9]
        exact hW.cell h6)
      generalize blockL (d.drop f) k = blk at HKB HBS HBC
      have hbl := HKB.out.1
      have HZK := Lib.hid (show (List.replicate 32 (0 : Int)).length = 32 from by simp)
      have BQ0 := Lib.hid (Blk.new wo 40 (numsA .u8 (List.replicate 32 0)))
      go_wp2_with (first
        | (refine wpl_buildN rfl rfl built_zeroK7 ?_)
        | (refine wpl_storeNew aggKey HZK.out rfl rfl _ _ rfl rfl rfl rfl ?_))
      go_loopw [10] (fun i w3 => ∃ j : Nat, j ≤ 32 ∧ i = .int .i64 j ∧ Blk w3 wo.heap.size 40 (numsA .u8 (blk.take j ++ List.replicate (32 - j) 0)) ∧ wo.grownBy w3 (some wo.heap.size)) (fun i _ => 32 - (intOf i).toNat)
      case atStart => exact ⟨0, by omega, rfl, by simpa using BQ0.out, ext_grown _ (ext_alloc _ _)⟩
      case round =>
        obtain ⟨j, hj, rfl, hb, hg⟩ := hrel
        have HB := Lib.hid hb
        have HG := Lib.hid hg
        have HX3 := Lib.hid (HX.out.grown hg (fun q e => by injection e with e; have := HX.out.size; omega))
        clear hb hg BQ0
        by_cases hlj : j < 32
        · have hjI : (j : Int) < 32 := by omega
          have hcj := HBC.out j hlj _ HX3.out
          have hfl : (blk.take j ++ List.replicate (32 - j) (0 : Int)).length = 32 := by simp [hbl]; omega
          have d3 := HB.out.num j (by rw [hfl]; exact hlj)
          have f3 := HB.out.free j
          have et : ((f : Int) + 32 * (k : Int) + (j : Int)).toNat = f + 32 * k + j := by omega
          have p0 : (0 : Int) ≤ (f : Int) + 32 * (k : Int) + (j : Int) := by omega
          have p1 : (f : Int) + 32 * (k : Int) + (j : Int) < (d.length : Int) := by omega
          have HB2 := Lib.hid (show Blk (wr.setCell ⟨wo.heap.size, j, none⟩ (.int .u8 (gI blk j))) wo.heap.size 40 (numsA .u8 (blk.take (j + 1) ++ List.replicate (32 - (j + 1)) 0)) by
            have := HB.out.set j (.int .u8 (gI blk j))
            rw [numsA_set, fill_step blk 32 j hlj hbl] at this
            exact this)
          go_wp2
          go_roundw
          case rel => exact ⟨j + 1, by omega, by go_num, HB2.out, grown_set HG.out _⟩
          case measure => simp [intOf]; omega
        · obtain rfl : j = 32 := by omega
          have hb2 := HB.out
          rw [List.take_of_length_le (by omega), Nat.sub_self, List.replicate_zero, List.append_nil] at hb2
          have HB2 := Lib.hid hb2
          have HO3 := Lib.hid (HO.out.kept HG.out (by
            cases hq : (Value.slice C cn cc).ownBlock with
            | none => exact .inl rfl
            | some q => exact .inr (fun e => by injection e with e; have := (HO.out.base_le q hq).2; omega)))
          have hbn : (blocksL (d.drop f) k).length = k := by simp [blocksL]
          have hsz := sizeN (k := .u8) hbl
          clear hb2 HB HG
          go_wp2_with (first
            | (refine wpl_loadB HB2.out aggKey hsz rfl _ rfl rfl ?_)
            | (at_builtin; rw [fold_fillA (numsA .u8 blk) _ _ hsz rfl]; refine wpl_append rowKeyK rfl _ _ rfl (v := .slice C cn cc) rfl (HO3.out.alloc _) _ _ rfl (A := some ⟨wr.heap.size, 0, none⟩) (ys := [blk]) rfl (rd_one (T := tKey) wr blk HKB.out _) (by intro y hy; obtain rfl := List.mem_singleton.1 hy; exact HKB.out) (by rw [hbn]; simp; omega) (by have := HX3.out.size; simp; omega) ?_; intro v9 w9 ho1 hg1 hat1; have HX9 := Lib.hid ((HX3.out.alloc _).grown hg1 (fun q e => by have := ((HO3.out.alloc (.cells (numsA .u8 blk) 40)).base_le _ e).1; omega)); have HO9 := Lib.hid ho1; obtain ⟨C9, n9, c9, rfl⟩ := ho1.shape3; clear ho1 hg1 hat1))
          go_roundw
          case rel => exact ⟨k + 1, by omega, by go_num, by rw [HBS.out]; exact HO9.out, HX9.out⟩
          case measure => simp [intOf]; omega
    · obtain rfl : n = k := by omega
      have hkI : ¬ (n : Int) < (n : Int) := by omega
      go_wp2
      go_ret
      exact ⟨_, rfl, HO.out, HX.out⟩
end Go.Proofs.Yteegnbdgfedajaa
/- Arrays of bytes held against each other by == and !=. No condition. -/
namespace Go.Proofs.Yteegnbdgfedajaa
open Go.RowKit
set_option linter.unusedVariables false
set_option linter.unusedSimpArgs false

def eqArr (d : Nat) (e : TypeId) (n : Nat) (xs ys : Array Value) : List Nat → Sem Bool
  | [] => pure true
  | i :: is => do
    let a ← part e xs (i * n)
    let b ← part e ys (i * n)
    let r ← Op.equalIn d e a b
    if (!r) = true then pure false else eqArr d e n xs ys is
section
variable {P : Program} (w : World)
theorem run_equalIn_array (d : Nat) (t e : TypeId) (len n : Nat) (xs ys : Array Value) (ht : P.underlying t = some (.array len e)) (hn : ∀ w, (sizeOf e).run P w = .ok n w) :
    (Op.equalIn (d + 1) t (.agg xs) (.agg ys)).run P w = (eqArr d e n xs ys (List.range' 0 len)).run P w := by
  simp only [Op.equalIn, Sem.run_bind, run_underlying ht, Result.andThen_ok, hn]
  rw [Std.Legacy.Range.forIn_eq_forIn_range']
  simp only [Std.Legacy.Range.size, Nat.sub_zero, Nat.add_sub_cancel, Nat.div_one]
  generalize List.range' 0 len = l
  clear ht
  induction l generalizing w with
  | nil => simp [eqArr]
  | cons f fs ih =>
    simp only [List.forIn_cons, eqArr, Sem.run_bind, Sem.run_ite]
    generalize (part e xs (f * n)).run P w = r1
    cases r1 with
    | ok a w1 =>
      simp only [Result.andThen_ok]
      generalize (part e ys (f * n)).run P w1 = r2
      cases r2 with
      | ok b w2 =>
        simp only [Result.andThen_ok]
        generalize (Op.equalIn d e a b).run P w2 = r3
        cases r3 with
        | ok r w3 =>
          cases r
          · simp only [Result.andThen_ok, Bool.not_false, if_true, Sem.run_pure]
          · simp only [Result.andThen_ok, Bool.not_true, Bool.false_eq_true, if_false, Sem.run_pure]
            exact ih w3
        | halt x w3 => simp [Result.andThen]
      | halt x w2 => simp [Result.andThen]
    | halt x w1 => simp [Result.andThen]
theorem run_eqArr (d : Nat) (e : TypeId) (k' : IntKind) (he : P.underlying e = some (.int k')) (k : IntKind) (a b : List Int) (hl : a.length = b.length) (m i : Nat) (hi : i + m = a.length) :
    (eqArr (d + 1) e 1 (numsA k a) (numsA k b) (List.range' i m)).run P w = .ok (decide (a.drop i = b.drop i)) w := by
  have hagg : (isAgg e).run P w = .ok false w := by
    unfold isAgg
    rw [Sem.run_bind, run_underlying he w]
    rfl
  induction m generalizing i with
  | zero =>
    rw [List.drop_eq_nil_of_le (by omega), List.drop_eq_nil_of_le (by omega)]
    simp [eqArr]
  | succ m ih =>
    have h1 : i < a.length := by omega
    have h2 : i < b.length := by omega
    have e1 := numsA_at k a i h1
    have e2 := numsA_at k b i h2
    rw [List.range'_succ]
    simp only [eqArr, Sem.run_bind, part, hagg, Result.andThen_ok, Bool.false_eq_true, if_false, Nat.mul_one, e1, e2, Sem.run_pure, run_equalIn_int w d e k k' _ _ he, Sem.run_ite]
    rw [List.drop_eq_getElem_cons h1, List.drop_eq_getElem_cons h2]
    by_cases hq : gI a i = gI b i
    · have h3 : (gI a i == gI b i) = true := by simpa using hq
      simp only [h3, Bool.not_true, Bool.false_eq_true, if_false]
      rw [ih (i + 1) (by omega)]
      rw [gI_lt h1, gI_lt h2] at hq
      simp only [List.cons.injEq, hq, true_and]
    · have h3 : (gI a i == gI b i) = false := by simpa using hq
      simp only [h3, Bool.not_false, if_true]
      rw [gI_lt h1, gI_lt h2] at hq
      simp only [List.cons.injEq, hq, false_and, decide_false]
end
theorem run_eqKey (a b : List Int) (ha : K32 a) (hb : K32 b) (W : World) : (binOp .eql 40 (.agg (numsA .u8 a)) (.agg (numsA .u8 b))).run Try.prog W = .ok (.bool (decide (a = b))) W := by
  rw [run_eql_struct, run_equalIn_array (P := Try.prog) W 9999 40 5 32 1 _ _ (by kernel_rfl) (fun w => by kernel_rfl), run_eqArr (P := Try.prog) W 9998 5 .u8 (by kernel_rfl) .u8 a b (by rw [ha.1, hb.1]) 32 0 (by rw [ha.1])]
  simp
theorem run_neqKey (a b : List Int) (ha : K32 a) (hb : K32 b) (W : World) : (binOp .neq 40 (.agg (numsA .u8 a)) (.agg (numsA .u8 b))).run Try.prog W = .ok (.bool (!decide (a = b))) W := by
  rw [run_neq_struct, run_equalIn_array (P := Try.prog) W 9999 40 5 32 1 _ _ (by kernel_rfl) (fun w => by kernel_rfl), run_eqArr (P := Try.prog) W 9998 5 .u8 (by kernel_rfl) .u8 a b (by rw [ha.1, hb.1]) 32 0 (by rw [ha.1])]
  simp

end Go.Proofs.Yteegnbdgfedajaa
/- Entries held against each other by == and != (without nodes). No condition. -/
namespace Go.Proofs.Yteegnbdgfedajaa
open Go.RowKit
set_option linter.unusedVariables false
set_option linter.unusedSimpArgs false

theorem toList_inj7 {a b : ByteArray} (h : a.toList = b.toList) : a = b := by
  rw [ByteArray.toList_eq, ByteArray.toList_eq] at h
  exact ByteArray.ext (Array.toList_inj.1 h)
theorem part_one7 (t : Nat) (cs : Array Value) (off : Nat) (v : Value) (W : World) (h1 : (isAgg t).run Try.prog W = .ok false W) (h2 : cs[off]? = some v) : (part t cs off).run Try.prog W = .ok v W := by
  unfold part
  simp only [Sem.run_bind, h1, Result.andThen_ok, Bool.false_eq_true, if_false, h2, Sem.run_pure]
theorem eqF_cons7 {d : Nat} {xs ys : Array Value} {f : Field} {fs : List Field} {a b : Value} {r : Bool} {P : Program} (w : World) (hn : f.name ≠ "_") (ha : (part f.type xs f.offset).run P w = .ok a w) (hb : (part f.type ys f.offset).run P w = .ok b w) (hr : (Op.equalIn d f.type a b).run P w = .ok r w) :
    (Op.eqFields d xs ys (f :: fs)).run P w = if r then (Op.eqFields d xs ys fs).run P w else .ok false w := by
  rw [Op.eqFields, if_pos hn]
  simp only [Sem.run_bind, ha, hb, hr, Result.andThen_ok, Sem.run_ite, Sem.run_pure]
  cases r <;> simp
theorem eqF_nil7 {P : Program} (w : World) {d : Nat} {xs ys : Array Value} : (Op.eqFields d xs ys []).run P w = .ok true w := by simp [Op.eqFields]
theorem fieldsEn7 : ∃ f0 f1 : Field, (Try.prog.fieldsOf 124).toList = [f0, f1] ∧ (f0.name ≠ "_" ∧ f0.type = 9 ∧ f0.offset = 0) ∧ (f1.name ≠ "_" ∧ f1.type = 9 ∧ f1.offset = 1) := by
  simp only [Program.fieldsOf, Try.underlying124]
  exact ⟨_, _, rfl, ⟨by decide, rfl, rfl⟩, by decide, rfl, rfl⟩
theorem run_equalEn7 (d : Nat) (a b : En) (W : World) : (Op.equalIn (d + 1 + 1) 124 (.agg #[.string a.1, .string a.2]) (.agg #[.string b.1, .string b.2])).run Try.prog W = .ok (decide (a = b)) W := by
  rw [run_equalIn_agg (P := Try.prog) W (d + 1) 124 _ _ (by kernel_rfl) (by kernel_rfl)]
  obtain ⟨f0, f1, e, ⟨n0, t0, o0⟩, n1, t1, o1⟩ := fieldsEn7
  have s0 := part_one7 9 #[.string a.1, .string a.2] 0 (.string a.1) W (by kernel_rfl) rfl
  have s1 := part_one7 9 #[.string b.1, .string b.2] 0 (.string b.1) W (by kernel_rfl) rfl
  have s2 := part_one7 9 #[.string a.1, .string a.2] 1 (.string a.2) W (by kernel_rfl) rfl
  have s3 := part_one7 9 #[.string b.1, .string b.2] 1 (.string b.2) W (by kernel_rfl) rfl
  have q0 := run_equalIn_string (P := Try.prog) W d 9 a.1 b.1 (by kernel_rfl)
  have q1 := run_equalIn_string (P := Try.prog) W d 9 a.2 b.2 (by kernel_rfl)
  rw [← t0] at s0 s1 q0
  rw [← t1] at s2 s3 q1
  rw [← o0] at s0 s1
  rw [← o1] at s2 s3
  rw [e, eqF_cons7 W n0 s0 s1 q0, eqF_cons7 W n1 s2 s3 q1, eqF_nil7]
  obtain ⟨a1, a2⟩ := a
  obtain ⟨b1, b2⟩ := b
  by_cases h1 : a1 = b1
  · subst h1
    by_cases h2 : a2 = b2
    · subst h2; simp
    · have h3 : (a2.toList == b2.toList) = false := by rw [beq_eq_false_iff_ne]; exact fun e => h2 (toList_inj7 e)
      simp [h2, h3]
  · have h3 : (a1.toList == b1.toList) = false := by rw [beq_eq_false_iff_ne]; exact fun e => h1 (toList_inj7 e)
    simp [h1, h3]
theorem yields_loadS7 {P : Program} {ops : Array Oper} {op : Oper} {a : Act} {S : World → Prop} {t : Nat} (g o : Nat) (cs : List Value) (ht : Agg P t cs.length) (hc : ∀ W, S W → ∀ j u, cs[j]? = some u → W.cell? ⟨g, o + j, none⟩ = some u) (hw : Region.wanted op (yielded ops a.tmps) = true) (x : Operand) (ho : op.op = .load t x) (hx : a.eval x = .pointer (some ⟨g, o, none⟩)) :
    YieldsIf P ops S op (.agg cs.toArray) a := Or.inl ⟨hw, fun W hW => by
  have hl := run_loadVar_at (P := P) (w := W) (t := t) ⟨g, o, none⟩ cs ht (fun j u hu => by rw [Addr.add_lit]; exact hc W hW j u hu)
  unfold execOp
  simp only [ho, hx, Instr.loadAt, Instr.sureAddr, Sem.run_bind, Sem.run_pure, Result.andThen_ok, hl]⟩
theorem run_neqEn7 (x y : En) (hx : tEnt.ok x) (hy : tEnt.ok y) (W : World) : (binOp .neq 124 (.agg (tEnt.enc x).toArray) (.agg (tEnt.enc y).toArray)).run Try.prog W = .ok (.bool (!decide (x = y))) W := by
  show (binOp .neq 124 (.agg #[.string x.1, .string x.2]) (.agg #[.string y.1, .string y.2])).run Try.prog W = _
  rw [run_neq_struct, show (10000 : Nat) = 9998 + 1 + 1 from rfl, run_equalEn7 9998 x y W]; rfl
end Go.Proofs.Yteegnbdgfedajaa
/- The texts that mark entries. No condition. -/
namespace Go.Proofs.Yteegnbdgfedajaa
open Go.RowKit
set_option linter.unusedVariables false
set_option linter.unusedSimpArgs false

theorem convS {A : Option Addr} {cap : Nat} {xs : List Int} {w : World} {S : Nat → Prop} (h : RdL tByte w S (.slice A xs.length cap) xs) : (convert 22 9 (.slice A xs.length cap)).run Try.prog w = .ok (.string (strOfNums xs)) w := by
  obtain ⟨A', cap', e, hcap, hlen, hrd, hok⟩ := h
  obtain ⟨rfl, _, rfl⟩ := Value.slice.inj e
  rw [flat_bytes] at hrd
  rcases Nat.eq_zero_or_pos xs.length with h0 | h0
  · obtain rfl : xs = [] := List.eq_nil_of_length_eq_zero h0
    rw [run_convert_bytes_string w _ _ _ A _ cap Try.underlying22 Try.underlying5 Try.underlying9]
    cases A <;> simp [Conv.bytesToString, loadCells] <;> rfl
  · obtain ⟨g, o, rfl, _, hc⟩ := hrd.2 h0
    exact run_convert_bytes_arg w _ _ Try.underlying22 Try.underlying5 g o xs.length cap xs rfl (fun i hi => hc i _ (nums_at _ _ _ hi)) _ Try.underlying9
/-- the digits of n ahead of s -/
def digs (n : Nat) (s : ByteArray) : ByteArray := if n = 0 then s else digs (n / 10) (strOfNums [(48 + (n % 10 : Nat) : Int)] ++ s)
termination_by n
decreasing_by omega
theorem digs_zero (s : ByteArray) : digs 0 s = s := by rw [digs]; rfl
theorem digs_pos {n : Nat} (h : 0 < n) (s : ByteArray) : digs n s = digs (n / 10) (strOfNums [(48 + (n % 10 : Nat) : Int)] ++ s) := by rw [digs, if_neg (by omega)]
/-- the text of a mark -/
@[irreducible] def mtxt (m : Int) : ByteArray := ⟨#[109]⟩ ++ digs m.toNat ⟨#[]⟩
theorem mtxt_eq (m : Int) : mtxt m = ⟨#[109]⟩ ++ digs m.toNat ⟨#[]⟩ := by rw [mtxt]
end Go.Proofs.Yteegnbdgfedajaa
/- A node's bytes: what they tell. No condition. -/
namespace Go.Proofs.Yteegnbdgfedajaa
open Go.RowKit
set_option linter.unusedVariables false
set_option linter.unusedSimpArgs false

theorem strOf_strL7 (s : ByteArray) : strOfNums (strL s) = s := by
  unfold strL
  have h : ∀ l : List UInt8, (l.map fun b => (b.toNat : Int)).map (fun n => UInt8.ofNat n.toNat) = l := by
    intro l
    rw [List.map_map]
    conv => rhs; rw [← List.map_id l]
    refine List.map_congr_left fun b _ => ?_
    simp
  apply ByteArray.ext
  apply Array.toList_inj.1
  exact h s.data.toList
theorem conv_at7 {A : Option Addr} {cap : Nat} {xs : List Int} {w : World} {g o : Nat} (hA : A = some ⟨g, o, none⟩) (hc : ∀ j u, (nums .u8 xs)[j]? = some u → w.cell? ⟨g, o + j, none⟩ = some u) : (convert 22 9 (.slice A xs.length cap)).run Try.prog w = .ok (.string (strOfNums xs)) w := by
  subst hA
  rcases Nat.eq_zero_or_pos xs.length with h0 | h0
  · obtain rfl : xs = [] := List.eq_nil_of_length_eq_zero h0
    rw [run_convert_bytes_string w _ _ _ (some ⟨g, o, none⟩) _ cap Try.underlying22 Try.underlying5 Try.underlying9]
    simp [Conv.bytesToString, loadCells]
    rfl
  · exact run_convert_bytes_arg w _ _ Try.underlying22 Try.underlying5 g o xs.length cap xs rfl (fun i hi => hc i _ (nums_at _ _ _ hi)) _ Try.underlying9
/-- what is read of a node's bytes -/
structure NdRd7 (w : World) (x : Nd) (g o cap : Nat) : Prop where
  l : ∀ W, Ext w W → ∀ j u, (nums .u8 x.l)[j]? = some u → W.cell? ⟨g, o + j, none⟩ = some u
  r : ∀ W, Ext w W → ∀ j u, (nums .u8 x.r)[j]? = some u → W.cell? ⟨g, o + 32 + j, none⟩ = some u
  c : ∀ W, Ext w W → W.cell? ⟨g, o + 64, none⟩ = some (.int .u8 x.n.size)
  n : ∀ W, Ext w W → ∀ q, (convert 22 9 (.slice (some ⟨g, o + 65, none⟩) x.n.size q)).run Try.prog W = .ok (.string x.n) W
  v : ∀ W, Ext w W → ∀ q, (convert 22 9 (.slice (some ⟨g, o + (65 + x.n.size), none⟩) x.v.size q)).run Try.prog W = .ok (.string x.v) W
theorem ndRd_of7 {w : World} {S : Nat → Prop} {x : Nd} (hok : x.ok) (hs255 : x.n.size ≤ 255) {A : Option Addr} {cap : Nat} (h : RdL tByte w S (.slice A (nodeL x).length cap) (nodeL x)) : ∃ g o, A = some ⟨g, o, none⟩ ∧ NdRd7 w x g o cap := by
  have hl := nodeL_length hok
  obtain ⟨A', c', e, h1, h2, h3, h4⟩ := h
  injection e with e1 e2 e3
  subst e1 e3
  obtain ⟨g, o, rfl, hs, hc⟩ := h3.2 (by omega)
  rw [flat_bytes, nodeL_eq, show (x.n.size : Int) % 256 = x.n.size by omega] at hc
  have hll : (nums .u8 x.l).length = 32 := by rw [nums_length, hok.1.1]
  have hrl : (nums .u8 x.r).length = 32 := by rw [nums_length, hok.2.1.1]
  have hnl : (nums .u8 (strL x.n)).length = x.n.size := by rw [nums_length, strL_length]
  have hvl : (nums .u8 (strL x.v)).length = x.v.size := by rw [nums_length, strL_length]
  have h1l : (nums .u8 [(x.n.size : Int)]).length = 1 := rfl
  simp only [nums_append] at hc
  refine ⟨g, o, rfl, ⟨fun W hW j u hu => hW.cell (hc j u ?_), fun W hW j u hu => ?_, fun W hW => hW.cell (hc 64 _ ?_), fun W hW q => ?_, fun W hW q => ?_⟩⟩
  · have hj := (List.getElem?_eq_some_iff.1 hu).1
    rw [List.getElem?_append_left (by simp only [List.length_append, hll]; omega), List.getElem?_append_left (by simp only [List.length_append, hll]; omega), List.getElem?_append_left (by simp only [List.length_append, hll]; omega), List.getElem?_append_left hj]
    exact hu
  · have hj := (List.getElem?_eq_some_iff.1 hu).1
    rw [Nat.add_assoc]
    refine hW.cell (hc (32 + j) u ?_)
    rw [List.getElem?_append_left (by simp only [List.length_append, hll, hrl]; omega), List.getElem?_append_left (by simp only [List.length_append, hll, hrl]; omega), List.getElem?_append_left (by simp only [List.length_append, hll, hrl]; omega), List.getElem?_append_right (by omega), hll, Nat.add_sub_cancel_left]
    exact hu
  · rw [List.getElem?_append_left (by simp only [List.length_append, hll, hrl, h1l, hnl]; omega), List.getElem?_append_left (by simp only [List.length_append, hll, hrl, h1l]; omega), List.getElem?_append_right (by simp only [List.length_append, hll, hrl]; omega)]
    simp only [List.length_append, hll, hrl]
    rfl
  · have := conv_at7 (cap := q) (xs := strL x.n) (w := W) (g := g) (o := o + 65) rfl (fun j u hu => by
      have hj := (List.getElem?_eq_some_iff.1 hu).1
      rw [Nat.add_assoc]
      refine hW.cell (hc (65 + j) u ?_)
      rw [List.getElem?_append_left (by simp only [List.length_append, hll, hrl, h1l, hnl]; rw [hnl] at hj; omega), List.getElem?_append_right (by simp only [List.length_append, hll, hrl, h1l]; omega)]
      have e : 65 + j - (nums .u8 x.l ++ nums .u8 x.r ++ nums .u8 [(x.n.size : Int)]).length = j := by simp only [List.length_append, hll, hrl, h1l]; omega
      rw [e]; exact hu)
    rw [strL_length, strOf_strL7] at this
    exact this
  · have := conv_at7 (cap := q) (xs := strL x.v) (w := W) (g := g) (o := o + (65 + x.n.size)) rfl (fun j u hu => by
      have hj := (List.getElem?_eq_some_iff.1 hu).1
      rw [Nat.add_assoc]
      refine hW.cell (hc (65 + x.n.size + j) u ?_)
      rw [List.getElem?_append_right (by simp only [List.length_append, hll, hrl, hnl, h1l]; omega)]
      have e : 65 + x.n.size + j - (nums .u8 x.l ++ nums .u8 x.r ++ nums .u8 [(x.n.size : Int)] ++ nums .u8 (strL x.n)).length = j := by simp only [List.length_append, hll, hrl, hnl, h1l]; omega
      rw [e]; exact hu)
    rw [strL_length, strOf_strL7] at this
    exact this
theorem results_bt7 {P : Program} {w : World} {fn : Func} {c d : Tmp} {t g e n : Nat} {cs : Array Value} (hr : fn.results = #[.cell c t, .tmp d]) (tmps : Array Value) (hp : tmps.getD c undef = .pointer (some ⟨g, 0, none⟩)) (ht : Agg P t n) (hn : cs.size = n) (hb : Blk w g e cs) {v : Value} (hv : tmps.getD d undef = v) :
    (results fn tmps).run P w = .ok (.tuple #[.agg cs, v]) w := by
  have hl := run_loadB (P := P) hb ht hn
  have hp' : tmps[c]?.getD undef = .pointer (some ⟨g, 0, none⟩) := by simpa using hp
  have hv' : tmps[d]?.getD undef = v := by simpa using hv
  simp [results, hr, hp', hv', asAddr, hl]
/-- the node that some bytes tell -/
def ndN (d : List Int) : Nat := (gI d 64).toNat
def ndX (d : List Int) : Nd := ⟨blockL d 0, blockL d 1, strOfNums ((d.drop 65).take (ndN d)), strOfNums (d.drop (65 + ndN d))⟩
theorem strOf_size7 (xs : List Int) : (strOfNums xs).size = xs.length := by simp [strOfNums, ByteArray.size]
theorem strL_strOf7 {xs : List Int} (h : B8 xs) : strL (strOfNums xs) = xs := by
  unfold strL strOfNums
  have e : ∀ l : List Int, B8 l → (l.map fun n => UInt8.ofNat n.toNat).map (fun b => (b.toNat : Int)) = l := by
    intro l
    induction l with
    | nil => intro _; rfl
    | cons x r ih =>
      intro hb
      rw [List.map_cons, List.map_cons, ih (fun y hy => hb y (by simp [hy]))]
      have := hb x (by simp)
      congr 1
      rw [UInt8.toNat_ofNat']
      omega
  simpa using e xs h
theorem ndN_le {d : List Int} (h : B8 d) : ndN d ≤ 255 := by have := h.get 64; unfold ndN; omega
theorem ndX_n {d : List Int} (hl : 65 + ndN d ≤ d.length) : (ndX d).n.size = ndN d := by
  show (strOfNums ((d.drop 65).take (ndN d))).size = ndN d
  rw [strOf_size7, List.length_take, List.length_drop]
  omega
theorem ndX_v {d : List Int} : (ndX d).v.size = d.length - (65 + ndN d) := by
  show (strOfNums (d.drop (65 + ndN d))).size = _
  rw [strOf_size7, List.length_drop]
theorem ndX_ok {d : List Int} (h : B8 d) (hl : 65 + ndN d ≤ d.length) (hd : d.length ≤ 1048576) : (ndX d).ok := by
  refine ⟨blockL_ok d 0 h (by omega), blockL_ok d 1 h (by omega), ?_, ?_⟩
  · rw [ndX_n hl]; omega
  · rw [ndX_v]; omega
theorem nodeL_ndX {d : List Int} (h : B8 d) (hl : 65 + ndN d ≤ d.length) : nodeL (ndX d) = d := by
  rw [nodeL_eq, ndX_n hl]
  show blockL d 0 ++ blockL d 1 ++ [(ndN d : Int) % 256] ++ strL (strOfNums ((d.drop 65).take (ndN d))) ++ strL (strOfNums (d.drop (65 + ndN d))) = d
  rw [strL_strOf7 (fun x hx => h x (List.mem_of_mem_drop (List.mem_of_mem_take hx))), strL_strOf7 (fun x hx => h x (List.mem_of_mem_drop hx)), blockL_eq, blockL_eq]
  have h64 := h.get 64
  have e0 : ((ndN d : Nat) : Int) % 256 = gI d 64 := by unfold ndN; omega
  have e1 := List.take_append_drop 32 d
  have e2 := List.take_append_drop 32 (d.drop 32)
  have e3 : d.drop 64 = gI d 64 :: d.drop 65 := by rw [gI_lt (by omega)]; exact List.drop_eq_getElem_cons (by omega)
  have e4 := List.take_append_drop (ndN d) (d.drop 65)
  rw [List.drop_drop] at e2 e4
  rw [e0]
  conv => rhs; rw [← e1, ← e2, e3, ← e4]
  simp
@[irreducible] def ndB (d : List Int) : Bool := decide (66 ≤ d.length ∧ 65 + ndN d ≤ d.length) && entB (ndX d).n (ndX d).v
theorem ndB_eq (d : List Int) : ndB d = (decide (66 ≤ d.length ∧ 65 + ndN d ≤ d.length) && entB (ndX d).n (ndX d).v) := by rw [ndB]
theorem ndB_off {d : List Int} (h : d.length < 66 ∨ d.length < 65 + ndN d) : ndB d = false := by
  rw [ndB_eq, decide_eq_false (by omega)]; rfl
theorem ndB_main {d : List Int} (h1 : 66 ≤ d.length) (h2 : 65 + ndN d ≤ d.length) : ndB d = entB (ndX d).n (ndX d).v := by
  rw [ndB_eq, decide_eq_true ⟨h1, h2⟩]; rfl
theorem ndB_long {d : List Int} (h : 153 < d.length) : ndB d = false := by
  by_cases h2 : 65 + ndN d ≤ d.length
  · rw [ndB_main (by omega) h2]
    cases hb : entB (ndX d).n (ndX d).v with
    | false => rfl
    | true =>
      have := entB_le hb
      rw [ndX_n h2, ndX_v] at this
      omega
  · exact ndB_off (by omega)
/-- 65 bytes are never a node -/
theorem ent65 {d : List Int} (h : d.length = 65) (h2 : 65 + ndN d ≤ d.length) : entB (ndX d).n (ndX d).v = false := by
  cases hb : entB (ndX d).n (ndX d).v with
  | false => rfl
  | true =>
    have := entB_le hb
    rw [ndX_n h2] at this
    omega
/-- a node with nothing in it -/
def zN7 : Nd := ⟨List.replicate 32 0, List.replicate 32 0, ⟨#[]⟩, ⟨#[]⟩⟩
theorem zN7_ok : zN7.ok := ⟨zero_ok, zero_ok, by decide, by decide⟩
theorem aggNode7 : Agg Try.prog 129 66 := Agg.mkS (fs := _) Try.underlying129 (by kernel_rfl)
theorem built_zN7 : Try.prog.built 129 [] = some zN7.enc.toArray := by kernel_rfl
end Go.Proofs.Yteegnbdgfedajaa
/- A node read from any bytes: the program. No condition. -/
namespace Go.Proofs.Yteegnbdgfedajaa
open Go.RowKit
set_option linter.unusedVariables false
set_option linter.unusedSimpArgs false

theorem zN7_st : St 66 zN7.enc.toArray := Nd.st zN7_ok
set_option maxHeartbeats 1000000 in
set_option maxRecDepth 100000 in
theorem rnShort (v : Value) (d : List Int) (w : World) (S : Nat → Prop) (h : RdL tByte w S v d) (h0 : d.length < 65) :
    Calls Try.prog 99 #[v] w fun e w' => e = .returned (.tuple #[.agg zN7.enc.toArray, .int .i64 5]) ∧ Ext w w' := by
  obtain ⟨A, cap, rfl, hcap, hlen, hrd, hok⟩ := h
  have HZS := Lib.hid zN7_st
  have hzs := HZS.out.size
  clear hrd hok
  have i1 : (d.length : Int) < 65 := by omega
  go_enter Try.func99, Try.ntmps99
  have BZ := Lib.hid (Blk.new w 129 Try.zeroCells129)
  go_wp2_with (first | (refine wpl_buildN rfl rfl built_zN7 ?_) | (refine wpl_storeB BZ.out aggNode7 HZS.out rfl rfl _ _ rfl rfl rfl rfl ?_))
  refine bodyPost_ret (results_bt7 rfl _ rfl aggNode7 hzs (BZ.out.setRow _) rfl) rfl ?_
  exact ⟨rfl, (ext_alloc _ _).setRow (Nat.le_refl _) _⟩
set_option maxHeartbeats 1000000 in
set_option maxRecDepth 100000 in
theorem rnCut (v : Value) (d : List Int) (w : World) (S : Nat → Prop) (h : RdL tByte w S v d) (n : Nat) (h1 : gI d 64 = (n : Int)) (h3 : n ≤ 255) (h0 : 65 ≤ d.length) (h4 : d.length < 65 + n) :
    Calls Try.prog 99 #[v] w fun e w' => e = .returned (.tuple #[.agg zN7.enc.toArray, .int .i64 5]) ∧ Ext w w' := by
  obtain ⟨A, cap, rfl, hcap, hlen, hrd, hok⟩ := h
  have Hrd := Lib.hid (show Rd w S 1 A d.length (nums .u8 d) by rw [← flat_bytes]; exact hrd)
  have HZS := Lib.hid zN7_st
  have hzs := HZS.out.size
  clear hrd hok
  obtain ⟨g, o, rfl, hs, hc0⟩ := (Hrd.out).byte 64 (by omega)
  have c64 : ∀ z, (w.alloc z).cell? ⟨g, o + 64, none⟩ = some (.int .u8 n) := fun z => by rw [← h1]; exact (ext_alloc w z).cell hc0
  clear hc0 h1
  have i1 : ¬ (d.length : Int) < 65 := by omega
  have i2 : (64 : Int) < (d.length : Int) := by omega
  have i3 : (d.length : Int) < 65 + (n : Int) := by omega
  go_enter Try.func99, Try.ntmps99
  have BZ := Lib.hid (Blk.new w 129 Try.zeroCells129)
  go_wp2_with (first | (refine wpl_buildN rfl rfl built_zN7 ?_) | (refine wpl_storeB BZ.out aggNode7 HZS.out rfl rfl _ _ rfl rfl rfl rfl ?_))
  refine bodyPost_ret (results_bt7 rfl _ rfl aggNode7 hzs (BZ.out.setRow _) rfl) rfl ?_
  exact ⟨rfl, (ext_alloc _ _).setRow (Nat.le_refl _) _⟩
set_option maxHeartbeats 1000000 in
set_option maxRecDepth 100000 in
theorem readNodeG (x : Nd) (hok : x.ok) (hs255 : x.n.size ≤ 255) (hsv : x.v.size ≤ 1048576) (b : Bool) (he : entB x.n x.v = b) (v : Value) (w : World) (S : Nat → Prop) (h : RdL tByte w S v (nodeL x)) :
    Calls Try.prog 99 #[v] w fun e w' => e = .returned (.tuple #[.agg (if b then x else zN7).enc.toArray, .int .i64 (if b then 0 else 5)]) ∧ Ext w w' := by
  have hl := nodeL_length hok
  have hn := hs255
  have HZS := Lib.hid zN7_st
  have hzs := HZS.out.size
  have hvE := fun W => validEntry_any x.n x.v hok.2.2.1 hok.2.2.2 W
  simp only [he] at hvE
  obtain ⟨A, cap, rfl, hcap, hlen, _⟩ := id h
  obtain ⟨g, o, rfl, hR⟩ := ndRd_of7 hok hs255 h
  have HR := Lib.hid hR
  have HST := Lib.hid (Nd.st hok)
  have HOK := Lib.hid hok
  have hsz := HST.out.size
  have c64 : ∀ z, (w.alloc z).cell? ⟨g, o + 64, none⟩ = some (.int .u8 x.n.size) := fun z => HR.out.c _ (ext_alloc _ _)
  rw [hl] at hcap ⊢
  obtain ⟨N, hN⟩ : ∃ N, x.n.size = N := ⟨_, rfl⟩
  obtain ⟨V, hV⟩ : ∃ V, x.v.size = V := ⟨_, rfl⟩
  rw [hN] at hn c64 hcap ⊢
  clear hs255
  rw [hV] at hsv hcap ⊢
  have HN := Lib.hid hN
  have HV := Lib.hid hV
  clear hN hV h hR hl hlen hok he
  have hn0 : (0 : Int) ≤ (N : Int) := by omega
  have hnb : (N : Int) ≤ 255 := by omega
  have i1 : ¬ (((65 + N + V : Nat)) : Int) < 65 := by omega
  have i2 : (64 : Int) < ((65 + N + V : Nat) : Int) := by omega
  have i3 : ¬ (((65 + N + V : Nat)) : Int) < 65 + (N : Int) := by omega
  have j1 : (32 : Int) ≤ ((65 + N + V : Nat) : Int) := by omega
  have j2 : ((65 + N + V : Nat) : Int) ≤ (cap : Int) := by omega
  have j3 : (65 : Int) ≤ 65 + (N : Int) := by omega
  have j4 : 65 + (N : Int) ≤ (cap : Int) := by omega
  have j5 : 65 + (N : Int) ≤ ((65 + N + V : Nat) : Int) := by omega
  have j1p : (32 : Int) ≤ 65 + (N : Int) + (V : Int) := by omega
  have j6 : (0 : Int) ≤ 65 + (N : Int) := by omega
  have j5p : 65 + (N : Int) ≤ 65 + (N : Int) + (V : Int) := by omega
  have k1 : ¬ cap = 32 := by omega
  go_enter Try.func99, Try.ntmps99
  go_wp2_with fail
  generalize hwz : (w.alloc (Obj.cells Try.zeroCells129 129)) = wz
  have HXZ := Lib.hid (show Ext w wz by rw [← hwz]; exact ext_alloc _ _)
  have BZ := Lib.hid (show Blk wz w.heap.size 129 Try.zeroCells129 by rw [← hwz]; exact Blk.new _ _ _)
  clear hwz c64
  have HL := Lib.hid (fun W (hW : Ext wz W) => HR.out.l W (HXZ.out.trans hW))
  have HRR := Lib.hid (fun W (hW : Ext wz W) => HR.out.r W (HXZ.out.trans hW))
  have et : (65 + (N : Int)).toNat = 65 + N := by omega
  obtain ⟨Y, hY, hcn⟩ : ∃ Y, (if cap = 65 then (some ⟨g, o, none⟩ : Option Addr) else some ⟨g, o + 65, none⟩) = Y ∧ ∀ W, Ext wz W → ∀ q, (convert 22 9 (.slice Y ((65 + (N : Int)).toNat - 65) q)).run Try.prog W = .ok (.string x.n) W := by
    by_cases kc : cap = 65
    · rw [if_pos kc]
      refine ⟨_, rfl, fun W hW q => ?_⟩
      have e0 : N = 0 := by omega
      have e1 : x.n = strOfNums (strL x.n) := (strOf_strL7 x.n).symm
      have e2 : strL x.n = [] := List.eq_nil_of_length_eq_zero (by rw [strL_length, HN.out, e0])
      rw [et, Nat.add_sub_cancel_left, e1, e2, e0]
      exact conv_at7 (xs := []) (g := g) (o := o) rfl (fun j u hu => by cases hu)
    · rw [if_neg kc]
      refine ⟨_, rfl, fun W hW q => ?_⟩
      rw [et, Nat.add_sub_cancel_left, ← HN.out]
      exact HR.out.n W (HXZ.out.trans hW) q
  have hcv0 : ∀ W, Ext wz W → ∀ q, (convert 22 9 (.slice (some ⟨g, o + (65 + (N : Int)).toNat, none⟩) (65 + N + V - (65 + (N : Int)).toNat) q)).run Try.prog W = .ok (.string x.v) W := fun W hW q => by rw [et, Nat.add_sub_cancel_left, ← HN.out, ← HV.out]; exact HR.out.v W (HXZ.out.trans hW) q
  have hcv1 : V = 0 → ∀ W, ∀ q, (convert 22 9 (.slice (some ⟨g, o, none⟩) (65 + N + V - (65 + (N : Int)).toNat) q)).run Try.prog W = .ok (.string x.v) W := fun h0 W q => by
    have e1 : x.v = strOfNums (strL x.v) := (strOf_strL7 x.v).symm
    have e2 : strL x.v = [] := List.eq_nil_of_length_eq_zero (by rw [strL_length, HV.out, h0])
    rw [et, Nat.add_sub_cancel_left, e1, e2, h0]
    exact conv_at7 (xs := []) (g := g) (o := o) rfl (fun j u hu => by cases hu)
  have ha1 : ∀ W, (Instr.arrayAt 40 (.slice (some ⟨g, o, none⟩) (65 + N + V) cap)).run Try.prog W = .ok (.pointer (some ⟨g, o, none⟩)) W := fun W => by
    have W7 : ¬ 65 + N + V < 32 := by omega
    simp [Instr.arrayAt, run_underlying (show Try.prog.underlying 40 = some (.array 32 5) by kernel_rfl), W7]
  have ha2 : ∀ W, (Instr.arrayAt 40 (.slice (some ⟨g, o + 32, none⟩) (65 + N + V - 32) (cap - 32))).run Try.prog W = .ok (.pointer (some ⟨g, o + 32, none⟩)) W := fun W => by
    have W7 : ¬ 65 + N + V - 32 < 32 := by omega
    simp [Instr.arrayAt, run_underlying (show Try.prog.underlying 40 = some (.array 32 5) by kernel_rfl), W7]
  obtain ⟨Z, hZ, hcv⟩ : ∃ Z, (if cap = (65 + (N : Int)).toNat then (some ⟨g, o, none⟩ : Option Addr) else some ⟨g, o + (65 + (N : Int)).toNat, none⟩) = Z ∧ ∀ W, Ext wz W → ∀ q, (convert 22 9 (.slice Z (65 + N + V - (65 + (N : Int)).toNat) q)).run Try.prog W = .ok (.string x.v) W := by
    by_cases kc : cap = (65 + (N : Int)).toNat
    · rw [if_pos kc]; exact ⟨_, rfl, fun W _ q => hcv1 (by omega) W q⟩
    · rw [if_neg kc]; exact ⟨_, rfl, hcv0⟩
  clear et hcv0 hcv1
  refine wp_region_held_drew (S := fun W => Ext wz W) (by kernel_rfl) (Ext.refl _).drew (fun hHeld => ?_)
  refine wpAnyH_take (i := 0) (oi := ?oiz1) (v := ?vz1) ?hiz1 (by kernel_rfl) (by kernel_rfl) (by kernel_rfl) ?hQz1 ?hyz1 (by assumption) ?restz1
  case hiz1 => simp only [List.getElem?_toArray, List.getElem?_cons_zero, List.getElem?_cons_succ]; rfl
  case hQz1 => exact fun _ _ _ h => h
  case hyz1 => exact Or.inl ⟨by rfl, by intro w hSw; (try dsimp only at hSw); go_simp; with_reducible rfl⟩
  try simp only [Act.put, List.setIfInBounds_toArray, List.set_cons_zero, List.set_cons_succ]
  refine wpAnyH_take (i := 1) (oi := ?oiz2) (v := ?vz2) ?hiz2 (by kernel_rfl) (by kernel_rfl) (by kernel_rfl) ?hQz2 ?hyz2 (by assumption) ?restz2
  case hiz2 => simp only [List.getElem?_toArray, List.getElem?_cons_zero, List.getElem?_cons_succ]; rfl
  case hQz2 => exact fun _ _ _ h => h
  case hyz2 => exact Or.inl ⟨by rfl, by intro w hSw; (try dsimp only at hSw); go_simp; with_reducible rfl⟩
  try simp only [Act.put, List.setIfInBounds_toArray, List.set_cons_zero, List.set_cons_succ]
  refine wpAnyH_take (i := 2) (oi := ?oiz3) (v := (.agg (nums .u8 x.l).toArray)) ?hiz3 (by kernel_rfl) (by kernel_rfl) (by kernel_rfl) ?hQz3 ?hyz3 (by assumption) ?restz3
  case hiz3 => simp only [List.getElem?_toArray, List.getElem?_cons_zero, List.getElem?_cons_succ]; rfl
  case hQz3 => exact fun _ _ _ h => h
  case hyz3 => refine yields_loadS7 g o (nums .u8 x.l) (by rw [nums_length, HOK.out.1.1]; exact aggKey) (fun W hW => HL.out W hW) ?_ _ rfl rfl; rfl
  try simp only [Act.put, List.setIfInBounds_toArray, List.set_cons_zero, List.set_cons_succ]
  refine wpAnyH_take (i := 3) (oi := ?oiz4) (v := ?vz4) ?hiz4 (by kernel_rfl) (by kernel_rfl) (by kernel_rfl) ?hQz4 ?hyz4 (by assumption) ?restz4
  case hiz4 => simp only [List.getElem?_toArray, List.getElem?_cons_zero, List.getElem?_cons_succ]; rfl
  case hQz4 => exact fun _ _ _ h => h
  case hyz4 => exact Or.inl ⟨by rfl, by intro w hSw; (try dsimp only at hSw); go_simp; with_reducible rfl⟩
  try simp only [Act.put, List.setIfInBounds_toArray, List.set_cons_zero, List.set_cons_succ]
  refine wpAnyH_take (i := 4) (oi := ?oiz5) (v := ?vz5) ?hiz5 (by kernel_rfl) (by kernel_rfl) (by kernel_rfl) ?hQz5 ?hyz5 (by assumption) ?restz5
  case hiz5 => simp only [List.getElem?_toArray, List.getElem?_cons_zero, List.getElem?_cons_succ]; rfl
  case hQz5 => exact fun _ _ _ h => h
  case hyz5 => exact Or.inl ⟨by rfl, by intro w hSw; (try dsimp only at hSw); go_simp; with_reducible rfl⟩
  try simp only [Act.put, List.setIfInBounds_toArray, List.set_cons_zero, List.set_cons_succ]
  refine wpAnyH_take (i := 5) (oi := ?oiz6) (v := ?vz6) ?hiz6 (by kernel_rfl) (by kernel_rfl) (by kernel_rfl) ?hQz6 ?hyz6 (by assumption) ?restz6
  case hiz6 => simp only [List.getElem?_toArray, List.getElem?_cons_zero, List.getElem?_cons_succ]; rfl
  case hQz6 => exact fun _ _ _ h => h
  case hyz6 => exact Or.inl ⟨by rfl, by intro w hSw; (try dsimp only at hSw); go_simp; with_reducible rfl⟩
  try simp only [Act.put, List.setIfInBounds_toArray, List.set_cons_zero, List.set_cons_succ]
  refine wpAnyH_take (i := 6) (oi := ?oiz7) (v := (.agg (nums .u8 x.r).toArray)) ?hiz7 (by kernel_rfl) (by kernel_rfl) (by kernel_rfl) ?hQz7 ?hyz7 (by assumption) ?restz7
  case hiz7 => simp only [List.getElem?_toArray, List.getElem?_cons_zero, List.getElem?_cons_succ]; rfl
  case hQz7 => exact fun _ _ _ h => h
  case hyz7 => refine yields_loadS7 g (o + 32) (nums .u8 x.r) (by rw [nums_length, HOK.out.2.1.1]; exact aggKey) (fun W hW => HRR.out W hW) ?_ _ rfl rfl; rfl
  try simp only [Act.put, List.setIfInBounds_toArray, List.set_cons_zero, List.set_cons_succ]
  refine wpAnyH_take (i := 7) (oi := ?oiz8) (v := ?vz8) ?hiz8 (by kernel_rfl) (by kernel_rfl) (by kernel_rfl) ?hQz8 ?hyz8 (by assumption) ?restz8
  case hiz8 => simp only [List.getElem?_toArray, List.getElem?_cons_zero, List.getElem?_cons_succ]; rfl
  case hQz8 => exact fun _ _ _ h => h
  case hyz8 => exact Or.inl ⟨by rfl, by intro w hSw; (try dsimp only at hSw); go_simp; with_reducible rfl⟩
  try simp only [Act.put, List.setIfInBounds_toArray, List.set_cons_zero, List.set_cons_succ]
  refine wpAnyH_take (i := 8) (oi := ?oiz9) (v := ?vz9) ?hiz9 (by kernel_rfl) (by kernel_rfl) (by kernel_rfl) ?hQz9 ?hyz9 (by assumption) ?restz9
  case hiz9 => simp only [List.getElem?_toArray, List.getElem?_cons_zero, List.getElem?_cons_succ]; rfl
  case hQz9 => exact fun _ _ _ h => h
  case hyz9 => exact Or.inl ⟨by rfl, by intro w hSw; (try dsimp only at hSw); go_simp; with_reducible rfl⟩
  try simp only [Act.put, List.setIfInBounds_toArray, List.set_cons_zero, List.set_cons_succ]
  refine wpAnyH_take (i := 9) (oi := ?oiz10) (v := ?vz10) ?hiz10 (by kernel_rfl) (by kernel_rfl) (by kernel_rfl) ?hQz10 ?hyz10 (by assumption) ?restz10
  case hiz10 => simp only [List.getElem?_toArray, List.getElem?_cons_zero, List.getElem?_cons_succ]; rfl
  case hQz10 => exact fun _ _ _ h => h
  case hyz10 => exact Or.inl ⟨by rfl, by intro w hSw; (try dsimp only at hSw); go_simp; with_reducible rfl⟩
  try simp only [Act.put, List.setIfInBounds_toArray, List.set_cons_zero, List.set_cons_succ]
  refine wpAnyH_take (i := 10) (oi := ?oiz11) (v := (.string x.n)) ?hiz11 (by kernel_rfl) (by kernel_rfl) (by kernel_rfl) ?hQz11 ?hyz11 (by assumption) ?restz11
  case hiz11 => simp only [List.getElem?_toArray, List.getElem?_cons_zero, List.getElem?_cons_succ]; rfl
  case hQz11 => exact fun _ _ _ h => h
  case hyz11 => exact Or.inl ⟨by rfl, by intro w hSw; (try dsimp only at hSw); have hcq := hcn w hSw; go_simp; (try with_reducible rfl)⟩
  try simp only [Act.put, List.setIfInBounds_toArray, List.set_cons_zero, List.set_cons_succ]
  refine wpAnyH_take (i := 11) (oi := ?oiz12) (v := ?vz12) ?hiz12 (by kernel_rfl) (by kernel_rfl) (by kernel_rfl) ?hQz12 ?hyz12 (by assumption) ?restz12
  case hiz12 => simp only [List.getElem?_toArray, List.getElem?_cons_zero, List.getElem?_cons_succ]; rfl
  case hQz12 => exact fun _ _ _ h => h
  case hyz12 => exact Or.inl ⟨by rfl, by intro w hSw; (try dsimp only at hSw); go_simp; with_reducible rfl⟩
  try simp only [Act.put, List.setIfInBounds_toArray, List.set_cons_zero, List.set_cons_succ]
  refine wpAnyH_take (i := 12) (oi := ?oiz13) (v := ?vz13) ?hiz13 (by kernel_rfl) (by kernel_rfl) (by kernel_rfl) ?hQz13 ?hyz13 (by assumption) ?restz13
  case hiz13 => simp only [List.getElem?_toArray, List.getElem?_cons_zero, List.getElem?_cons_succ]; rfl
  case hQz13 => exact fun _ _ _ h => h
  case hyz13 => exact Or.inl ⟨by rfl, by intro w hSw; (try dsimp only at hSw); go_simp; with_reducible rfl⟩
  try simp only [Act.put, List.setIfInBounds_toArray, List.set_cons_zero, List.set_cons_succ]
  refine wpAnyH_take (i := 13) (oi := ?oiz14) (v := ?vz14) ?hiz14 (by kernel_rfl) (by kernel_rfl) (by kernel_rfl) ?hQz14 ?hyz14 (by assumption) ?restz14
  case hiz14 => simp only [List.getElem?_toArray, List.getElem?_cons_zero, List.getElem?_cons_succ]; rfl
  case hQz14 => exact fun _ _ _ h => h
  case hyz14 => exact Or.inl ⟨by rfl, by intro w hSw; (try dsimp only at hSw); go_simp; with_reducible rfl⟩
  try simp only [Act.put, List.setIfInBounds_toArray, List.set_cons_zero, List.set_cons_succ]
  refine wpAnyH_take (i := 14) (oi := ?oiz15) (v := (.string x.v)) ?hiz15 (by kernel_rfl) (by kernel_rfl) (by kernel_rfl) ?hQz15 ?hyz15 (by assumption) ?restz15
  case hiz15 => simp only [List.getElem?_toArray, List.getElem?_cons_zero, List.getElem?_cons_succ]; rfl
  case hQz15 => exact fun _ _ _ h => h
  case hyz15 => exact Or.inl ⟨by rfl, by intro w hSw; (try dsimp only at hSw); have hcq := hcv w hSw; go_simp; (try with_reducible rfl)⟩
  try simp only [Act.put, List.setIfInBounds_toArray, List.set_cons_zero, List.set_cons_succ]
  refine wpAnyH_take (i := 15) (oi := ?oiz16) (v := ?vz16) ?hiz16 (by kernel_rfl) (by kernel_rfl) (by kernel_rfl) ?hQz16 ?hyz16 (by assumption) ?restz16
  case hiz16 => simp only [List.getElem?_toArray, List.getElem?_cons_zero, List.getElem?_cons_succ]; rfl
  case hQz16 => exact fun _ _ _ h => h
  case hyz16 => exact Or.inl ⟨by rfl, by intro w hSw; (try dsimp only at hSw); go_simp; with_reducible rfl⟩
  try simp only [Act.put, List.setIfInBounds_toArray, List.set_cons_zero, List.set_cons_succ]
  refine wpAnyH_take (i := 16) (oi := ?oiz17) (v := (.agg x.enc.toArray)) ?hiz17 (by kernel_rfl) (by kernel_rfl) (by kernel_rfl) ?hQz17 ?hyz17 (by assumption) ?restz17
  case hiz17 => simp only [List.getElem?_toArray, List.getElem?_cons_zero, List.getElem?_cons_succ]; rfl
  case hQz17 => exact fun _ _ _ h => h
  case hyz17 => refine yields_build ?_ rfl (built_node x HOK.out); rfl
  try simp only [Act.put, List.setIfInBounds_toArray, List.set_cons_zero, List.set_cons_succ]
  generalize hw9 : wz.drew = w9 at hHeld ⊢
  have HX9 := Lib.hid (show Ext wz w9 by rw [← hw9]; exact (Ext.refl _).drew)
  clear hw9
  refine wpAnyH_ready (rs := [17]) (by kernel_rfl) (by simp) (AllReadyH.cons (o := ?oy1817) ?hy1817 (fun K hK => ?sy1817) AllReadyH.nil)
  case hy1817 => simp only [List.getElem?_toArray, List.getElem?_cons_zero, List.getElem?_cons_succ]; rfl
  refine stp_alloc zNd.toArray (by kernel_rfl) rfl rfl ?_
  have hH2 := hHeld.alloc (.cells zNd.toArray 129)
  refine hK.out _ _ hH2 (fun _ => ?_)
  clear hK K hH2
  try simp only [Act.put, List.setIfInBounds_toArray, List.set_cons_zero, List.set_cons_succ]
  refine wpAnyH_ready (rs := [18]) (by kernel_rfl) (by simp) (AllReadyH.cons (o := ?oy1918) ?hy1918 (fun K hK => ?sy1918) AllReadyH.nil)
  case hy1918 => simp only [List.getElem?_toArray, List.getElem?_cons_zero, List.getElem?_cons_succ]; rfl
  refine stp_storeP (Blk.new w9 129 _) aggNode7 HST.out (by simp [zNd]) rfl _ _ rfl rfl rfl rfl ?_
  have hH3 := hHeld.alloc (.cells x.enc.toArray 129)
  rw [splice_all _ _ (by rw [Array.length_toList, HST.out.size]; rfl), setRow_alloc, Array.toArray_toList]
  refine hK.out _ _ hH3 (fun _ => ?_)
  clear hK K hH3 hHeld
  try simp only [Act.put, List.setIfInBounds_toArray, List.set_cons_zero, List.set_cons_succ]
  refine wpAnyH_done (by kernel_rfl) ?_ _
  have B5 := Lib.hid (Blk.new w9 129 x.enc.toArray)
  have XW := Lib.hid ((HXZ.out.trans HX9.out).alloc (.cells x.enc.toArray 129))
  have B2 := Lib.hid ((BZ.out.ext HX9.out).alloc (.cells x.enc.toArray 129))
  generalize w9.alloc (.cells x.enc.toArray 129) = w10 at B5 B2 XW ⊢
  clear HL HRR hcn hcv ha1 ha2 hZ hY
  go_wp2_with (refine wpl_loadP (off := 64) (sub := #[.string x.n, .string x.v]) B5.out aggEntryI rfl (Nd.ent HOK.out) rfl _ rfl rfl ?_)
  refine (hvE _).mono ?_
  rintro e w11 ⟨rfl, hx⟩
  replace B5 := Lib.hid (B5.out.ext hx)
  replace B2 := Lib.hid (B2.out.ext hx)
  replace XW := Lib.hid (XW.out.trans hx)
  clear hx
  cases b with
  | true =>
    go_wp2_with (first | (refine wpl_loadB B5.out aggNode7 hsz rfl _ rfl rfl ?_) | (refine wpl_storeB B2.out aggNode7 HST.out rfl rfl _ _ rfl rfl rfl rfl ?_))
    refine bodyPost_ret (results_bt7 rfl _ rfl aggNode7 hsz (B2.out.setRow _) rfl) rfl ?_
    exact ⟨rfl, XW.out.setRow (Nat.le_refl _) _⟩
  | false =>
    go_wp2_with (first | (refine wpl_buildN rfl rfl built_zN7 ?_) | (refine wpl_storeB B2.out aggNode7 HZS.out rfl rfl _ _ rfl rfl rfl rfl ?_))
    refine bodyPost_ret (results_bt7 rfl _ rfl aggNode7 hzs (B2.out.setRow _) rfl) rfl ?_
    exact ⟨rfl, XW.out.setRow (Nat.le_refl _) _⟩
/-- whatever the bytes are -/
theorem readNode_all (v : Value) (d : List Int) (w : World) (S : Nat → Prop) (h : RdL tByte w S v d) (hdl : d.length ≤ 1048576) :
    Calls Try.prog 99 #[v] w fun e w' => e = .returned (.tuple #[.agg (if ndB d then ndX d else zN7).enc.toArray, .int .i64 (if ndB d then 0 else 5)]) ∧ Ext w w' := by
  have hB : B8 d := h.choose_spec.choose_spec.2.2.2.2
  have hb := hB.get 64
  have hn : gI d 64 = (ndN d : Int) := by unfold ndN; omega
  by_cases h0 : d.length < 65
  · rw [ndB_off (.inl (by omega))]
    exact rnShort v d w S h h0
  by_cases h4 : d.length < 65 + ndN d
  · rw [ndB_off (.inr h4)]
    exact rnCut v d w S h (ndN d) hn (ndN_le hB) (by omega) h4
  have hl : 65 + ndN d ≤ d.length := by omega
  have e : entB (ndX d).n (ndX d).v = ndB d := by
    by_cases h65 : d.length = 65
    · rw [ndB_off (.inl (by omega)), ent65 h65 hl]
    · rw [ndB_main (by omega) hl]
  exact readNodeG (ndX d) (ndX_ok hB hl hdl) (by rw [ndX_n hl]; exact ndN_le hB) (by rw [ndX_v]; omega) (ndB d) e v w S (by rw [nodeL_ndX hB hl]; exact h)
end Go.Proofs.Yteegnbdgfedajaa
/- A node read from any bytes: the reference. No condition. -/
namespace Go.Proofs.Yteegnbdgfedajaa
open Go.RowKit
set_option linter.unusedVariables false
set_option linter.unusedSimpArgs false

theorem yields_loadBS {P : Program} {ops : Array Oper} {o : Oper} {a : Act} {S : World → Prop} {t g e n : Nat} {cs : Array Value} (hb : ∀ W, S W → Blk W g e cs) (ht : Agg P t n) (hn : cs.size = n) (hw : Region.wanted o (yielded ops a.tmps) = true) (x : Operand) (ho : o.op = .load t x) (hx : a.eval x = .pointer (some ⟨g, 0, none⟩)) :
    YieldsIf P ops S o (.agg cs) a := Or.inl ⟨hw, fun W hW => by
  unfold execOp
  simp only [ho, hx, Instr.loadAt, Instr.sureAddr, Sem.run_bind, Sem.run_pure, Result.andThen_ok, run_loadB (hb W hW) ht hn]⟩
theorem stp_storeB7 {P : Program} {ops : Array Oper} {o : Oper} {a : Act} {w : World} {K : Act → World → Prop} {Q : Exit → Act → World → Prop} {E : Prop} {t g e n : Nat} {cs cur : Array Value} (hb : Blk w g e cur) (ht : Agg P t n) (hs : St n cs) (hl : cur.size = n) (hgd : o.guard = none) (x y : Operand) (ho : o.op = .store t x y)
    (hx : a.eval x = .pointer (some ⟨g, 0, none⟩)) (hy : a.eval y = .agg cs) (hd : o.dst = none) (h : K a (w.setRow g cs)) :
    if Region.wanted o (yielded ops a.tmps) = true then Oper.wp P o a w K Q else E := by
  refine stp_storeP hb ht hs (by omega) hgd x y ho hx hy hd ?_
  rw [splice_all _ _ (by rw [Array.length_toList, hs.size]; omega)]
  simpa using h
/-- one byte of a node's keys is filled in -/
theorem encSetL (l r : List Int) (n v : ByteArray) (j : Nat) (z : Int) (h : j < l.length) : (Nd.enc ⟨l, r, n, v⟩).toArray.setIfInBounds j (.int .u8 z) = (Nd.enc ⟨l.set j z, r, n, v⟩).toArray := by
  apply Array.toList_inj.1
  simp only [Nd.enc, Array.toList_setIfInBounds, List.append_assoc]
  rw [List.set_append_left _ _ (by rw [nums_length]; exact h)]
  simp [nums, List.map_set]
theorem encSetR (l r : List Int) (n v : ByteArray) (j : Nat) (z : Int) (hl : l.length = 32) (h : j < r.length) : (Nd.enc ⟨l, r, n, v⟩).toArray.setIfInBounds (32 + j) (.int .u8 z) = (Nd.enc ⟨l, r.set j z, n, v⟩).toArray := by
  apply Array.toList_inj.1
  simp only [Nd.enc, Array.toList_setIfInBounds, List.append_assoc]
  rw [List.set_append_right _ _ (by rw [nums_length]; omega), nums_length, hl, Nat.add_sub_cancel_left, List.set_append_left _ _ (by rw [nums_length]; exact h)]
  simp [nums, List.map_set]
theorem encSome (x : Nd) (hl : x.l.length = 32) (hr : x.r.length = 32) (j : Nat) (h : j < 66) : ∃ u, x.enc.toArray[j]? = some u := by
  have e : x.enc.toArray.size = 66 := by simp [Nd.enc, nums_length, hl, hr]
  exact ⟨_, Array.getElem?_eq_getElem (by omega)⟩
theorem encEnt {x : Nd} (h : x.ok) (n v : ByteArray) : splice x.enc.toArray 64 #[.string n, .string v].toList = (Nd.enc ⟨x.l, x.r, n, v⟩).toArray := by
  have := splice_next (nums .u8 x.l ++ nums .u8 x.r) [.string x.n, .string x.v] [.string n, .string v] (o := 64) (by rw [List.length_append, nums_length, nums_length, h.1.1, h.2.1.1])
  rw [show ([Value.string x.n, Value.string x.v]).drop ([Value.string n, Value.string v]).length = [] from rfl, List.append_nil] at this
  exact this
set_option maxHeartbeats 1000000 in
set_option maxRecDepth 100000 in
theorem rsShort (v : Value) (d : List Int) (w : World) (S : Nat → Prop) (h : RdL tByte w S v d) (h0 : d.length < 66) :
    Calls Try.prog 97 #[v] w fun e w' => e = .returned (.tuple #[.agg zN7.enc.toArray, .bool false]) ∧ Ext w w' := by
  obtain ⟨A, cap, rfl, hcap, hlen, hrd, hok⟩ := h
  have HZS := Lib.hid zN7_st
  have hzs := HZS.out.size
  clear hrd hok
  have i1 : decide ((d.length : Int) < 66) = true := decide_eq_true (by omega)
  go_enter Try.func97, Try.ntmps97
  have BZ := Lib.hid ((Blk.new w 129 Try.zeroCells129).alloc (.cells zN7.enc.toArray 129))
  go_wp2_with (first
    | (refine wpl_buildN rfl rfl built_zN7 ?_)
    | (refine wpl_storeNewG (g := w.heap.size + 1) (w := w.alloc _) (by simp) aggNode7 HZS.out rfl rfl _ _ rfl rfl rfl rfl ?_)
    | (refine wpl_loadB (Blk.new' (g := w.heap.size + 1) (w := w.alloc _) (by simp) 129 zN7.enc.toArray) aggNode7 hzs rfl _ rfl rfl ?_)
    | (refine wpl_storeB BZ.out aggNode7 HZS.out rfl rfl _ _ rfl rfl rfl rfl ?_))
  refine bodyPost_ret (results_bt7 rfl _ rfl aggNode7 hzs (BZ.out.setRow _) rfl) rfl ?_
  exact ⟨rfl, ((ext_alloc _ _).alloc _).setRow (Nat.le_refl _) _⟩
set_option maxHeartbeats 1000000 in
set_option maxRecDepth 100000 in
theorem rsLong (v : Value) (d : List Int) (w : World) (S : Nat → Prop) (h : RdL tByte w S v d) (h0 : 153 < d.length) :
    Calls Try.prog 97 #[v] w fun e w' => e = .returned (.tuple #[.agg zN7.enc.toArray, .bool false]) ∧ Ext w w' := by
  obtain ⟨A, cap, rfl, hcap, hlen, hrd, hok⟩ := h
  have HZS := Lib.hid zN7_st
  have hzs := HZS.out.size
  clear hrd hok
  have i1 : decide ((d.length : Int) < 66) = false := decide_eq_false (by omega)
  have i2 : decide ((153 : Int) < (d.length : Int)) = true := decide_eq_true (by omega)
  go_enter Try.func97, Try.ntmps97
  have BZ := Lib.hid ((Blk.new w 129 Try.zeroCells129).alloc (.cells zN7.enc.toArray 129))
  go_wp2_with (first
    | (refine wpl_buildN rfl rfl built_zN7 ?_)
    | (refine wpl_storeNewG (g := w.heap.size + 1) (w := w.alloc _) (by simp) aggNode7 HZS.out rfl rfl _ _ rfl rfl rfl rfl ?_)
    | (refine wpl_loadB (Blk.new' (g := w.heap.size + 1) (w := w.alloc _) (by simp) 129 zN7.enc.toArray) aggNode7 hzs rfl _ rfl rfl ?_)
    | (refine wpl_storeB BZ.out aggNode7 HZS.out rfl rfl _ _ rfl rfl rfl rfl ?_))
  refine bodyPost_ret (results_bt7 rfl _ rfl aggNode7 hzs (BZ.out.setRow _) rfl) rfl ?_
  exact ⟨rfl, ((ext_alloc _ _).alloc _).setRow (Nat.le_refl _) _⟩
set_option maxHeartbeats 1000000 in
set_option maxRecDepth 100000 in
theorem rsCut (v : Value) (d : List Int) (w : World) (S : Nat → Prop) (h : RdL tByte w S v d) (n : Nat) (h1 : gI d 64 = (n : Int)) (h3 : n ≤ 255) (h0 : 66 ≤ d.length) (h5 : d.length ≤ 153) (h4 : d.length < 65 + n) :
    Calls Try.prog 97 #[v] w fun e w' => e = .returned (.tuple #[.agg zN7.enc.toArray, .bool false]) ∧ Ext w w' := by
  obtain ⟨A, cap, rfl, hcap, hlen, hrd, hok⟩ := h
  have HZS := Lib.hid zN7_st
  have hzs := HZS.out.size
  have Hrd := Lib.hid (show Rd w S 1 A d.length (nums .u8 d) by rw [← flat_bytes]; exact hrd)
  obtain ⟨g, o, rfl, hs, hc0⟩ := (Hrd.out).byte 64 (by omega)
  have c64 : ∀ z z', ((w.alloc z).alloc z').cell? ⟨g, o + 64, none⟩ = some (.int .u8 n) := fun z z' => by rw [← h1]; exact ((ext_alloc w z).alloc z').cell hc0
  have hwn : IntKind.i64.wrap (n : Int) = (n : Int) := IntWalk.i64_in _ (by omega)
  clear hc0 h1
  clear hrd hok
  have i1 : decide ((d.length : Int) < 66) = false := decide_eq_false (by omega)
  have i2 : decide ((153 : Int) < (d.length : Int)) = false := decide_eq_false (by omega)
  have i3 : (64 : Int) < (d.length : Int) := by omega
  have i4 : decide ((d.length : Int) < 65 + (n : Int)) = true := decide_eq_true (by omega)
  go_enter Try.func97, Try.ntmps97
  have BZ := Lib.hid ((Blk.new w 129 Try.zeroCells129).alloc (.cells zN7.enc.toArray 129))
  go_wp2_with (first
    | (refine wpl_buildN rfl rfl built_zN7 ?_)
    | (refine wpl_storeNewG (g := w.heap.size + 1) (w := w.alloc _) (by simp) aggNode7 HZS.out rfl rfl _ _ rfl rfl rfl rfl ?_)
    | (refine wpl_loadB (Blk.new' (g := w.heap.size + 1) (w := w.alloc _) (by simp) 129 zN7.enc.toArray) aggNode7 hzs rfl _ rfl rfl ?_)
    | (refine wpl_storeB BZ.out aggNode7 HZS.out rfl rfl _ _ rfl rfl rfl rfl ?_))
  refine bodyPost_ret (results_bt7 rfl _ rfl aggNode7 hzs (BZ.out.setRow _) rfl) rfl ?_
  exact ⟨rfl, ((ext_alloc _ _).alloc _).setRow (Nat.le_refl _) _⟩
set_option maxHeartbeats 8000000 in
set_option maxRecDepth 100000 in
theorem rsMain (x : Nd) (hok : x.ok) (hs255 : x.n.size ≤ 255) (b : Bool) (he : entB x.n x.v = b) (v : Value) (w : World) (S : Nat → Prop) (h : RdL tByte w S v (nodeL x)) (hlo : 66 ≤ (nodeL x).length) (hhi : (nodeL x).length ≤ 153) :
    Calls Try.prog 97 #[v] w fun e w' => e = .returned (.tuple #[.agg x.enc.toArray, .bool b]) ∧ Ext w w' := by
  have hl := nodeL_length hok
  obtain ⟨A, cap, rfl, hcap, hlen, _⟩ := id h
  obtain ⟨g, o, rfl, hR⟩ := ndRd_of7 hok hs255 h
  have HR := Lib.hid hR
  have HZS := Lib.hid zN7_st
  have hzs := HZS.out.size
  have HST := Lib.hid (Nd.st hok)
  have hsz := HST.out.size
  have HOK := Lib.hid hok
  have HENT := Lib.hid he
  have c64 : ∀ z z', ((w.alloc z).alloc z').cell? ⟨g, o + 64, none⟩ = some (.int .u8 x.n.size) := fun z z' => HR.out.c _ ((ext_alloc _ _).alloc _)
  rw [hl] at hcap hlo hhi ⊢
  obtain ⟨N, hN⟩ : ∃ N, x.n.size = N := ⟨_, rfl⟩
  obtain ⟨V, hV⟩ : ∃ V, x.v.size = V := ⟨_, rfl⟩
  rw [hN] at hs255 c64 hcap hlo hhi ⊢
  rw [hV] at hcap hlo hhi ⊢
  have HN := Lib.hid hN
  have HV := Lib.hid hV
  clear hN hV h hR hl hlen hok he
  have hwn : IntKind.i64.wrap (N : Int) = (N : Int) := IntWalk.i64_in _ (by omega)
  have i1 : decide (((65 + N + V : Nat) : Int) < 66) = false := decide_eq_false (by omega)
  have i1p : decide (65 + (N : Int) + (V : Int) < 66) = false := decide_eq_false (by omega)
  have i2 : decide ((153 : Int) < ((65 + N + V : Nat) : Int)) = false := decide_eq_false (by omega)
  have i2p : decide ((153 : Int) < 65 + (N : Int) + (V : Int)) = false := decide_eq_false (by omega)
  have i3 : (64 : Int) < ((65 + N + V : Nat) : Int) := by omega
  have i3p : (64 : Int) < 65 + (N : Int) + (V : Int) := by omega
  have i4 : decide (((65 + N + V : Nat) : Int) < 65 + (N : Int)) = false := decide_eq_false (by omega)
  have i4p : decide (65 + (N : Int) + (V : Int) < 65 + (N : Int)) = false := decide_eq_false (by omega)
  have hb0 : x.l.length = 32 := HOK.out.1.1
  have hb1 : x.r.length = 32 := HOK.out.2.1.1
  have H0 := Lib.hid (show ∀ j, j < 32 → ∀ W, Ext w W → W.cell? ⟨g, o + j, none⟩ = some (.int .u8 (gI x.l j)) from fun j hj W hW => HR.out.l W hW j _ (nums_at _ _ _ (by omega)))
  have H1 := Lib.hid (show ∀ j, j < 32 → ∀ W, Ext w W → W.cell? ⟨g, o + (32 + j), none⟩ = some (.int .u8 (gI x.r j)) from fun j hj W hW => by have := HR.out.r W hW j _ (nums_at _ _ _ (by omega)); rwa [Nat.add_assoc] at this)
  go_enter Try.func97, Try.ntmps97
  go_wp2_with (first
      | (refine wpl_buildN rfl rfl built_zN7 ?_)
      | (refine wpl_storeNewG (g := w.heap.size + 1) (w := w.alloc _) (by simp) aggNode7 HZS.out rfl rfl _ _ rfl rfl rfl rfl ?_)
      | (refine wpl_loadB (Blk.new' (g := w.heap.size + 1) (w := w.alloc _) (by simp) 129 zN7.enc.toArray) aggNode7 hzs rfl _ rfl rfl ?_))
  have B2 := Lib.hid ((Blk.new w 129 Try.zeroCells129).alloc (.cells zN7.enc.toArray 129))
  have B4 := Lib.hid (Blk.new' (g := w.heap.size + 1) (w := w.alloc (.cells Try.zeroCells129 129)) (by simp) 129 zN7.enc.toArray)
  have X0 := Lib.hid ((ext_alloc w (.cells Try.zeroCells129 129)).alloc (.cells zN7.enc.toArray 129))
  generalize (w.alloc (.cells Try.zeroCells129 129)).alloc (.cells zN7.enc.toArray 129) = w0 at B2 B4 X0 ⊢
  clear c64
  go_loopw [6] (fun i wr => ∃ j : Nat, j ≤ 32 ∧ i = .int .i64 j ∧ Blk wr (w.heap.size + 1) 129 (Nd.enc ⟨x.l.take j ++ List.replicate (32 - j) 0, x.r.take j ++ List.replicate (32 - j) 0, ⟨#[]⟩, ⟨#[]⟩⟩).toArray ∧ Blk wr w.heap.size 129 Try.zeroCells129 ∧ Ext w wr) (fun i _ => 32 - (intOf i).toNat)
  case atStart => exact ⟨0, by omega, rfl, by simpa [zN7] using B4.out, B2.out, X0.out⟩
  case round =>
    obtain ⟨j, hj, rfl, hb4, hb2, hx⟩ := hrel
    have C4 := Lib.hid hb4
    have C2 := Lib.hid hb2
    have HX := Lib.hid hx
    clear hb4 hb2 hx B2 B4 X0
    by_cases hlj : j < 32
    · have hjI : (j : Int) < 32 := by omega
      have q0 : (j : Int) < 65 + (N : Int) + (V : Int) := by omega
      have q1 : 32 + (j : Int) < 65 + (N : Int) + (V : Int) := by omega
      have q2 : (j : Int) < ((65 + N + V : Nat) : Int) := by omega
      have q3 : 32 + (j : Int) < ((65 + N + V : Nat) : Int) := by omega
      have et : (32 + (j : Int)).toNat = 32 + j := by omega
      have hfl : (x.l.take j ++ List.replicate (32 - j) (0 : Int)).length = 32 := by simp [hb0]; omega
      have hfr : (x.r.take j ++ List.replicate (32 - j) (0 : Int)).length = 32 := by simp [hb1]; omega
      have c0 := H0.out j hlj _ HX.out
      have HXs := Lib.hid (HX.out.set (p := ⟨w.heap.size + 1, j, none⟩) (by show w.heap.size ≤ w.heap.size + 1; omega) (.int .u8 (gI x.l j)))
      have c1 := H1.out j hlj _ HXs.out
      obtain ⟨u0, e0⟩ := encSome ⟨x.l.take j ++ List.replicate (32 - j) 0, x.r.take j ++ List.replicate (32 - j) 0, ⟨#[]⟩, ⟨#[]⟩⟩ hfl hfr j (by omega)
      have d0 := C4.out.at_ j e0
      have f0 := C4.out.free j
      have D4 := C4.out.set j (.int .u8 (gI x.l j))
      rw [encSetL _ _ _ _ _ _ (by omega), fill_step x.l 32 j hlj hb0] at D4
      have hfl2 : (x.l.take (j + 1) ++ List.replicate (32 - (j + 1)) (0 : Int)).length = 32 := by simp [hb0]; omega
      obtain ⟨u1, e1⟩ := encSome ⟨x.l.take (j + 1) ++ List.replicate (32 - (j + 1)) 0, x.r.take j ++ List.replicate (32 - j) 0, ⟨#[]⟩, ⟨#[]⟩⟩ hfl2 hfr (32 + j) (by omega)
      have d1 := D4.at_ (32 + j) e1
      have f1 := D4.free (32 + j)
      have E4 := D4.set (32 + j) (.int .u8 (gI x.r j))
      rw [encSetR _ _ _ _ _ _ hfl2 (by omega), fill_step x.r 32 j hlj hb1] at E4
      have HE4 := Lib.hid E4
      have HE2 := Lib.hid ((C2.out.far (p := ⟨w.heap.size + 1, j, none⟩) (by show w.heap.size ≠ w.heap.size + 1; omega) (.int .u8 (gI x.l j))).far (p := ⟨w.heap.size + 1, 32 + j, none⟩) (by show w.heap.size ≠ w.heap.size + 1; omega) (.int .u8 (gI x.r j)))
      have HXE := Lib.hid (HXs.out.set (p := ⟨w.heap.size + 1, 32 + j, none⟩) (by show w.heap.size ≤ w.heap.size + 1; omega) (.int .u8 (gI x.r j)))
      clear e0 e1 D4 E4
      go_wp2_with fail
      go_roundw
      case rel => exact ⟨j + 1, by omega, by go_num, HE4.out, HE2.out, HXE.out⟩
      case measure => simp [intOf]; omega
    · obtain rfl : j = 32 := by omega
      have hb4 := C4.out
      rw [List.take_of_length_le (by omega), List.take_of_length_le (by omega), Nat.sub_self, List.replicate_zero, List.append_nil, List.append_nil] at hb4
      have B4 := Lib.hid hb4
      clear hb4 C4
      have et : (65 + (N : Int)).toNat = 65 + N := by omega
      have hww : IntKind.i64.wrap (65 + (N : Int)) = 65 + (N : Int) := IntWalk.i64_in _ (by omega)
      have j2 : ((65 + N + V : Nat) : Int) ≤ (cap : Int) := by omega
      have j3 : (65 : Int) ≤ 65 + (N : Int) := by omega
      have j4 : 65 + (N : Int) ≤ (cap : Int) := by omega
      have j5 : 65 + (N : Int) ≤ ((65 + N + V : Nat) : Int) := by omega
      have j6 : (0 : Int) ≤ 65 + (N : Int) := by omega
      have j5p : 65 + (N : Int) ≤ 65 + (N : Int) + (V : Int) := by omega
      have k2 : ¬ cap = 65 := by omega
      have hcn : ∀ W, Ext w W → ∀ q, (convert 22 9 (.slice (some ⟨g, o + 65, none⟩) ((65 + (N : Int)).toNat - 65) q)).run Try.prog W = .ok (.string x.n) W := fun W hW q => by rw [et, Nat.add_sub_cancel_left, ← HN.out]; exact HR.out.n W hW q
      obtain ⟨Z, hZ, hcv⟩ : ∃ Z, (if cap = (65 + (N : Int)).toNat then (some ⟨g, o, none⟩ : Option Addr) else some ⟨g, o + (65 + (N : Int)).toNat, none⟩) = Z ∧ ∀ W, Ext w W → ∀ q, (convert 22 9 (.slice Z (65 + N + V - (65 + (N : Int)).toNat) q)).run Try.prog W = .ok (.string x.v) W := by
        by_cases kc : cap = (65 + (N : Int)).toNat
        · rw [if_pos kc]
          refine ⟨_, rfl, fun W hW q => ?_⟩
          have e0 : V = 0 := by omega
          have e1 : x.v = strOfNums (strL x.v) := (strOf_strL7 x.v).symm
          have e2 : strL x.v = [] := List.eq_nil_of_length_eq_zero (by rw [strL_length, HV.out, e0])
          rw [et, Nat.add_sub_cancel_left, e1, e2, e0]
          exact conv_at7 (xs := []) (g := g) (o := o) rfl (fun j u hu => by cases hu)
        · rw [if_neg kc]
          refine ⟨_, rfl, fun W hW q => ?_⟩
          rw [et, Nat.add_sub_cancel_left, ← HN.out, ← HV.out]
          exact HR.out.v W hW q
      clear et
      go_wp2_with fail
      refine wp_region_held_drew (S := fun W => Ext w W) (by kernel_rfl) HX.out.drew (fun hHeld => ?_)
      refine wpAnyH_take (i := 0) (oi := ?oiz1) (v := ?vz1) ?hiz1 (by kernel_rfl) (by kernel_rfl) (by kernel_rfl) ?hQz1 ?hyz1 (by assumption) ?restz1
      case hiz1 => simp only [List.getElem?_toArray, List.getElem?_cons_zero, List.getElem?_cons_succ]; rfl
      case hQz1 => exact fun _ _ _ h => h
      case hyz1 => exact Or.inl ⟨by rfl, by intro w hSw; (try dsimp only at hSw); go_simp; with_reducible rfl⟩
      try simp only [Act.put, List.setIfInBounds_toArray, List.set_cons_zero, List.set_cons_succ]
      refine wpAnyH_take (i := 1) (oi := ?oiz2) (v := ?vz2) ?hiz2 (by kernel_rfl) (by kernel_rfl) (by kernel_rfl) ?hQz2 ?hyz2 (by assumption) ?restz2
      case hiz2 => simp only [List.getElem?_toArray, List.getElem?_cons_zero, List.getElem?_cons_succ]; rfl
      case hQz2 => exact fun _ _ _ h => h
      case hyz2 => exact Or.inl ⟨by rfl, by intro w hSw; (try dsimp only at hSw); go_simp; with_reducible rfl⟩
      try simp only [Act.put, List.setIfInBounds_toArray, List.set_cons_zero, List.set_cons_succ]
      refine wpAnyH_take (i := 2) (oi := ?oiz3) (v := ?vz3) ?hiz3 (by kernel_rfl) (by kernel_rfl) (by kernel_rfl) ?hQz3 ?hyz3 (by assumption) ?restz3
      case hiz3 => simp only [List.getElem?_toArray, List.getElem?_cons_zero, List.getElem?_cons_succ]; rfl
      case hQz3 => exact fun _ _ _ h => h
      case hyz3 => exact Or.inl ⟨by rfl, by intro w hSw; (try dsimp only at hSw); go_simp; with_reducible rfl⟩
      try simp only [Act.put, List.setIfInBounds_toArray, List.set_cons_zero, List.set_cons_succ]
      refine wpAnyH_take (i := 3) (oi := ?oiz4) (v := ?vz4) ?hiz4 (by kernel_rfl) (by kernel_rfl) (by kernel_rfl) ?hQz4 ?hyz4 (by assumption) ?restz4
      case hiz4 => simp only [List.getElem?_toArray, List.getElem?_cons_zero, List.getElem?_cons_succ]; rfl
      case hQz4 => exact fun _ _ _ h => h
      case hyz4 => exact Or.inl ⟨by rfl, by intro w hSw; (try dsimp only at hSw); go_simp; with_reducible rfl⟩
      try simp only [Act.put, List.setIfInBounds_toArray, List.set_cons_zero, List.set_cons_succ]
      refine wpAnyH_take (i := 4) (oi := ?oiz5) (v := (.string x.n)) ?hiz5 (by kernel_rfl) (by kernel_rfl) (by kernel_rfl) ?hQz5 ?hyz5 (by assumption) ?restz5
      case hiz5 => simp only [List.getElem?_toArray, List.getElem?_cons_zero, List.getElem?_cons_succ]; rfl
      case hQz5 => exact fun _ _ _ h => h
      case hyz5 => exact Or.inl ⟨by rfl, by intro w hSw; (try dsimp only at hSw); have hcq := hcn _ hSw; go_simp; (try with_reducible rfl)⟩
      try simp only [Act.put, List.setIfInBounds_toArray, List.set_cons_zero, List.set_cons_succ]
      refine wpAnyH_take (i := 5) (oi := ?oiz6) (v := ?vz6) ?hiz6 (by kernel_rfl) (by kernel_rfl) (by kernel_rfl) ?hQz6 ?hyz6 (by assumption) ?restz6
      case hiz6 => simp only [List.getElem?_toArray, List.getElem?_cons_zero, List.getElem?_cons_succ]; rfl
      case hQz6 => exact fun _ _ _ h => h
      case hyz6 => exact Or.inl ⟨by rfl, by intro w hSw; (try dsimp only at hSw); go_simp; with_reducible rfl⟩
      try simp only [Act.put, List.setIfInBounds_toArray, List.set_cons_zero, List.set_cons_succ]
      refine wpAnyH_take (i := 6) (oi := ?oiz7) (v := ?vz7) ?hiz7 (by kernel_rfl) (by kernel_rfl) (by kernel_rfl) ?hQz7 ?hyz7 (by assumption) ?restz7
      case hiz7 => simp only [List.getElem?_toArray, List.getElem?_cons_zero, List.getElem?_cons_succ]; rfl
      case hQz7 => exact fun _ _ _ h => h
      case hyz7 => exact Or.inl ⟨by rfl, by intro w hSw; (try dsimp only at hSw); go_simp; with_reducible rfl⟩
      try simp only [Act.put, List.setIfInBounds_toArray, List.set_cons_zero, List.set_cons_succ]
      refine wpAnyH_take (i := 7) (oi := ?oiz8) (v := ?vz8) ?hiz8 (by kernel_rfl) (by kernel_rfl) (by kernel_rfl) ?hQz8 ?hyz8 (by assumption) ?restz8
      case hiz8 => simp only [List.getElem?_toArray, List.getElem?_cons_zero, List.getElem?_cons_succ]; rfl
      case hQz8 => exact fun _ _ _ h => h
      case hyz8 => exact Or.inl ⟨by rfl, by intro w hSw; (try dsimp only at hSw); go_simp; with_reducible rfl⟩
      try simp only [Act.put, List.setIfInBounds_toArray, List.set_cons_zero, List.set_cons_succ]
      refine wpAnyH_take (i := 8) (oi := ?oiz9) (v := ?vz9) ?hiz9 (by kernel_rfl) (by kernel_rfl) (by kernel_rfl) ?hQz9 ?hyz9 (by assumption) ?restz9
      case hiz9 => simp only [List.getElem?_toArray, List.getElem?_cons_zero, List.getElem?_cons_succ]; rfl
      case hQz9 => exact fun _ _ _ h => h
      case hyz9 => exact Or.inl ⟨by rfl, by intro w hSw; (try dsimp only at hSw); go_simp; with_reducible rfl⟩
      try simp only [Act.put, List.setIfInBounds_toArray, List.set_cons_zero, List.set_cons_succ]
      refine wpAnyH_take (i := 9) (oi := ?oiz10) (v := (.string x.v)) ?hiz10 (by kernel_rfl) (by kernel_rfl) (by kernel_rfl) ?hQz10 ?hyz10 (by assumption) ?restz10
      case hiz10 => simp only [List.getElem?_toArray, List.getElem?_cons_zero, List.getElem?_cons_succ]; rfl
      case hQz10 => exact fun _ _ _ h => h
      case hyz10 => exact Or.inl ⟨by rfl, by intro w hSw; (try dsimp only at hSw); have hcq := hcv _ hSw; go_simp; (try with_reducible rfl)⟩
      try simp only [Act.put, List.setIfInBounds_toArray, List.set_cons_zero, List.set_cons_succ]
      refine wpAnyH_take (i := 10) (oi := ?oiz11) (v := (.agg #[.string x.n, .string x.v])) ?hiz11 (by kernel_rfl) (by kernel_rfl) (by kernel_rfl) ?hQz11 ?hyz11 (by assumption) ?restz11
      case hiz11 => simp only [List.getElem?_toArray, List.getElem?_cons_zero, List.getElem?_cons_succ]; rfl
      case hQz11 => exact fun _ _ _ h => h
      case hyz11 => exact Or.inl ⟨by rfl, by intro w hSw; (try dsimp only at hSw); go_simp; (try with_reducible rfl)⟩
      try simp only [Act.put, List.setIfInBounds_toArray, List.set_cons_zero, List.set_cons_succ]
      refine wpAnyH_take (i := 11) (oi := ?oiz12) (v := ?vz12) ?hiz12 (by kernel_rfl) (by kernel_rfl) (by kernel_rfl) ?hQz12 ?hyz12 (by assumption) ?restz12
      case hiz12 => simp only [List.getElem?_toArray, List.getElem?_cons_zero, List.getElem?_cons_succ]; rfl
      case hQz12 => exact fun _ _ _ h => h
      case hyz12 => exact Or.inl ⟨by rfl, by intro w hSw; (try dsimp only at hSw); go_simp; with_reducible rfl⟩
      try simp only [Act.put, List.setIfInBounds_toArray, List.set_cons_zero, List.set_cons_succ]
      generalize hw9 : wr.drew = w9 at hHeld ⊢
      have HX9 := Lib.hid (show Ext wr w9 by rw [← hw9]; exact (Ext.refl _).drew)
      clear hw9
      have C4 := Lib.hid (B4.out.ext HX9.out)
      have C22 := Lib.hid (C2.out.ext HX9.out)
      refine wpAnyH_ready (rs := [12]) (by kernel_rfl) (by simp) (AllReadyH.cons (o := ?oy1312) ?hy1312 (fun K hK => ?sy1312) AllReadyH.nil)
      case hy1312 => simp only [List.getElem?_toArray, List.getElem?_cons_zero, List.getElem?_cons_succ]; rfl
      refine stp_storeP C4.out aggEntryI (stEnt x.n x.v) (by simp [Nd.enc, nums_length, hb0, hb1]) rfl _ _ rfl rfl rfl rfl ?_
      rw [encEnt (x := ⟨x.l, x.r, ⟨#[]⟩, ⟨#[]⟩⟩) ⟨HOK.out.1, HOK.out.2.1, Nat.zero_le _, Nat.zero_le _⟩ x.n x.v]
      have D4 := Lib.hid (C4.out.setRow x.enc.toArray)
      have D2 := Lib.hid (C22.out.row_far (g' := w.heap.size + 1) (by omega) x.enc.toArray)
      have hH2 := hHeld.setRow (g := w.heap.size + 1) (by omega) x.enc.toArray
      refine hK.out _ _ hH2 (fun _ => ?_)
      clear hHeld hK K
      have HY := Lib.hid hH2
      clear hH2
      generalize w9.setRow (w.heap.size + 1) x.enc.toArray = wy at D4 D2 HY ⊢
      try simp only [Act.put, List.setIfInBounds_toArray, List.set_cons_zero, List.set_cons_succ]
      refine wpAnyH_done (by kernel_rfl) ?_ _
      clear C4 C22 B4 C2 HX9 hcn hcv hZ
      go_wp2_with fail
      refine wp_region_held_drew (S := fun W => Blk W (w.heap.size + 1) 129 x.enc.toArray ∧ Ext w W) (by kernel_rfl) ⟨D4.out.drewN 1, HY.out.drew⟩ (fun hHeld => ?_)
      refine wpAnyH_take (i := 0) (oi := ?oiz14) (v := (.agg x.enc.toArray)) ?hiz14 (by kernel_rfl) (by kernel_rfl) (by kernel_rfl) ?hQz14 ?hyz14 (by assumption) ?restz14
      case hiz14 => simp only [List.getElem?_toArray, List.getElem?_cons_zero, List.getElem?_cons_succ]; rfl
      case hQz14 => exact fun _ _ _ h => h
      case hyz14 => refine yields_loadBS (fun W hW => hW.1) aggNode7 hsz ?_ _ rfl rfl; rfl
      try simp only [Act.put, List.setIfInBounds_toArray, List.set_cons_zero, List.set_cons_succ]
      refine wpAnyH_take (i := 1) (oi := ?oiz15) (v := ?vz15) ?hiz15 (by kernel_rfl) (by kernel_rfl) (by kernel_rfl) ?hQz15 ?hyz15 (by assumption) ?restz15
      case hiz15 => simp only [List.getElem?_toArray, List.getElem?_cons_zero, List.getElem?_cons_succ]; rfl
      case hQz15 => exact fun _ _ _ h => h
      case hyz15 => exact Or.inl ⟨by rfl, by intro w hSw; (try dsimp only at hSw); go_simp; with_reducible rfl⟩
      try simp only [Act.put, List.setIfInBounds_toArray, List.set_cons_zero, List.set_cons_succ]
      generalize hw9 : wy.drew = w9 at hHeld ⊢
      have HX9 := Lib.hid (show Ext wy w9 by rw [← hw9]; exact (Ext.refl _).drew)
      clear hw9
      have E2 := Lib.hid (D2.out.ext HX9.out)
      refine wpAnyH_ready (rs := [2]) (by kernel_rfl) (by simp) (AllReadyH.cons (o := ?oy162) ?hy162 (fun K hK => ?sy162) AllReadyH.nil)
      case hy162 => simp only [List.getElem?_toArray, List.getElem?_cons_zero, List.getElem?_cons_succ]; rfl
      go_simp
      refine (l04Entry_any x.n x.v HOK.out.2.2.1 HOK.out.2.2.2 (w.heap.size + 1) 64 _ (hHeld.1.at_ 64 (Nd.at64 HOK.out)) (hHeld.1.at_ 65 (Nd.at65 HOK.out))).mono ?_
      rintro e w' ⟨rfl, rfl⟩
      rw [HENT.out]
      refine hK.out _ _ hHeld (fun _ => ?_)
      clear hK K
      try simp only [Act.put, List.setIfInBounds_toArray, List.set_cons_zero, List.set_cons_succ]
      refine wpAnyH_ready (rs := [3]) (by kernel_rfl) (by simp) (AllReadyH.cons (o := ?oy173) ?hy173 (fun K hK => ?sy173) AllReadyH.nil)
      case hy173 => simp only [List.getElem?_toArray, List.getElem?_cons_zero, List.getElem?_cons_succ]; rfl
      refine stp_storeB7 E2.out aggNode7 HST.out rfl rfl _ _ rfl rfl rfl rfl ?_
      have F2 := Lib.hid (E2.out.setRow x.enc.toArray)
      have FX := Lib.hid (hHeld.2.setRow (g := w.heap.size) (Nat.le_refl _) x.enc.toArray)
      refine hK.out _ _ ⟨hHeld.1.row_far (g' := w.heap.size) (by omega) _, FX.out⟩ (fun _ => ?_)
      clear hK K hHeld
      try simp only [Act.put, List.setIfInBounds_toArray, List.set_cons_zero, List.set_cons_succ]
      refine wpAnyH_take (i := 4) (oi := ?oiz18) (v := ?vz18) ?hiz18 (by kernel_rfl) (by kernel_rfl) (by kernel_rfl) ?hQz18 ?hyz18 (by assumption) ?restz18
      case hiz18 => simp only [List.getElem?_toArray, List.getElem?_cons_zero, List.getElem?_cons_succ]; rfl
      case hQz18 => exact fun _ _ _ h => h
      case hyz18 => exact Or.inl ⟨by rfl, by intro w hSw; (try dsimp only at hSw); go_simp; with_reducible rfl⟩
      try simp only [Act.put, List.setIfInBounds_toArray, List.set_cons_zero, List.set_cons_succ]
      refine wpAnyH_done (by kernel_rfl) ?_ _
      go_wp2_with fail
      refine bodyPost_ret (results_bt7 rfl _ rfl aggNode7 hsz F2.out rfl) rfl ?_
      exact ⟨rfl, FX.out⟩
/-- whatever the bytes are -/
theorem l04Read_all (v : Value) (d : List Int) (w : World) (S : Nat → Prop) (h : RdL tByte w S v d) (hdl : d.length ≤ 1048576) :
    Calls Try.prog 97 #[v] w fun e w' => ∃ y : Nd, e = .returned (.tuple #[.agg y.enc.toArray, .bool (ndB d)]) ∧ y.ok ∧ (ndB d = true → y = ndX d) ∧ Ext w w' := by
  have hB : B8 d := h.choose_spec.choose_spec.2.2.2.2
  have hb := hB.get 64
  have hn : gI d 64 = (ndN d : Int) := by unfold ndN; omega
  have off : ndB d = false → (Calls Try.prog 97 #[v] w fun e w' => e = .returned (.tuple #[.agg zN7.enc.toArray, .bool false]) ∧ Ext w w') → Calls Try.prog 97 #[v] w fun e w' => ∃ y : Nd, e = .returned (.tuple #[.agg y.enc.toArray, .bool (ndB d)]) ∧ y.ok ∧ (ndB d = true → y = ndX d) ∧ Ext w w' := fun h1 h2 => by
    rw [h1]
    refine h2.mono ?_
    rintro e w' ⟨rfl, hx⟩
    exact ⟨zN7, rfl, zN7_ok, fun e => (by cases e), hx⟩
  by_cases h0 : d.length < 66
  · exact off (ndB_off (.inl h0)) (rsShort v d w S h h0)
  by_cases h5 : 153 < d.length
  · exact off (ndB_long h5) (rsLong v d w S h h5)
  by_cases h4 : d.length < 65 + ndN d
  · exact off (ndB_off (.inr h4)) (rsCut v d w S h (ndN d) hn (ndN_le hB) (by omega) (by omega) h4)
  have hl : 65 + ndN d ≤ d.length := by omega
  have hnl := nodeL_ndX hB hl
  rw [ndB_main (by omega) hl]
  refine (rsMain (ndX d) (ndX_ok hB hl hdl) (by rw [ndX_n hl]; exact ndN_le hB) _ rfl v w S (by rw [hnl]; exact h) (by rw [hnl]; omega) (by rw [hnl]; omega)).mono ?_
  rintro e w' ⟨rfl, hx⟩
  exact ⟨ndX d, rfl, ndX_ok hB hl hdl, fun _ => rfl, hx⟩
end Go.Proofs.Yteegnbdgfedajaa
/- The key of a pack. No condition. -/
namespace Go.Proofs.Yteegnbdgfedajaa
open Go.RowKit
set_option linter.unusedVariables false
set_option linter.unusedSimpArgs false

def packR (xs : List Int) : List Int × Int := if xs.length ≤ 140000 then (hashL 8 xs, 0) else (List.replicate 32 0, 3)
theorem packR_ok (xs : List Int) : K32 (packR xs).1 := by unfold packR; split; exact hashL_ok _ _; exact zero_ok
end Go.Proofs.Yteegnbdgfedajaa
/- The key of a blob. No condition. -/
namespace Go.Proofs.Yteegnbdgfedajaa
open Go.RowKit
set_option linter.unusedVariables false
set_option linter.unusedSimpArgs false

def blobKR (t : Int) (xs : List Int) : List Int × Int := if xs.length ≤ 1024 then (hashL t xs, 0) else (List.replicate 32 0, 1)
theorem blobKR_ok (t : Int) (xs : List Int) : K32 (blobKR t xs).1 := by unfold blobKR; split; exact hashL_ok _ _; exact zero_ok
set_option maxHeartbeats 1000000 in
set_option maxRecDepth 100000 in
theorem l05Blob_any (A : Option Addr) (n cap : Nat) (w : World) (b : Nat) (c1 : w.cell? ⟨b, 1, none⟩ = some (.slice A n cap)) :
    Calls Try.prog 73 #[.pointer (some ⟨b, 0, none⟩)] w fun e w' => e = .returned (.bool (decide (n ≤ 1024))) ∧ w = w' := by
  go_enter Try.func73, Try.ntmps73
  go_wp2
  go_ret
  exact ⟨ret_bool (by simp; omega), rfl⟩
end Go.Proofs.Yteegnbdgfedajaa
/- Blobs, in the words of the laws' walks. No condition. -/
namespace Go.Proofs.Yteegnbdgfedajaa
open Go.RowKit
set_option linter.unusedVariables false
set_option linter.unusedSimpArgs false

theorem aggBlobL : Agg Try.prog 61 2 := Agg.mkS (fs := _) Try.underlying61 (by kernel_rfl)
theorem aggBlobI : Agg Try.prog 65 2 := Agg.mkS (fs := _) Try.underlying65 (by kernel_rfl)
/-- the cells of a blob -/
def RBlob (w : World) (S : Nat → Prop) (cs : Array Value) (x : Int × List Int) : Prop := ∃ v, cs = #[.int .u8 x.1, v] ∧ RdL tByte w S v x.2 ∧ 0 ≤ x.1 ∧ x.1 ≤ 255
section
variable {w w' : World} {S : Nat → Prop} {cs : Array Value} {x : Int × List Int}
theorem RBlob.ext (h : RBlob w S cs x) (e : Ext w w') : RBlob w' S cs x := by
  obtain ⟨v, h1, h2, h3⟩ := h
  exact ⟨v, h1, h2.ext (by decide) e, h3⟩
theorem RBlob.st (h : RBlob w S cs x) : St 2 cs := by
  obtain ⟨v, rfl, ⟨A, cap, rfl, _⟩, _⟩ := h
  exact ⟨rfl, fun u hu => by simp at hu; rcases hu with rfl | rfl <;> rfl⟩
end
set_option maxHeartbeats 1000000 in
set_option maxRecDepth 100000 in
theorem szBlob_u (cs : Array Value) (x : Int × List Int) (l : Int) (w : World) (S : Nat → Prop) (h : RBlob w S cs x) (h0 : -1 ≤ l) (h1 : l ≤ 1048576) :
    Calls Try.prog 34 #[.agg cs, .int .i64 l] w fun e w' => e = .returned (.int .i64 (if l - x.2.length < 0 then -1 else l - x.2.length)) ∧ Ext w w' := by
  obtain ⟨v, rfl, ⟨A, cap, rfl, hc, hl, _⟩, _⟩ := h
  exact szBlob_any x.1 A x.2.length cap l (by omega) h0 h1 w
set_option maxHeartbeats 1000000 in
set_option maxRecDepth 100000 in
theorem toBlob_u (cs : Array Value) (x : Int × List Int) (w : World) (S : Nat → Prop) (h : RBlob w S cs x) :
    Calls Try.prog 36 #[.agg cs] w fun e w' => ∃ cs', e = .returned (.agg cs') ∧ RBlob w' (fun g => w.heap.size ≤ g ∧ g < w'.heap.size) cs' x ∧ Ext w w' := by
  obtain ⟨v, rfl, hr, h3⟩ := h
  refine (toBlob_any x.1 v x.2 w S hr).mono ?_
  rintro e w' ⟨v', rfl, ho, hx⟩
  exact ⟨_, rfl, ⟨v', rfl, ho.rd, h3⟩, hx⟩
set_option maxHeartbeats 1000000 in
set_option maxRecDepth 100000 in
theorem eqBlob_u (cs cs' : Array Value) (x : Int × List Int) (w : World) (S S' : Nat → Prop) (h : RBlob w S cs x) (h' : RBlob w S' cs' x) :
    Calls Try.prog 39 #[.agg cs, .agg cs'] w fun e w' => e = .returned (.bool true) ∧ Ext w w' := by
  obtain ⟨v, rfl, hr, h3⟩ := h
  obtain ⟨v', rfl, hr', h3'⟩ := h'
  refine (eqBlob_any x.1 x.1 v v' x.2 x.2 w S S' hr hr').mono ?_
  rintro e w' ⟨rfl, hx⟩
  exact ⟨by simp, hx⟩
end Go.Proofs.Yteegnbdgfedajaa
/- A slice of one struct is made: one step of a region. No condition. -/
namespace Go.Proofs.Yteegnbdgfedajaa
open Go.RowKit
set_option linter.unusedVariables false
set_option linter.unusedSimpArgs false

theorem run_build1 {P : Program} {t e n : Nat} {cs : Array Value} (W : World) (ht : P.underlying t = some (.slice e)) (hz : (P.info? e).map (fun i => (i.size, i.zero.isSome)) = some (n, true)) (hn : cs.size = n) (h0 : 0 < n) (h1 : n ≤ 1000) :
    (Instr.buildSlice t 1 #[(0, .agg cs)]).run P W = .ok (.slice (some ⟨W.heap.size, 0, none⟩) 1 1) (W.alloc (.cells cs e)) := by
  cases hq : P.info? e with
  | none => simp [hq] at hz
  | some i =>
    have hz' : i.size = n ∧ i.zero.isSome = true := by simpa [hq] using hz
    obtain ⟨hs, hz2⟩ := hz'
    obtain ⟨z, hz3⟩ := Option.isSome_iff_exists.1 hz2
    have hne : ¬ (1 * n > 2 ^ 24) := by omega
    have hne0 : ¬ (1 * n = 0) := by omega
    have hf : ∀ Z : Array Value, Z.size = n → Instr.fill (fun i => some (i * n, n)) Z [(0, .agg cs)] = some cs := fun Z hZ => by
      rw [fill_one _ _ 0 0 n _ _ (by simp) (by simp only [Value.cells]; exact hn) (by omega), Instr.fill]
      simp only [Value.cells]
      rw [splice_all _ _ (by rw [Array.length_toList, hn, hZ]), Array.toArray_toList]
    have hff := hf ((Array.range (1 * n)).map fun x => z.cells[x % z.cells.size]!) (by simp)
    simp only [Nat.one_mul] at hff
    simp [Instr.buildSlice, run_underlying ht, sizeOf, typeInfo, zeroValue, hq, hs, hz3, newRow, show ¬ n = 0 by omega, show ¬ 16777216 < n by omega, hff]
/-- a slice of one struct: one step of a region -/
theorem stp_build1 {P : Program} {ops : Array Oper} {o : Oper} {a : Act} {w : World} {K : Act → World → Prop} {Q : Exit → Act → World → Prop} {E : Prop} {t e n : Nat} {cs : Array Value} (ht : P.underlying t = some (.slice e)) (hz : (P.info? e).map (fun i => (i.size, i.zero.isSome)) = some (n, true)) (hn : cs.size = n) (h0 : 0 < n) (h1 : n ≤ 1000)
    (hgd : o.guard = none) (x : Operand) (ho : o.op = .buildSlice t 1 #[(0, x)]) (hx : a.eval x = .agg cs)
    (h : K (a.put o.dst (.slice (some ⟨w.heap.size, 0, none⟩) 1 1)) (w.alloc (.cells cs e))) : if Region.wanted o (yielded ops a.tmps) = true then Oper.wp P o a w K Q else E := by
  have hw : Region.wanted o (yielded ops a.tmps) = true := by simp [Region.wanted, hgd]
  rw [if_pos hw]
  have hrun := run_build1 (P := P) w ht hz hn h0 h1
  have hm : (#[((0 : Nat), x)] : Array (Nat × Operand)).map (fun p => (p.1, a.eval p.2)) = #[(0, .agg cs)] := by simp [hx]
  unfold Oper.wp execOp
  simp only [ho, hm, hrun, Sem.run_bind, Result.andThen_ok, Sem.run_pure]
  exact h
theorem zeroNd : (Try.prog.info? 129).map (fun i => (i.size, i.zero.isSome)) = some (66, true) := by kernel_rfl
end Go.Proofs.Yteegnbdgfedajaa
/- The links of a blob: the reference. No condition. -/
namespace Go.Proofs.Yteegnbdgfedajaa
open Go.RowKit
set_option linter.unusedVariables false
set_option linter.unusedSimpArgs false

theorem l05Keys_i (v : Value) (d : List Int) (fi ni : Int) (f n : Nat) (hfi : fi = (f : Int)) (hni : ni = (n : Int)) (w : World) (S : Nat → Prop) (h : RdL tByte w S v d) (hf : f + 32 * n ≤ d.length) (hdl : d.length ≤ 1048576) :
    Calls Try.prog 96 #[v, .int .i64 fi, .int .i64 ni] w fun e w' => ∃ v', e = .returned v' ∧ Own tKey 40 w' w.heap.size v' (blocksL (d.drop f) n) ∧ Ext w w' := by
  subst hfi hni
  exact l05Keys_any v d f n w S h hf hdl
def lkN (d : List Int) : Nat := (gI d 0).toNat
theorem yields_loadP7 {P : Program} {ops : Array Oper} {op : Oper} {a : Act} {w0 : World} {t g e n off : Nat} {cs sub : Array Value} (hb : Blk w0 g e cs) (ht : Agg P t n) (hn : sub.size = n) (hp : ∀ j u, sub[j]? = some u → cs[off + j]? = some u) (hw : Region.wanted op (yielded ops a.tmps) = true) (x : Operand) (ho : op.op = .load t x) (hx : a.eval x = .pointer (some ⟨g, off, none⟩)) :
    YieldsIf P ops (fun W => Ext w0 W) op (.agg sub) a := by
  have := yields_loadR (P := P) (ops := ops) (op := op) (a := a) (w0 := w0) (t := t) g off sub.toList (by simpa [hn] using ht) (fun j u hu => by
    rw [hb.cell]
    exact hp j u (by simpa using hu)) hw x ho hx
  simpa using this
def one (k : List Int) : List (List Int) := if k = emptyL then [] else [k]
/-- the links of a blob -/
@[irreducible] def linksR (t : Int) (d : List Int) : List (List Int) :=
  if t = 2 then (if d.length = 64 then blocksL (d.drop 0) 2 else [])
  else if t = 5 then (if ndB d then one (ndX d).l ++ one (ndX d).r else [])
  else if t = 6 then (if d.length % 32 = 0 then blocksL (d.drop 0) (d.length / 32) else [])
  else if t = 7 then (if 0 < d.length ∧ 1 + 32 * lkN d ≤ d.length then blocksL (d.drop 1) (lkN d) else [])
  else []
theorem linksR_eq (t : Int) (d : List Int) : linksR t d = (if t = 2 then (if d.length = 64 then blocksL (d.drop 0) 2 else [])
  else if t = 5 then (if ndB d then one (ndX d).l ++ one (ndX d).r else [])
  else if t = 6 then (if d.length % 32 = 0 then blocksL (d.drop 0) (d.length / 32) else [])
  else if t = 7 then (if 0 < d.length ∧ 1 + 32 * lkN d ≤ d.length then blocksL (d.drop 1) (lkN d) else [])
  else []) := by rw [linksR]
set_option maxHeartbeats 4000000 in
set_option maxRecDepth 100000 in
theorem sl2 (t : Int) (d : List Int) (A : Option Addr) (cap : Nat) (b : Nat) (w : World) (S : Nat → Prop) (h : RdL tByte w S (.slice A d.length cap) d) (hdl : d.length ≤ 1048576) (c0 : w.cell? ⟨b, 0, none⟩ = some (.int .u8 t)) (c1 : w.cell? ⟨b, 1, none⟩ = some (.slice A d.length cap)) (ht : t = 2) (hl : d.length = 64) :
    Calls Try.prog 74 #[.pointer (some ⟨b, 0, none⟩)] w fun e w' => ∃ v', e = .returned v' ∧ Own tKey 40 w' w.heap.size v' (blocksL (d.drop 0) 2) ∧ Ext w w' := by
  have H := Lib.hid h
  subst ht
  have i1 : ((d.length : Int) == 64) = true := by rw [beq_iff_eq]; omega
  have HC := Lib.hid (l05Keys_i (.slice A d.length cap) d 0 2 0 2 (by omega) (by omega) w S h (by omega) hdl)
  clear h hl
  go_enter Try.func74, Try.ntmps74
  go_wp2_with fail
  refine HC.out.mono ?_
  rintro e w1 ⟨v', rfl, ho, hx⟩
  obtain ⟨C, cn, cc, rfl⟩ := ho.shape3
  have HO := Lib.hid ho
  have HX := Lib.hid hx
  clear ho hx
  go_wp2
  go_ret
  exact ⟨_, rfl, HO.out, HX.out⟩
set_option maxHeartbeats 4000000 in
set_option maxRecDepth 100000 in
theorem sl2n (t : Int) (d : List Int) (A : Option Addr) (cap : Nat) (b : Nat) (w : World) (S : Nat → Prop) (h : RdL tByte w S (.slice A d.length cap) d) (hdl : d.length ≤ 1048576) (c0 : w.cell? ⟨b, 0, none⟩ = some (.int .u8 t)) (c1 : w.cell? ⟨b, 1, none⟩ = some (.slice A d.length cap)) (ht : t = 2) (hl : d.length ≠ 64) :
    Calls Try.prog 74 #[.pointer (some ⟨b, 0, none⟩)] w fun e w' => ∃ v', e = .returned v' ∧ Own tKey 40 w' w.heap.size v' [] ∧ Ext w w' := by
  have H := Lib.hid h
  subst ht
  have i1 : ((d.length : Int) == 64) = false := by rw [beq_eq_false_iff_ne]; omega
  clear h
  go_enter Try.func74, Try.ntmps74
  go_wp2_with fail
  go_ret
  exact ⟨_, rfl, Own.empty _ _ _ _ (Nat.le_refl _), ext_alloc _ _⟩
set_option maxHeartbeats 4000000 in
set_option maxRecDepth 100000 in
theorem sl6 (t : Int) (d : List Int) (A : Option Addr) (cap : Nat) (b : Nat) (w : World) (S : Nat → Prop) (h : RdL tByte w S (.slice A d.length cap) d) (hdl : d.length ≤ 1048576) (c0 : w.cell? ⟨b, 0, none⟩ = some (.int .u8 t)) (c1 : w.cell? ⟨b, 1, none⟩ = some (.slice A d.length cap)) (ht : t = 6) (hl : d.length % 32 = 0) :
    Calls Try.prog 74 #[.pointer (some ⟨b, 0, none⟩)] w fun e w' => ∃ v', e = .returned v' ∧ Own tKey 40 w' w.heap.size v' (blocksL (d.drop 0) (d.length / 32)) ∧ Ext w w' := by
  have H := Lib.hid h
  subst ht
  have i1 : ((d.length : Int) % 32 == 0) = true := by rw [beq_iff_eq]; omega
  have HC := Lib.hid (l05Keys_i (.slice A d.length cap) d 0 ((d.length : Int) / 32) 0 (d.length / 32) (by omega) (by omega) w S h (by omega) hdl)
  clear h hl
  go_enter Try.func74, Try.ntmps74
  go_wp2_with fail
  refine HC.out.mono ?_
  rintro e w1 ⟨v', rfl, ho, hx⟩
  obtain ⟨C, cn, cc, rfl⟩ := ho.shape3
  have HO := Lib.hid ho
  have HX := Lib.hid hx
  clear ho hx
  go_wp2
  go_ret
  exact ⟨_, rfl, HO.out, HX.out⟩
set_option maxHeartbeats 4000000 in
set_option maxRecDepth 100000 in
theorem sl6n (t : Int) (d : List Int) (A : Option Addr) (cap : Nat) (b : Nat) (w : World) (S : Nat → Prop) (h : RdL tByte w S (.slice A d.length cap) d) (hdl : d.length ≤ 1048576) (c0 : w.cell? ⟨b, 0, none⟩ = some (.int .u8 t)) (c1 : w.cell? ⟨b, 1, none⟩ = some (.slice A d.length cap)) (ht : t = 6) (hl : d.length % 32 ≠ 0) :
    Calls Try.prog 74 #[.pointer (some ⟨b, 0, none⟩)] w fun e w' => ∃ v', e = .returned v' ∧ Own tKey 40 w' w.heap.size v' [] ∧ Ext w w' := by
  have H := Lib.hid h
  subst ht
  have i1 : ((d.length : Int) % 32 == 0) = false := by rw [beq_eq_false_iff_ne]; omega
  clear h
  go_enter Try.func74, Try.ntmps74
  go_wp2_with fail
  go_ret
  exact ⟨_, rfl, Own.empty _ _ _ _ (Nat.le_refl _), ext_alloc _ _⟩
set_option maxHeartbeats 4000000 in
set_option maxRecDepth 100000 in
theorem sl0 (t : Int) (d : List Int) (A : Option Addr) (cap : Nat) (b : Nat) (w : World) (S : Nat → Prop) (h : RdL tByte w S (.slice A d.length cap) d) (hdl : d.length ≤ 1048576) (c0 : w.cell? ⟨b, 0, none⟩ = some (.int .u8 t)) (c1 : w.cell? ⟨b, 1, none⟩ = some (.slice A d.length cap)) (h2 : t ≠ 2) (h5 : t ≠ 5) (h6 : t ≠ 6) (h7 : t ≠ 7) :
    Calls Try.prog 74 #[.pointer (some ⟨b, 0, none⟩)] w fun e w' => ∃ v', e = .returned v' ∧ Own tKey 40 w' w.heap.size v' [] ∧ Ext w w' := by
  have H := Lib.hid h
  have i2 : (t == 2) = false := by rw [beq_eq_false_iff_ne]; omega
  have i5 : (t == 5) = false := by rw [beq_eq_false_iff_ne]; omega
  have i6 : (t == 6) = false := by rw [beq_eq_false_iff_ne]; omega
  have i7 : (t == 7) = false := by rw [beq_eq_false_iff_ne]; omega
  clear h
  go_enter Try.func74, Try.ntmps74
  go_wp2_with fail
  go_ret
  exact ⟨_, rfl, Own.empty _ _ _ _ (Nat.le_refl _), ext_alloc _ _⟩
set_option maxHeartbeats 4000000 in
set_option maxRecDepth 100000 in
theorem sl7e (t : Int) (d : List Int) (A : Option Addr) (cap : Nat) (b : Nat) (w : World) (S : Nat → Prop) (h : RdL tByte w S (.slice A d.length cap) d) (hdl : d.length ≤ 1048576) (c0 : w.cell? ⟨b, 0, none⟩ = some (.int .u8 t)) (c1 : w.cell? ⟨b, 1, none⟩ = some (.slice A d.length cap)) (ht : t = 7) (h0 : d.length = 0) :
    Calls Try.prog 74 #[.pointer (some ⟨b, 0, none⟩)] w fun e w' => ∃ v', e = .returned v' ∧ Own tKey 40 w' w.heap.size v' [] ∧ Ext w w' := by
  have H := Lib.hid h
  subst ht
  have i5 : decide ((0 : Int) < (d.length : Int)) = false := decide_eq_false (by omega)
  have i5n : ¬ (0 < d.length) := by omega
  clear h0
  clear h
  go_enter Try.func74, Try.ntmps74
  go_wp2_with fail
  go_ret
  exact ⟨_, rfl, Own.empty _ _ _ _ (Nat.le_refl _), ext_alloc _ _⟩
set_option maxHeartbeats 4000000 in
set_option maxRecDepth 100000 in
theorem sl7n (t : Int) (d : List Int) (A : Option Addr) (cap : Nat) (b : Nat) (w : World) (S : Nat → Prop) (h : RdL tByte w S (.slice A d.length cap) d) (hdl : d.length ≤ 1048576) (c0 : w.cell? ⟨b, 0, none⟩ = some (.int .u8 t)) (c1 : w.cell? ⟨b, 1, none⟩ = some (.slice A d.length cap)) (ht : t = 7) (n : Nat) (h1 : gI d 0 = (n : Int)) (h3 : n ≤ 255) (h0 : 0 < d.length) (h4 : d.length < 1 + 32 * n) :
    Calls Try.prog 74 #[.pointer (some ⟨b, 0, none⟩)] w fun e w' => ∃ v', e = .returned v' ∧ Own tKey 40 w' w.heap.size v' [] ∧ Ext w w' := by
  have H := Lib.hid h
  subst ht
  obtain ⟨A', cap', e0, hcap, hlen, hrd, hok⟩ := id h
  injection e0 with e1 e2 e3
  subst e1 e3
  have Hrd := Lib.hid (show Rd w S 1 A d.length (nums .u8 d) by rw [← flat_bytes]; exact hrd)
  clear hrd hok
  obtain ⟨g, o, rfl, hs, hc0⟩ := (Hrd.out).byte 0 (by omega)
  rw [h1] at hc0
  have hc1 : w.cell? ⟨g, o, none⟩ = some (.int .u8 (n : Int)) := hc0
  clear hc0
  have hwn : IntKind.i64.wrap (n : Int) = (n : Int) := IntWalk.i64_in _ (by omega)
  have i5 : decide ((0 : Int) < (d.length : Int)) = true := decide_eq_true (by omega)
  have i6 : (0 : Int) < (d.length : Int) := by omega
  have i7 : decide (1 + 32 * (n : Int) ≤ (d.length : Int)) = false := decide_eq_false (by omega)
  clear h h1
  go_enter Try.func74, Try.ntmps74
  go_wp2_with fail
  go_ret
  exact ⟨_, rfl, Own.empty _ _ _ _ (Nat.le_refl _), ext_alloc _ _⟩
set_option maxHeartbeats 4000000 in
set_option maxRecDepth 100000 in
theorem sl7 (t : Int) (d : List Int) (A : Option Addr) (cap : Nat) (b : Nat) (w : World) (S : Nat → Prop) (h : RdL tByte w S (.slice A d.length cap) d) (hdl : d.length ≤ 1048576) (c0 : w.cell? ⟨b, 0, none⟩ = some (.int .u8 t)) (c1 : w.cell? ⟨b, 1, none⟩ = some (.slice A d.length cap)) (ht : t = 7) (n : Nat) (h1 : gI d 0 = (n : Int)) (h3 : n ≤ 255) (h0 : 0 < d.length) (h4 : 1 + 32 * n ≤ d.length) :
    Calls Try.prog 74 #[.pointer (some ⟨b, 0, none⟩)] w fun e w' => ∃ v', e = .returned v' ∧ Own tKey 40 w' w.heap.size v' (blocksL (d.drop 1) n) ∧ Ext w w' := by
  have H := Lib.hid h
  subst ht
  obtain ⟨A', cap', e0, hcap, hlen, hrd, hok⟩ := id h
  injection e0 with e1 e2 e3
  subst e1 e3
  have Hrd := Lib.hid (show Rd w S 1 A d.length (nums .u8 d) by rw [← flat_bytes]; exact hrd)
  clear hrd hok
  obtain ⟨g, o, rfl, hs, hc0⟩ := (Hrd.out).byte 0 (by omega)
  rw [h1] at hc0
  have hc1 : w.cell? ⟨g, o, none⟩ = some (.int .u8 (n : Int)) := hc0
  clear hc0
  have hwn : IntKind.i64.wrap (n : Int) = (n : Int) := IntWalk.i64_in _ (by omega)
  have i5 : decide ((0 : Int) < (d.length : Int)) = true := decide_eq_true (by omega)
  have i6 : (0 : Int) < (d.length : Int) := by omega
  have i7 : decide (1 + 32 * (n : Int) ≤ (d.length : Int)) = true := decide_eq_true (by omega)
  have HC := Lib.hid (fun W (hW : Ext w W) => l05Keys_i _ d 1 (n : Int) 1 n rfl rfl W S (h.ext (by decide) hW) h4 hdl)
  have k0 : ∀ W, Ext w W → W.cell? ⟨b, 1, none⟩ = some (.slice (some ⟨g, o, none⟩) d.length cap) := fun W hW => hW.cell c1
  have k1 : ∀ W, Ext w W → W.cell? ⟨g, o, none⟩ = some (.int .u8 (n : Int)) := fun W hW => hW.cell hc1
  clear h h1
  go_enter Try.func74, Try.ntmps74
  go_wp2_with fail
  refine wp_region_held_drew (S := fun W => Ext w W) (by kernel_rfl) (Ext.refl _).drew (fun hHeld => ?_)
  refine wpAnyH_take (i := 0) (oi := ?oiz1) (v := ?vz1) ?hiz1 (by kernel_rfl) (by kernel_rfl) (by kernel_rfl) ?hQz1 ?hyz1 (by assumption) ?restz1
  case hiz1 => simp only [List.getElem?_toArray, List.getElem?_cons_zero, List.getElem?_cons_succ]; rfl
  case hQz1 => exact fun _ _ _ h => h
  case hyz1 => exact Or.inl ⟨by rfl, by intro w hSw; (try dsimp only at hSw); go_simp; with_reducible rfl⟩
  try simp only [Act.put, List.setIfInBounds_toArray, List.set_cons_zero, List.set_cons_succ]
  refine wpAnyH_take (i := 1) (oi := ?oiz2) (v := ?vz2) ?hiz2 (by kernel_rfl) (by kernel_rfl) (by kernel_rfl) ?hQz2 ?hyz2 (by assumption) ?restz2
  case hiz2 => simp only [List.getElem?_toArray, List.getElem?_cons_zero, List.getElem?_cons_succ]; rfl
  case hQz2 => exact fun _ _ _ h => h
  case hyz2 => exact Or.inl ⟨by rfl, by intro w hSw; (try dsimp only at hSw); go_simp; with_reducible rfl⟩
  try simp only [Act.put, List.setIfInBounds_toArray, List.set_cons_zero, List.set_cons_succ]
  refine wpAnyH_take (i := 2) (oi := ?oiz3) (v := ?vz3) ?hiz3 (by kernel_rfl) (by kernel_rfl) (by kernel_rfl) ?hQz3 ?hyz3 (by assumption) ?restz3
  case hiz3 => simp only [List.getElem?_toArray, List.getElem?_cons_zero, List.getElem?_cons_succ]; rfl
  case hQz3 => exact fun _ _ _ h => h
  case hyz3 => exact Or.inl ⟨by rfl, by intro w hSw; (try dsimp only at hSw); go_simp; with_reducible rfl⟩
  try simp only [Act.put, List.setIfInBounds_toArray, List.set_cons_zero, List.set_cons_succ]
  refine wpAnyH_take (i := 3) (oi := ?oiz4) (v := ?vz4) ?hiz4 (by kernel_rfl) (by kernel_rfl) (by kernel_rfl) ?hQz4 ?hyz4 (by assumption) ?restz4
  case hiz4 => simp only [List.getElem?_toArray, List.getElem?_cons_zero, List.getElem?_cons_succ]; rfl
  case hQz4 => exact fun _ _ _ h => h
  case hyz4 => exact Or.inl ⟨by rfl, by intro w hSw; (try dsimp only at hSw); have q0 := k0 _ hSw; have q1 := k1 _ hSw; go_simp; with_reducible rfl⟩
  try simp only [Act.put, List.setIfInBounds_toArray, List.set_cons_zero, List.set_cons_succ]
  refine wpAnyH_take (i := 4) (oi := ?oiz5) (v := ?vz5) ?hiz5 (by kernel_rfl) (by kernel_rfl) (by kernel_rfl) ?hQz5 ?hyz5 (by assumption) ?restz5
  case hiz5 => simp only [List.getElem?_toArray, List.getElem?_cons_zero, List.getElem?_cons_succ]; rfl
  case hQz5 => exact fun _ _ _ h => h
  case hyz5 => exact Or.inl ⟨by rfl, by intro w hSw; (try dsimp only at hSw); go_simp; with_reducible rfl⟩
  try simp only [Act.put, List.setIfInBounds_toArray, List.set_cons_zero, List.set_cons_succ]
  refine wpAnyH_take (i := 5) (oi := ?oiz6) (v := ?vz6) ?hiz6 (by kernel_rfl) (by kernel_rfl) (by kernel_rfl) ?hQz6 ?hyz6 (by assumption) ?restz6
  case hiz6 => simp only [List.getElem?_toArray, List.getElem?_cons_zero, List.getElem?_cons_succ]; rfl
  case hQz6 => exact fun _ _ _ h => h
  case hyz6 => exact Or.inl ⟨by rfl, by intro w hSw; (try dsimp only at hSw); go_simp; with_reducible rfl⟩
  try simp only [Act.put, List.setIfInBounds_toArray, List.set_cons_zero, List.set_cons_succ]
  refine wpAnyH_take (i := 6) (oi := ?oiz7) (v := ?vz7) ?hiz7 (by kernel_rfl) (by kernel_rfl) (by kernel_rfl) ?hQz7 ?hyz7 (by assumption) ?restz7
  case hiz7 => simp only [List.getElem?_toArray, List.getElem?_cons_zero, List.getElem?_cons_succ]; rfl
  case hQz7 => exact fun _ _ _ h => h
  case hyz7 => exact Or.inl ⟨by rfl, by intro w hSw; (try dsimp only at hSw); go_simp; with_reducible rfl⟩
  try simp only [Act.put, List.setIfInBounds_toArray, List.set_cons_zero, List.set_cons_succ]
  refine wpAnyH_take (i := 7) (oi := ?oiz8) (v := ?vz8) ?hiz8 (by kernel_rfl) (by kernel_rfl) (by kernel_rfl) ?hQz8 ?hyz8 (by assumption) ?restz8
  case hiz8 => simp only [List.getElem?_toArray, List.getElem?_cons_zero, List.getElem?_cons_succ]; rfl
  case hQz8 => exact fun _ _ _ h => h
  case hyz8 => exact Or.inl ⟨by rfl, by intro w hSw; (try dsimp only at hSw); have q0 := k0 _ hSw; have q1 := k1 _ hSw; go_simp; with_reducible rfl⟩
  try simp only [Act.put, List.setIfInBounds_toArray, List.set_cons_zero, List.set_cons_succ]
  refine wpAnyH_take (i := 8) (oi := ?oiz9) (v := ?vz9) ?hiz9 (by kernel_rfl) (by kernel_rfl) (by kernel_rfl) ?hQz9 ?hyz9 (by assumption) ?restz9
  case hiz9 => simp only [List.getElem?_toArray, List.getElem?_cons_zero, List.getElem?_cons_succ]; rfl
  case hQz9 => exact fun _ _ _ h => h
  case hyz9 => exact Or.inl ⟨by rfl, by intro w hSw; (try dsimp only at hSw); go_simp; with_reducible rfl⟩
  try simp only [Act.put, List.setIfInBounds_toArray, List.set_cons_zero, List.set_cons_succ]
  refine wpAnyH_take (i := 9) (oi := ?oiz10) (v := ?vz10) ?hiz10 (by kernel_rfl) (by kernel_rfl) (by kernel_rfl) ?hQz10 ?hyz10 (by assumption) ?restz10
  case hiz10 => simp only [List.getElem?_toArray, List.getElem?_cons_zero, List.getElem?_cons_succ]; rfl
  case hQz10 => exact fun _ _ _ h => h
  case hyz10 => exact Or.inl ⟨by rfl, by intro w hSw; (try dsimp only at hSw); have q0 := k0 _ hSw; have q1 := k1 _ hSw; go_simp; with_reducible rfl⟩
  try simp only [Act.put, List.setIfInBounds_toArray, List.set_cons_zero, List.set_cons_succ]
  refine wpAnyH_take (i := 10) (oi := ?oiz11) (v := ?vz11) ?hiz11 (by kernel_rfl) (by kernel_rfl) (by kernel_rfl) ?hQz11 ?hyz11 (by assumption) ?restz11
  case hiz11 => simp only [List.getElem?_toArray, List.getElem?_cons_zero, List.getElem?_cons_succ]; rfl
  case hQz11 => exact fun _ _ _ h => h
  case hyz11 => exact Or.inl ⟨by rfl, by intro w hSw; (try dsimp only at hSw); go_simp; with_reducible rfl⟩
  try simp only [Act.put, List.setIfInBounds_toArray, List.set_cons_zero, List.set_cons_succ]
  refine wpAnyH_ready (rs := [11]) (by kernel_rfl) (by simp) (AllReadyH.cons (o := ?oy1211) ?hy1211 (fun K hK => ?sy1211) AllReadyH.nil)
  case hy1211 => simp only [List.getElem?_toArray, List.getElem?_cons_zero, List.getElem?_cons_succ]; rfl
  go_simp
  refine (HC.out _ hHeld).mono ?_
  rintro e w1 ⟨v', rfl, ho, hx⟩
  obtain ⟨C, cn, cc, rfl⟩ := ho.shape3
  have HO := Lib.hid ho
  clear ho
  have hH2 := hHeld.trans hx
  refine hK.out _ _ hH2 (fun _ => ?_)
  clear hHeld hK K
  have hHeld := hH2
  clear hH2
  try simp only [Act.put, List.setIfInBounds_toArray, List.set_cons_zero, List.set_cons_succ]
  refine wpAnyH_take (i := 12) (oi := ?oiz13) (v := ?vz13) ?hiz13 (by kernel_rfl) (by kernel_rfl) (by kernel_rfl) ?hQz13 ?hyz13 (by assumption) ?restz13
  case hiz13 => simp only [List.getElem?_toArray, List.getElem?_cons_zero, List.getElem?_cons_succ]; rfl
  case hQz13 => exact fun _ _ _ h => h
  case hyz13 => exact Or.inl ⟨by rfl, by intro w hSw; (try dsimp only at hSw); go_simp; with_reducible rfl⟩
  try simp only [Act.put, List.setIfInBounds_toArray, List.set_cons_zero, List.set_cons_succ]
  refine wpAnyH_done (by kernel_rfl) ?_ _
  have XW := Lib.hid hHeld
  clear hHeld
  go_wp2
  go_ret
  exact ⟨_, rfl, HO.out.le (show w.heap.size ≤ w.drew.heap.size from Nat.le_refl _), XW.out⟩
set_option maxHeartbeats 4000000 in
set_option maxRecDepth 100000 in
theorem sl5n (t : Int) (d : List Int) (A : Option Addr) (cap : Nat) (b : Nat) (w : World) (S : Nat → Prop) (h : RdL tByte w S (.slice A d.length cap) d) (hdl : d.length ≤ 1048576) (c0 : w.cell? ⟨b, 0, none⟩ = some (.int .u8 t)) (c1 : w.cell? ⟨b, 1, none⟩ = some (.slice A d.length cap)) (ht : t = 5) (hnd : ndB d = false) :
    Calls Try.prog 74 #[.pointer (some ⟨b, 0, none⟩)] w fun e w' => ∃ v', e = .returned v' ∧ Own tKey 40 w' w.heap.size v' [] ∧ Ext w w' := by
  have H := Lib.hid h
  subst ht
  clear h
  have c1a : ∀ z, (w.alloc z).cell? ⟨b, 1, none⟩ = some (.slice A d.length cap) := fun z => (ext_alloc w z).cell c1
  go_enter Try.func74, Try.ntmps74
  go_wp2_with fail
  refine (Calls.mono ((l04Read_all (.slice A d.length cap) d _ S (H.out.ext (by decide) (ext_alloc w _)) hdl)) ?_)
  rintro e w1 ⟨y, rfl, hy, hyb, hx⟩
  rw [hnd]
  have HST := Lib.hid (Nd.st hy)
  have hsz := HST.out.size
  have HYB := Lib.hid (hyb)
  have HYO := Lib.hid hy
  have HO0 := Lib.hid ((Own.empty tKey w 40 w.heap.size (Nat.le_refl _)).ext hx)
  have HX := Lib.hid ((ext_alloc w (.cells #[] 40)).trans hx)
  clear hyb hy c1a
  go_wp2_with (refine wpl_storeNewB aggNode7 HST.out rfl rfl _ _ rfl rfl rfl rfl ?_)
  have B5 := Lib.hid (Blk.new w1 129 y.enc.toArray)
  have HO := Lib.hid (HO0.out.alloc (.cells y.enc.toArray 129))
  have XW := Lib.hid (HX.out.alloc (.cells y.enc.toArray 129))
  have hgw : w.heap.size + 1 ≤ w1.heap.size := by have := hx.size; simpa using this
  clear HX HO0 hx
  generalize hw2 : w1.alloc (.cells y.enc.toArray 129) = w2 at B5 HO XW ⊢
  clear hw2
  refine wp_region_held_drew (S := fun W => Ext w2 W) (by kernel_rfl) (Ext.refl _).drew (fun hHeld => ?_)
  refine wpAnyH_take (i := 0) (oi := ?oiz14) (v := ?vz14) ?hiz14 (by kernel_rfl) (by kernel_rfl) (by kernel_rfl) ?hQz14 ?hyz14 (by assumption) ?restz14
  case hiz14 => simp only [List.getElem?_toArray, List.getElem?_cons_zero, List.getElem?_cons_succ]; rfl
  case hQz14 => exact fun _ _ _ h => h
  case hyz14 => exact Or.inl ⟨by rfl, by intro w hSw; (try dsimp only at hSw); go_simp; with_reducible rfl⟩
  try simp only [Act.put, List.setIfInBounds_toArray, List.set_cons_zero, List.set_cons_succ]
  refine wpAnyH_take (i := 1) (oi := ?oiz15) (v := ?vz15) ?hiz15 (by kernel_rfl) (by kernel_rfl) (by kernel_rfl) ?hQz15 ?hyz15 (by assumption) ?restz15
  case hiz15 => simp only [List.getElem?_toArray, List.getElem?_cons_zero, List.getElem?_cons_succ]; rfl
  case hQz15 => exact fun _ _ _ h => h
  case hyz15 => exact Or.inl ⟨by rfl, by intro w hSw; (try dsimp only at hSw); go_simp; with_reducible rfl⟩
  try simp only [Act.put, List.setIfInBounds_toArray, List.set_cons_zero, List.set_cons_succ]
  refine wpAnyH_take (i := 2) (oi := ?oiz16) (v := undef) ?hiz16 (by kernel_rfl) (by kernel_rfl) (by kernel_rfl) ?hQz16 ?hyz16 (by assumption) ?restz16
  case hiz16 => simp only [List.getElem?_toArray, List.getElem?_cons_zero, List.getElem?_cons_succ]; rfl
  case hQz16 => exact fun _ _ _ h => h
  case hyz16 => exact Or.inr ⟨by rfl, rfl⟩
  try simp only [Act.put, List.setIfInBounds_toArray, List.set_cons_zero, List.set_cons_succ]
  refine wpAnyH_take (i := 3) (oi := ?oiz17) (v := undef) ?hiz17 (by kernel_rfl) (by kernel_rfl) (by kernel_rfl) ?hQz17 ?hyz17 (by assumption) ?restz17
  case hiz17 => simp only [List.getElem?_toArray, List.getElem?_cons_zero, List.getElem?_cons_succ]; rfl
  case hQz17 => exact fun _ _ _ h => h
  case hyz17 => exact Or.inr ⟨by rfl, rfl⟩
  try simp only [Act.put, List.setIfInBounds_toArray, List.set_cons_zero, List.set_cons_succ]
  refine wpAnyH_take (i := 4) (oi := ?oiz18) (v := undef) ?hiz18 (by kernel_rfl) (by kernel_rfl) (by kernel_rfl) ?hQz18 ?hyz18 (by assumption) ?restz18
  case hiz18 => simp only [List.getElem?_toArray, List.getElem?_cons_zero, List.getElem?_cons_succ]; rfl
  case hQz18 => exact fun _ _ _ h => h
  case hyz18 => exact Or.inr ⟨by rfl, rfl⟩
  try simp only [Act.put, List.setIfInBounds_toArray, List.set_cons_zero, List.set_cons_succ]
  refine wpAnyH_take (i := 5) (oi := ?oiz19) (v := undef) ?hiz19 (by kernel_rfl) (by kernel_rfl) (by kernel_rfl) ?hQz19 ?hyz19 (by assumption) ?restz19
  case hiz19 => simp only [List.getElem?_toArray, List.getElem?_cons_zero, List.getElem?_cons_succ]; rfl
  case hQz19 => exact fun _ _ _ h => h
  case hyz19 => exact Or.inr ⟨by rfl, rfl⟩
  try simp only [Act.put, List.setIfInBounds_toArray, List.set_cons_zero, List.set_cons_succ]
  refine wpAnyH_take (i := 6) (oi := ?oiz20) (v := ?vz20) ?hiz20 (by kernel_rfl) (by kernel_rfl) (by kernel_rfl) ?hQz20 ?hyz20 (by assumption) ?restz20
  case hiz20 => simp only [List.getElem?_toArray, List.getElem?_cons_zero, List.getElem?_cons_succ]; rfl
  case hQz20 => exact fun _ _ _ h => h
  case hyz20 => exact Or.inl ⟨by rfl, by intro w hSw; (try dsimp only at hSw); go_simp; with_reducible rfl⟩
  try simp only [Act.put, List.setIfInBounds_toArray, List.set_cons_zero, List.set_cons_succ]
  refine wpAnyH_done (by kernel_rfl) ?_ _
  have HX9 := Lib.hid hHeld
  clear hHeld
  go_wp2
  refine wp_region_held_drew (S := fun W => Ext w2.drew W) (by kernel_rfl) (Ext.refl _).drew (fun hHeld => ?_)
  refine wpAnyH_take (i := 0) (oi := ?oiz21) (v := ?vz21) ?hiz21 (by kernel_rfl) (by kernel_rfl) (by kernel_rfl) ?hQz21 ?hyz21 (by assumption) ?restz21
  case hiz21 => simp only [List.getElem?_toArray, List.getElem?_cons_zero, List.getElem?_cons_succ]; rfl
  case hQz21 => exact fun _ _ _ h => h
  case hyz21 => exact Or.inl ⟨by rfl, by intro w hSw; (try dsimp only at hSw); go_simp; with_reducible rfl⟩
  try simp only [Act.put, List.setIfInBounds_toArray, List.set_cons_zero, List.set_cons_succ]
  refine wpAnyH_take (i := 1) (oi := ?oiz22) (v := ?vz22) ?hiz22 (by kernel_rfl) (by kernel_rfl) (by kernel_rfl) ?hQz22 ?hyz22 (by assumption) ?restz22
  case hiz22 => simp only [List.getElem?_toArray, List.getElem?_cons_zero, List.getElem?_cons_succ]; rfl
  case hQz22 => exact fun _ _ _ h => h
  case hyz22 => exact Or.inl ⟨by rfl, by intro w hSw; (try dsimp only at hSw); go_simp; with_reducible rfl⟩
  try simp only [Act.put, List.setIfInBounds_toArray, List.set_cons_zero, List.set_cons_succ]
  refine wpAnyH_take (i := 2) (oi := ?oiz23) (v := undef) ?hiz23 (by kernel_rfl) (by kernel_rfl) (by kernel_rfl) ?hQz23 ?hyz23 (by assumption) ?restz23
  case hiz23 => simp only [List.getElem?_toArray, List.getElem?_cons_zero, List.getElem?_cons_succ]; rfl
  case hQz23 => exact fun _ _ _ h => h
  case hyz23 => exact Or.inr ⟨by rfl, rfl⟩
  try simp only [Act.put, List.setIfInBounds_toArray, List.set_cons_zero, List.set_cons_succ]
  refine wpAnyH_take (i := 3) (oi := ?oiz24) (v := undef) ?hiz24 (by kernel_rfl) (by kernel_rfl) (by kernel_rfl) ?hQz24 ?hyz24 (by assumption) ?restz24
  case hiz24 => simp only [List.getElem?_toArray, List.getElem?_cons_zero, List.getElem?_cons_succ]; rfl
  case hQz24 => exact fun _ _ _ h => h
  case hyz24 => exact Or.inr ⟨by rfl, rfl⟩
  try simp only [Act.put, List.setIfInBounds_toArray, List.set_cons_zero, List.set_cons_succ]
  refine wpAnyH_take (i := 4) (oi := ?oiz25) (v := undef) ?hiz25 (by kernel_rfl) (by kernel_rfl) (by kernel_rfl) ?hQz25 ?hyz25 (by assumption) ?restz25
  case hiz25 => simp only [List.getElem?_toArray, List.getElem?_cons_zero, List.getElem?_cons_succ]; rfl
  case hQz25 => exact fun _ _ _ h => h
  case hyz25 => exact Or.inr ⟨by rfl, rfl⟩
  try simp only [Act.put, List.setIfInBounds_toArray, List.set_cons_zero, List.set_cons_succ]
  refine wpAnyH_take (i := 5) (oi := ?oiz26) (v := undef) ?hiz26 (by kernel_rfl) (by kernel_rfl) (by kernel_rfl) ?hQz26 ?hyz26 (by assumption) ?restz26
  case hiz26 => simp only [List.getElem?_toArray, List.getElem?_cons_zero, List.getElem?_cons_succ]; rfl
  case hQz26 => exact fun _ _ _ h => h
  case hyz26 => exact Or.inr ⟨by rfl, rfl⟩
  try simp only [Act.put, List.setIfInBounds_toArray, List.set_cons_zero, List.set_cons_succ]
  refine wpAnyH_take (i := 6) (oi := ?oiz27) (v := ?vz27) ?hiz27 (by kernel_rfl) (by kernel_rfl) (by kernel_rfl) ?hQz27 ?hyz27 (by assumption) ?restz27
  case hiz27 => simp only [List.getElem?_toArray, List.getElem?_cons_zero, List.getElem?_cons_succ]; rfl
  case hQz27 => exact fun _ _ _ h => h
  case hyz27 => exact Or.inl ⟨by rfl, by intro w hSw; (try dsimp only at hSw); go_simp; with_reducible rfl⟩
  try simp only [Act.put, List.setIfInBounds_toArray, List.set_cons_zero, List.set_cons_succ]
  refine wpAnyH_done (by kernel_rfl) ?_ _
  have HX8 := Lib.hid (HX9.out.trans hHeld)
  clear hHeld
  go_wp2
  go_ret
  exact ⟨_, rfl, HO.out.ext HX8.out, XW.out.trans HX8.out⟩
set_option maxHeartbeats 4000000 in
set_option maxRecDepth 100000 in
theorem sl5nn (t : Int) (d : List Int) (A : Option Addr) (cap : Nat) (b : Nat) (w : World) (S : Nat → Prop) (h : RdL tByte w S (.slice A d.length cap) d) (hdl : d.length ≤ 1048576) (c0 : w.cell? ⟨b, 0, none⟩ = some (.int .u8 t)) (c1 : w.cell? ⟨b, 1, none⟩ = some (.slice A d.length cap)) (ht : t = 5) (hnd : ndB d = true) (hl0 : (ndX d).l ≠ emptyL) (hr0 : (ndX d).r ≠ emptyL) :
    Calls Try.prog 74 #[.pointer (some ⟨b, 0, none⟩)] w fun e w' => ∃ v', e = .returned v' ∧ Own tKey 40 w' w.heap.size v' (one (ndX d).l ++ one (ndX d).r) ∧ Ext w w' := by
  have H := Lib.hid h
  subst ht
  clear h
  have c1a : ∀ z, (w.alloc z).cell? ⟨b, 1, none⟩ = some (.slice A d.length cap) := fun z => (ext_alloc w z).cell c1
  go_enter Try.func74, Try.ntmps74
  go_wp2_with fail
  refine (Calls.mono ((l04Read_all (.slice A d.length cap) d _ S (H.out.ext (by decide) (ext_alloc w _)) hdl)) ?_)
  rintro e w1 ⟨y, rfl, hy, hyb, hx⟩
  have hyd := hyb hnd
  rw [← hyd] at hl0 hr0
  have HYD := Lib.hid hyd
  rw [hnd]
  clear hyd
  have HST := Lib.hid (Nd.st hy)
  have hsz := HST.out.size
  have HYB := Lib.hid (hyb hnd)
  have HYO := Lib.hid hy
  have HO0 := Lib.hid ((Own.empty tKey w 40 w.heap.size (Nat.le_refl _)).ext hx)
  have HX := Lib.hid ((ext_alloc w (.cells #[] 40)).trans hx)
  clear hyb hy c1a
  go_wp2_with (refine wpl_storeNewB aggNode7 HST.out rfl rfl _ _ rfl rfl rfl rfl ?_)
  have B5 := Lib.hid (Blk.new w1 129 y.enc.toArray)
  have HO := Lib.hid (HO0.out.alloc (.cells y.enc.toArray 129))
  have XW := Lib.hid (HX.out.alloc (.cells y.enc.toArray 129))
  have hgw : w.heap.size + 1 ≤ w1.heap.size := by have := hx.size; simpa using this
  clear HX HO0 hx
  generalize hw2 : w1.alloc (.cells y.enc.toArray 129) = w2 at B5 HO XW ⊢
  clear hw2
  have hsl := sizeN (k := .u8) HYO.out.1.1
  have hsr := sizeN (k := .u8) HYO.out.2.1.1
  have hql : ∀ W, (binOp .neq 40 (.agg (numsA .u8 y.l)) (.agg (numsA .u8 emptyL))).run Try.prog W = .ok (.bool true) W := fun W => by
    have := run_neqKey y.l emptyL HYO.out.1 emptyL_ok W
    rw [decide_eq_false hl0] at this
    exact this
  have hol : one y.l = [y.l] := if_neg hl0
  have hqr : ∀ W, (binOp .neq 40 (.agg (numsA .u8 y.r)) (.agg (numsA .u8 emptyL))).run Try.prog W = .ok (.bool true) W := fun W => by
    have := run_neqKey y.r emptyL HYO.out.2.1 emptyL_ok W
    rw [decide_eq_false hr0] at this
    exact this
  have hor : one y.r = [y.r] := if_neg hr0
  clear hl0 hr0
  have hgs : w.heap.size ≠ w1.heap.size := by omega
  refine wp_region_held_drew (S := fun W => Ext w2 W) (by kernel_rfl) (Ext.refl _).drew (fun hHeld => ?_)
  refine wpAnyH_take (i := 0) (oi := ?oiz28) (v := ?vz28) ?hiz28 (by kernel_rfl) (by kernel_rfl) (by kernel_rfl) ?hQz28 ?hyz28 (by assumption) ?restz28
  case hiz28 => simp only [List.getElem?_toArray, List.getElem?_cons_zero, List.getElem?_cons_succ]; rfl
  case hQz28 => exact fun _ _ _ h => h
  case hyz28 => exact Or.inl ⟨by rfl, by intro w hSw; (try dsimp only at hSw); go_simp; with_reducible rfl⟩
  try simp only [Act.put, List.setIfInBounds_toArray, List.set_cons_zero, List.set_cons_succ]
  refine wpAnyH_take (i := 1) (oi := ?oiz29) (v := ?vz29) ?hiz29 (by kernel_rfl) (by kernel_rfl) (by kernel_rfl) ?hQz29 ?hyz29 (by assumption) ?restz29
  case hiz29 => simp only [List.getElem?_toArray, List.getElem?_cons_zero, List.getElem?_cons_succ]; rfl
  case hQz29 => exact fun _ _ _ h => h
  case hyz29 => exact Or.inl ⟨by rfl, by intro w hSw; (try dsimp only at hSw); go_simp; with_reducible rfl⟩
  try simp only [Act.put, List.setIfInBounds_toArray, List.set_cons_zero, List.set_cons_succ]
  refine wpAnyH_take (i := 2) (oi := ?oiz30) (v := ?vz30) ?hiz30 (by kernel_rfl) (by kernel_rfl) (by kernel_rfl) ?hQz30 ?hyz30 (by assumption) ?restz30
  case hiz30 => simp only [List.getElem?_toArray, List.getElem?_cons_zero, List.getElem?_cons_succ]; rfl
  case hQz30 => exact fun _ _ _ h => h
  case hyz30 => exact Or.inl ⟨by rfl, by intro w hSw; (try dsimp only at hSw); go_simp; with_reducible rfl⟩
  try simp only [Act.put, List.setIfInBounds_toArray, List.set_cons_zero, List.set_cons_succ]
  refine wpAnyH_take (i := 3) (oi := ?oiz31) (v := (.agg (numsA .u8 y.l))) ?hiz31 (by kernel_rfl) (by kernel_rfl) (by kernel_rfl) ?hQz31 ?hyz31 (by assumption) ?restz31
  case hiz31 => simp only [List.getElem?_toArray, List.getElem?_cons_zero, List.getElem?_cons_succ]; rfl
  case hQz31 => exact fun _ _ _ h => h
  case hyz31 => refine yields_loadP7 B5.out aggKey hsl (Nd.left HYO.out) ?_ _ rfl rfl; rfl
  try simp only [Act.put, List.setIfInBounds_toArray, List.set_cons_zero, List.set_cons_succ]
  refine wpAnyH_ready (rs := [4]) (by kernel_rfl) (by simp) (AllReadyH.cons (o := ?oy324) ?hy324 (fun K hK => ?sy324) AllReadyH.nil)
  case hy324 => simp only [List.getElem?_toArray, List.getElem?_cons_zero, List.getElem?_cons_succ]; rfl
  go_simp
  refine (l04Empty_any _).mono ?_
  rintro e w3 ⟨rfl, hx⟩
  have hH2 := hHeld.trans hx
  refine hK.out _ _ hH2 (fun _ => ?_)
  clear hHeld hK K
  have hHeld := hH2
  clear hH2
  try simp only [Act.put, List.setIfInBounds_toArray, List.set_cons_zero, List.set_cons_succ]
  refine wpAnyH_take (i := 5) (oi := ?oiz33) (v := ?vz33) ?hiz33 (by kernel_rfl) (by kernel_rfl) (by kernel_rfl) ?hQz33 ?hyz33 (by assumption) ?restz33
  case hiz33 => simp only [List.getElem?_toArray, List.getElem?_cons_zero, List.getElem?_cons_succ]; rfl
  case hQz33 => exact fun _ _ _ h => h
  case hyz33 => exact Or.inl ⟨by rfl, by intro w hSw; (try dsimp only at hSw); go_simp; with_reducible rfl⟩
  try simp only [Act.put, List.setIfInBounds_toArray, List.set_cons_zero, List.set_cons_succ]
  refine wpAnyH_take (i := 6) (oi := ?oiz34) (v := ?vz34) ?hiz34 (by kernel_rfl) (by kernel_rfl) (by kernel_rfl) ?hQz34 ?hyz34 (by assumption) ?restz34
  case hiz34 => simp only [List.getElem?_toArray, List.getElem?_cons_zero, List.getElem?_cons_succ]; rfl
  case hQz34 => exact fun _ _ _ h => h
  case hyz34 => exact Or.inl ⟨by rfl, by intro w hSw; (try dsimp only at hSw); go_simp; with_reducible rfl⟩
  try simp only [Act.put, List.setIfInBounds_toArray, List.set_cons_zero, List.set_cons_succ]
  refine wpAnyH_done (by kernel_rfl) ?_ _
  replace HO := Lib.hid (HO.out.ext hHeld)
  replace B5 := Lib.hid (B5.out.ext hHeld)
  replace XW := Lib.hid (XW.out.trans hHeld)
  clear hHeld hx
  go_wp2_with (first | (refine wpl_loadP (off := 0) (sub := numsA .u8 y.l) B5.out aggKey hsl (Nd.left HYO.out) rfl _ rfl rfl ?_) | (at_builtin; rw [fold_fillA (numsA .u8 y.l) _ _ hsl rfl]; refine wpl_append rowKeyK rfl _ _ rfl (v := .slice (some ⟨w.heap.size, 0, none⟩) 0 0) rfl (HO.out.alloc _) _ _ rfl (A := some ⟨w3.heap.size, 0, none⟩) (ys := [y.l]) rfl (rd_one (T := tKey) w3 y.l HYO.out.1 _) (by intro z hz; obtain rfl := List.mem_singleton.1 hz; exact HYO.out.1) (by simp) (by have := XW.out.size; simp; omega) ?_; intro v9 w9 ho1 hg1 hat1; have HX9 := Lib.hid ((XW.out.alloc _).grown hg1 (fun q e => by have := ((HO.out.alloc (.cells (numsA .u8 y.l) 40)).base_le _ e).1; omega)); have B59 := Lib.hid ((B5.out.alloc _).grown hg1 (fun e => by simp [Value.ownBlock] at e; omega)); have HO9 := Lib.hid ho1; obtain ⟨C9, n9, c9, rfl⟩ := ho1.shape3; clear ho1 hg1 hat1))
  replace HO := HO9
  replace XW := HX9
  replace B5 := B59
  clear HO9 HX9 B59
  refine wp_region_held_drew (S := fun W => Ext w9 W) (by kernel_rfl) (Ext.refl _).drew (fun hHeld => ?_)
  refine wpAnyH_take (i := 0) (oi := ?oiz35) (v := ?vz35) ?hiz35 (by kernel_rfl) (by kernel_rfl) (by kernel_rfl) ?hQz35 ?hyz35 (by assumption) ?restz35
  case hiz35 => simp only [List.getElem?_toArray, List.getElem?_cons_zero, List.getElem?_cons_succ]; rfl
  case hQz35 => exact fun _ _ _ h => h
  case hyz35 => exact Or.inl ⟨by rfl, by intro w hSw; (try dsimp only at hSw); go_simp; with_reducible rfl⟩
  try simp only [Act.put, List.setIfInBounds_toArray, List.set_cons_zero, List.set_cons_succ]
  refine wpAnyH_take (i := 1) (oi := ?oiz36) (v := ?vz36) ?hiz36 (by kernel_rfl) (by kernel_rfl) (by kernel_rfl) ?hQz36 ?hyz36 (by assumption) ?restz36
  case hiz36 => simp only [List.getElem?_toArray, List.getElem?_cons_zero, List.getElem?_cons_succ]; rfl
  case hQz36 => exact fun _ _ _ h => h
  case hyz36 => exact Or.inl ⟨by rfl, by intro w hSw; (try dsimp only at hSw); go_simp; with_reducible rfl⟩
  try simp only [Act.put, List.setIfInBounds_toArray, List.set_cons_zero, List.set_cons_succ]
  refine wpAnyH_take (i := 2) (oi := ?oiz37) (v := ?vz37) ?hiz37 (by kernel_rfl) (by kernel_rfl) (by kernel_rfl) ?hQz37 ?hyz37 (by assumption) ?restz37
  case hiz37 => simp only [List.getElem?_toArray, List.getElem?_cons_zero, List.getElem?_cons_succ]; rfl
  case hQz37 => exact fun _ _ _ h => h
  case hyz37 => exact Or.inl ⟨by rfl, by intro w hSw; (try dsimp only at hSw); go_simp; with_reducible rfl⟩
  try simp only [Act.put, List.setIfInBounds_toArray, List.set_cons_zero, List.set_cons_succ]
  refine wpAnyH_take (i := 3) (oi := ?oiz38) (v := (.agg (numsA .u8 y.r))) ?hiz38 (by kernel_rfl) (by kernel_rfl) (by kernel_rfl) ?hQz38 ?hyz38 (by assumption) ?restz38
  case hiz38 => simp only [List.getElem?_toArray, List.getElem?_cons_zero, List.getElem?_cons_succ]; rfl
  case hQz38 => exact fun _ _ _ h => h
  case hyz38 => refine yields_loadP7 B5.out aggKey hsr (Nd.right HYO.out) ?_ _ rfl rfl; rfl
  try simp only [Act.put, List.setIfInBounds_toArray, List.set_cons_zero, List.set_cons_succ]
  refine wpAnyH_ready (rs := [4]) (by kernel_rfl) (by simp) (AllReadyH.cons (o := ?oy394) ?hy394 (fun K hK => ?sy394) AllReadyH.nil)
  case hy394 => simp only [List.getElem?_toArray, List.getElem?_cons_zero, List.getElem?_cons_succ]; rfl
  go_simp
  refine (l04Empty_any _).mono ?_
  rintro e w4 ⟨rfl, hx⟩
  have hH2 := hHeld.trans hx
  refine hK.out _ _ hH2 (fun _ => ?_)
  clear hHeld hK K
  have hHeld := hH2
  clear hH2
  try simp only [Act.put, List.setIfInBounds_toArray, List.set_cons_zero, List.set_cons_succ]
  refine wpAnyH_take (i := 5) (oi := ?oiz40) (v := ?vz40) ?hiz40 (by kernel_rfl) (by kernel_rfl) (by kernel_rfl) ?hQz40 ?hyz40 (by assumption) ?restz40
  case hiz40 => simp only [List.getElem?_toArray, List.getElem?_cons_zero, List.getElem?_cons_succ]; rfl
  case hQz40 => exact fun _ _ _ h => h
  case hyz40 => exact Or.inl ⟨by rfl, by intro w hSw; (try dsimp only at hSw); go_simp; with_reducible rfl⟩
  try simp only [Act.put, List.setIfInBounds_toArray, List.set_cons_zero, List.set_cons_succ]
  refine wpAnyH_take (i := 6) (oi := ?oiz41) (v := ?vz41) ?hiz41 (by kernel_rfl) (by kernel_rfl) (by kernel_rfl) ?hQz41 ?hyz41 (by assumption) ?restz41
  case hiz41 => simp only [List.getElem?_toArray, List.getElem?_cons_zero, List.getElem?_cons_succ]; rfl
  case hQz41 => exact fun _ _ _ h => h
  case hyz41 => exact Or.inl ⟨by rfl, by intro w hSw; (try dsimp only at hSw); go_simp; with_reducible rfl⟩
  try simp only [Act.put, List.setIfInBounds_toArray, List.set_cons_zero, List.set_cons_succ]
  refine wpAnyH_done (by kernel_rfl) ?_ _
  replace HO := Lib.hid (HO.out.ext hHeld)
  replace B5 := Lib.hid (B5.out.ext hHeld)
  replace XW := Lib.hid (XW.out.trans hHeld)
  clear hHeld hx
  go_wp2_with (first | (refine wpl_loadP (off := 32) (sub := numsA .u8 y.r) B5.out aggKey hsr (Nd.right HYO.out) rfl _ rfl rfl ?_) | (at_builtin; rw [fold_fillA (numsA .u8 y.r) _ _ hsr rfl]; refine wpl_append rowKeyK rfl _ _ rfl (v := .slice C9 n9 c9) rfl (HO.out.alloc _) _ _ rfl (A := some ⟨w4.heap.size, 0, none⟩) (ys := [y.r]) rfl (rd_one (T := tKey) w4 y.r HYO.out.2.1 _) (by intro z hz; obtain rfl := List.mem_singleton.1 hz; exact HYO.out.2.1) (by simp) (by have := XW.out.size; simp; omega) ?_; intro v9 w9 ho1 hg1 hat1; have HX9 := Lib.hid ((XW.out.alloc _).grown hg1 (fun q e => by have := ((HO.out.alloc (.cells (numsA .u8 y.r) 40)).base_le _ e).1; omega)); have HO9 := Lib.hid ho1; obtain ⟨C9, n9, c9, rfl⟩ := ho1.shape3; clear ho1 hg1 hat1))
  go_ret
  exact ⟨_, rfl, by rw [← HYD.out, hol, hor]; simpa using HO9.out, HX9.out⟩
set_option maxHeartbeats 4000000 in
set_option maxRecDepth 100000 in
theorem sl5ne (t : Int) (d : List Int) (A : Option Addr) (cap : Nat) (b : Nat) (w : World) (S : Nat → Prop) (h : RdL tByte w S (.slice A d.length cap) d) (hdl : d.length ≤ 1048576) (c0 : w.cell? ⟨b, 0, none⟩ = some (.int .u8 t)) (c1 : w.cell? ⟨b, 1, none⟩ = some (.slice A d.length cap)) (ht : t = 5) (hnd : ndB d = true) (hl0 : (ndX d).l ≠ emptyL) (hr0 : (ndX d).r = emptyL) :
    Calls Try.prog 74 #[.pointer (some ⟨b, 0, none⟩)] w fun e w' => ∃ v', e = .returned v' ∧ Own tKey 40 w' w.heap.size v' (one (ndX d).l ++ one (ndX d).r) ∧ Ext w w' := by
  have H := Lib.hid h
  subst ht
  clear h
  have c1a : ∀ z, (w.alloc z).cell? ⟨b, 1, none⟩ = some (.slice A d.length cap) := fun z => (ext_alloc w z).cell c1
  go_enter Try.func74, Try.ntmps74
  go_wp2_with fail
  refine (Calls.mono ((l04Read_all (.slice A d.length cap) d _ S (H.out.ext (by decide) (ext_alloc w _)) hdl)) ?_)
  rintro e w1 ⟨y, rfl, hy, hyb, hx⟩
  have hyd := hyb hnd
  rw [← hyd] at hl0 hr0
  have HYD := Lib.hid hyd
  rw [hnd]
  clear hyd
  have HST := Lib.hid (Nd.st hy)
  have hsz := HST.out.size
  have HYB := Lib.hid (hyb hnd)
  have HYO := Lib.hid hy
  have HO0 := Lib.hid ((Own.empty tKey w 40 w.heap.size (Nat.le_refl _)).ext hx)
  have HX := Lib.hid ((ext_alloc w (.cells #[] 40)).trans hx)
  clear hyb hy c1a
  go_wp2_with (refine wpl_storeNewB aggNode7 HST.out rfl rfl _ _ rfl rfl rfl rfl ?_)
  have B5 := Lib.hid (Blk.new w1 129 y.enc.toArray)
  have HO := Lib.hid (HO0.out.alloc (.cells y.enc.toArray 129))
  have XW := Lib.hid (HX.out.alloc (.cells y.enc.toArray 129))
  have hgw : w.heap.size + 1 ≤ w1.heap.size := by have := hx.size; simpa using this
  clear HX HO0 hx
  generalize hw2 : w1.alloc (.cells y.enc.toArray 129) = w2 at B5 HO XW ⊢
  clear hw2
  have hsl := sizeN (k := .u8) HYO.out.1.1
  have hsr := sizeN (k := .u8) HYO.out.2.1.1
  have hql : ∀ W, (binOp .neq 40 (.agg (numsA .u8 y.l)) (.agg (numsA .u8 emptyL))).run Try.prog W = .ok (.bool true) W := fun W => by
    have := run_neqKey y.l emptyL HYO.out.1 emptyL_ok W
    rw [decide_eq_false hl0] at this
    exact this
  have hol : one y.l = [y.l] := if_neg hl0
  have hqr : ∀ W, (binOp .neq 40 (.agg (numsA .u8 y.r)) (.agg (numsA .u8 emptyL))).run Try.prog W = .ok (.bool false) W := fun W => by
    have := run_neqKey y.r emptyL HYO.out.2.1 emptyL_ok W
    rw [decide_eq_true hr0] at this
    exact this
  have hor : one y.r = [] := if_pos hr0
  clear hl0 hr0
  have hgs : w.heap.size ≠ w1.heap.size := by omega
  refine wp_region_held_drew (S := fun W => Ext w2 W) (by kernel_rfl) (Ext.refl _).drew (fun hHeld => ?_)
  refine wpAnyH_take (i := 0) (oi := ?oiz42) (v := ?vz42) ?hiz42 (by kernel_rfl) (by kernel_rfl) (by kernel_rfl) ?hQz42 ?hyz42 (by assumption) ?restz42
  case hiz42 => simp only [List.getElem?_toArray, List.getElem?_cons_zero, List.getElem?_cons_succ]; rfl
  case hQz42 => exact fun _ _ _ h => h
  case hyz42 => exact Or.inl ⟨by rfl, by intro w hSw; (try dsimp only at hSw); go_simp; with_reducible rfl⟩
  try simp only [Act.put, List.setIfInBounds_toArray, List.set_cons_zero, List.set_cons_succ]
  refine wpAnyH_take (i := 1) (oi := ?oiz43) (v := ?vz43) ?hiz43 (by kernel_rfl) (by kernel_rfl) (by kernel_rfl) ?hQz43 ?hyz43 (by assumption) ?restz43
  case hiz43 => simp only [List.getElem?_toArray, List.getElem?_cons_zero, List.getElem?_cons_succ]; rfl
  case hQz43 => exact fun _ _ _ h => h
  case hyz43 => exact Or.inl ⟨by rfl, by intro w hSw; (try dsimp only at hSw); go_simp; with_reducible rfl⟩
  try simp only [Act.put, List.setIfInBounds_toArray, List.set_cons_zero, List.set_cons_succ]
  refine wpAnyH_take (i := 2) (oi := ?oiz44) (v := ?vz44) ?hiz44 (by kernel_rfl) (by kernel_rfl) (by kernel_rfl) ?hQz44 ?hyz44 (by assumption) ?restz44
  case hiz44 => simp only [List.getElem?_toArray, List.getElem?_cons_zero, List.getElem?_cons_succ]; rfl
  case hQz44 => exact fun _ _ _ h => h
  case hyz44 => exact Or.inl ⟨by rfl, by intro w hSw; (try dsimp only at hSw); go_simp; with_reducible rfl⟩
  try simp only [Act.put, List.setIfInBounds_toArray, List.set_cons_zero, List.set_cons_succ]
  refine wpAnyH_take (i := 3) (oi := ?oiz45) (v := (.agg (numsA .u8 y.l))) ?hiz45 (by kernel_rfl) (by kernel_rfl) (by kernel_rfl) ?hQz45 ?hyz45 (by assumption) ?restz45
  case hiz45 => simp only [List.getElem?_toArray, List.getElem?_cons_zero, List.getElem?_cons_succ]; rfl
  case hQz45 => exact fun _ _ _ h => h
  case hyz45 => refine yields_loadP7 B5.out aggKey hsl (Nd.left HYO.out) ?_ _ rfl rfl; rfl
  try simp only [Act.put, List.setIfInBounds_toArray, List.set_cons_zero, List.set_cons_succ]
  refine wpAnyH_ready (rs := [4]) (by kernel_rfl) (by simp) (AllReadyH.cons (o := ?oy464) ?hy464 (fun K hK => ?sy464) AllReadyH.nil)
  case hy464 => simp only [List.getElem?_toArray, List.getElem?_cons_zero, List.getElem?_cons_succ]; rfl
  go_simp
  refine (l04Empty_any _).mono ?_
  rintro e w3 ⟨rfl, hx⟩
  have hH2 := hHeld.trans hx
  refine hK.out _ _ hH2 (fun _ => ?_)
  clear hHeld hK K
  have hHeld := hH2
  clear hH2
  try simp only [Act.put, List.setIfInBounds_toArray, List.set_cons_zero, List.set_cons_succ]
  refine wpAnyH_take (i := 5) (oi := ?oiz47) (v := ?vz47) ?hiz47 (by kernel_rfl) (by kernel_rfl) (by kernel_rfl) ?hQz47 ?hyz47 (by assumption) ?restz47
  case hiz47 => simp only [List.getElem?_toArray, List.getElem?_cons_zero, List.getElem?_cons_succ]; rfl
  case hQz47 => exact fun _ _ _ h => h
  case hyz47 => exact Or.inl ⟨by rfl, by intro w hSw; (try dsimp only at hSw); go_simp; with_reducible rfl⟩
  try simp only [Act.put, List.setIfInBounds_toArray, List.set_cons_zero, List.set_cons_succ]
  refine wpAnyH_take (i := 6) (oi := ?oiz48) (v := ?vz48) ?hiz48 (by kernel_rfl) (by kernel_rfl) (by kernel_rfl) ?hQz48 ?hyz48 (by assumption) ?restz48
  case hiz48 => simp only [List.getElem?_toArray, List.getElem?_cons_zero, List.getElem?_cons_succ]; rfl
  case hQz48 => exact fun _ _ _ h => h
  case hyz48 => exact Or.inl ⟨by rfl, by intro w hSw; (try dsimp only at hSw); go_simp; with_reducible rfl⟩
  try simp only [Act.put, List.setIfInBounds_toArray, List.set_cons_zero, List.set_cons_succ]
  refine wpAnyH_done (by kernel_rfl) ?_ _
  replace HO := Lib.hid (HO.out.ext hHeld)
  replace B5 := Lib.hid (B5.out.ext hHeld)
  replace XW := Lib.hid (XW.out.trans hHeld)
  clear hHeld hx
  go_wp2_with (first | (refine wpl_loadP (off := 0) (sub := numsA .u8 y.l) B5.out aggKey hsl (Nd.left HYO.out) rfl _ rfl rfl ?_) | (at_builtin; rw [fold_fillA (numsA .u8 y.l) _ _ hsl rfl]; refine wpl_append rowKeyK rfl _ _ rfl (v := .slice (some ⟨w.heap.size, 0, none⟩) 0 0) rfl (HO.out.alloc _) _ _ rfl (A := some ⟨w3.heap.size, 0, none⟩) (ys := [y.l]) rfl (rd_one (T := tKey) w3 y.l HYO.out.1 _) (by intro z hz; obtain rfl := List.mem_singleton.1 hz; exact HYO.out.1) (by simp) (by have := XW.out.size; simp; omega) ?_; intro v9 w9 ho1 hg1 hat1; have HX9 := Lib.hid ((XW.out.alloc _).grown hg1 (fun q e => by have := ((HO.out.alloc (.cells (numsA .u8 y.l) 40)).base_le _ e).1; omega)); have B59 := Lib.hid ((B5.out.alloc _).grown hg1 (fun e => by simp [Value.ownBlock] at e; omega)); have HO9 := Lib.hid ho1; obtain ⟨C9, n9, c9, rfl⟩ := ho1.shape3; clear ho1 hg1 hat1))
  replace HO := HO9
  replace XW := HX9
  replace B5 := B59
  clear HO9 HX9 B59
  refine wp_region_held_drew (S := fun W => Ext w9 W) (by kernel_rfl) (Ext.refl _).drew (fun hHeld => ?_)
  refine wpAnyH_take (i := 0) (oi := ?oiz49) (v := ?vz49) ?hiz49 (by kernel_rfl) (by kernel_rfl) (by kernel_rfl) ?hQz49 ?hyz49 (by assumption) ?restz49
  case hiz49 => simp only [List.getElem?_toArray, List.getElem?_cons_zero, List.getElem?_cons_succ]; rfl
  case hQz49 => exact fun _ _ _ h => h
  case hyz49 => exact Or.inl ⟨by rfl, by intro w hSw; (try dsimp only at hSw); go_simp; with_reducible rfl⟩
  try simp only [Act.put, List.setIfInBounds_toArray, List.set_cons_zero, List.set_cons_succ]
  refine wpAnyH_take (i := 1) (oi := ?oiz50) (v := ?vz50) ?hiz50 (by kernel_rfl) (by kernel_rfl) (by kernel_rfl) ?hQz50 ?hyz50 (by assumption) ?restz50
  case hiz50 => simp only [List.getElem?_toArray, List.getElem?_cons_zero, List.getElem?_cons_succ]; rfl
  case hQz50 => exact fun _ _ _ h => h
  case hyz50 => exact Or.inl ⟨by rfl, by intro w hSw; (try dsimp only at hSw); go_simp; with_reducible rfl⟩
  try simp only [Act.put, List.setIfInBounds_toArray, List.set_cons_zero, List.set_cons_succ]
  refine wpAnyH_take (i := 2) (oi := ?oiz51) (v := ?vz51) ?hiz51 (by kernel_rfl) (by kernel_rfl) (by kernel_rfl) ?hQz51 ?hyz51 (by assumption) ?restz51
  case hiz51 => simp only [List.getElem?_toArray, List.getElem?_cons_zero, List.getElem?_cons_succ]; rfl
  case hQz51 => exact fun _ _ _ h => h
  case hyz51 => exact Or.inl ⟨by rfl, by intro w hSw; (try dsimp only at hSw); go_simp; with_reducible rfl⟩
  try simp only [Act.put, List.setIfInBounds_toArray, List.set_cons_zero, List.set_cons_succ]
  refine wpAnyH_take (i := 3) (oi := ?oiz52) (v := (.agg (numsA .u8 y.r))) ?hiz52 (by kernel_rfl) (by kernel_rfl) (by kernel_rfl) ?hQz52 ?hyz52 (by assumption) ?restz52
  case hiz52 => simp only [List.getElem?_toArray, List.getElem?_cons_zero, List.getElem?_cons_succ]; rfl
  case hQz52 => exact fun _ _ _ h => h
  case hyz52 => refine yields_loadP7 B5.out aggKey hsr (Nd.right HYO.out) ?_ _ rfl rfl; rfl
  try simp only [Act.put, List.setIfInBounds_toArray, List.set_cons_zero, List.set_cons_succ]
  refine wpAnyH_ready (rs := [4]) (by kernel_rfl) (by simp) (AllReadyH.cons (o := ?oy534) ?hy534 (fun K hK => ?sy534) AllReadyH.nil)
  case hy534 => simp only [List.getElem?_toArray, List.getElem?_cons_zero, List.getElem?_cons_succ]; rfl
  go_simp
  refine (l04Empty_any _).mono ?_
  rintro e w4 ⟨rfl, hx⟩
  have hH2 := hHeld.trans hx
  refine hK.out _ _ hH2 (fun _ => ?_)
  clear hHeld hK K
  have hHeld := hH2
  clear hH2
  try simp only [Act.put, List.setIfInBounds_toArray, List.set_cons_zero, List.set_cons_succ]
  refine wpAnyH_take (i := 5) (oi := ?oiz54) (v := ?vz54) ?hiz54 (by kernel_rfl) (by kernel_rfl) (by kernel_rfl) ?hQz54 ?hyz54 (by assumption) ?restz54
  case hiz54 => simp only [List.getElem?_toArray, List.getElem?_cons_zero, List.getElem?_cons_succ]; rfl
  case hQz54 => exact fun _ _ _ h => h
  case hyz54 => exact Or.inl ⟨by rfl, by intro w hSw; (try dsimp only at hSw); go_simp; with_reducible rfl⟩
  try simp only [Act.put, List.setIfInBounds_toArray, List.set_cons_zero, List.set_cons_succ]
  refine wpAnyH_take (i := 6) (oi := ?oiz55) (v := ?vz55) ?hiz55 (by kernel_rfl) (by kernel_rfl) (by kernel_rfl) ?hQz55 ?hyz55 (by assumption) ?restz55
  case hiz55 => simp only [List.getElem?_toArray, List.getElem?_cons_zero, List.getElem?_cons_succ]; rfl
  case hQz55 => exact fun _ _ _ h => h
  case hyz55 => exact Or.inl ⟨by rfl, by intro w hSw; (try dsimp only at hSw); go_simp; with_reducible rfl⟩
  try simp only [Act.put, List.setIfInBounds_toArray, List.set_cons_zero, List.set_cons_succ]
  refine wpAnyH_done (by kernel_rfl) ?_ _
  replace HO := Lib.hid (HO.out.ext hHeld)
  replace B5 := Lib.hid (B5.out.ext hHeld)
  replace XW := Lib.hid (XW.out.trans hHeld)
  clear hHeld hx
  go_wp2
  go_ret
  exact ⟨_, rfl, by rw [← HYD.out, hol, hor]; simpa using HO.out, XW.out⟩
set_option maxHeartbeats 4000000 in
set_option maxRecDepth 100000 in
theorem sl5en (t : Int) (d : List Int) (A : Option Addr) (cap : Nat) (b : Nat) (w : World) (S : Nat → Prop) (h : RdL tByte w S (.slice A d.length cap) d) (hdl : d.length ≤ 1048576) (c0 : w.cell? ⟨b, 0, none⟩ = some (.int .u8 t)) (c1 : w.cell? ⟨b, 1, none⟩ = some (.slice A d.length cap)) (ht : t = 5) (hnd : ndB d = true) (hl0 : (ndX d).l = emptyL) (hr0 : (ndX d).r ≠ emptyL) :
    Calls Try.prog 74 #[.pointer (some ⟨b, 0, none⟩)] w fun e w' => ∃ v', e = .returned v' ∧ Own tKey 40 w' w.heap.size v' (one (ndX d).l ++ one (ndX d).r) ∧ Ext w w' := by
  have H := Lib.hid h
  subst ht
  clear h
  have c1a : ∀ z, (w.alloc z).cell? ⟨b, 1, none⟩ = some (.slice A d.length cap) := fun z => (ext_alloc w z).cell c1
  go_enter Try.func74, Try.ntmps74
  go_wp2_with fail
  refine (Calls.mono ((l04Read_all (.slice A d.length cap) d _ S (H.out.ext (by decide) (ext_alloc w _)) hdl)) ?_)
  rintro e w1 ⟨y, rfl, hy, hyb, hx⟩
  have hyd := hyb hnd
  rw [← hyd] at hl0 hr0
  have HYD := Lib.hid hyd
  rw [hnd]
  clear hyd
  have HST := Lib.hid (Nd.st hy)
  have hsz := HST.out.size
  have HYB := Lib.hid (hyb hnd)
  have HYO := Lib.hid hy
  have HO0 := Lib.hid ((Own.empty tKey w 40 w.heap.size (Nat.le_refl _)).ext hx)
  have HX := Lib.hid ((ext_alloc w (.cells #[] 40)).trans hx)
  clear hyb hy c1a
  go_wp2_with (refine wpl_storeNewB aggNode7 HST.out rfl rfl _ _ rfl rfl rfl rfl ?_)
  have B5 := Lib.hid (Blk.new w1 129 y.enc.toArray)
  have HO := Lib.hid (HO0.out.alloc (.cells y.enc.toArray 129))
  have XW := Lib.hid (HX.out.alloc (.cells y.enc.toArray 129))
  have hgw : w.heap.size + 1 ≤ w1.heap.size := by have := hx.size; simpa using this
  clear HX HO0 hx
  generalize hw2 : w1.alloc (.cells y.enc.toArray 129) = w2 at B5 HO XW ⊢
  clear hw2
  have hsl := sizeN (k := .u8) HYO.out.1.1
  have hsr := sizeN (k := .u8) HYO.out.2.1.1
  have hql : ∀ W, (binOp .neq 40 (.agg (numsA .u8 y.l)) (.agg (numsA .u8 emptyL))).run Try.prog W = .ok (.bool false) W := fun W => by
    have := run_neqKey y.l emptyL HYO.out.1 emptyL_ok W
    rw [decide_eq_true hl0] at this
    exact this
  have hol : one y.l = [] := if_pos hl0
  have hqr : ∀ W, (binOp .neq 40 (.agg (numsA .u8 y.r)) (.agg (numsA .u8 emptyL))).run Try.prog W = .ok (.bool true) W := fun W => by
    have := run_neqKey y.r emptyL HYO.out.2.1 emptyL_ok W
    rw [decide_eq_false hr0] at this
    exact this
  have hor : one y.r = [y.r] := if_neg hr0
  clear hl0 hr0
  have hgs : w.heap.size ≠ w1.heap.size := by omega
  refine wp_region_held_drew (S := fun W => Ext w2 W) (by kernel_rfl) (Ext.refl _).drew (fun hHeld => ?_)
  refine wpAnyH_take (i := 0) (oi := ?oiz56) (v := ?vz56) ?hiz56 (by kernel_rfl) (by kernel_rfl) (by kernel_rfl) ?hQz56 ?hyz56 (by assumption) ?restz56
  case hiz56 => simp only [List.getElem?_toArray, List.getElem?_cons_zero, List.getElem?_cons_succ]; rfl
  case hQz56 => exact fun _ _ _ h => h
  case hyz56 => exact Or.inl ⟨by rfl, by intro w hSw; (try dsimp only at hSw); go_simp; with_reducible rfl⟩
  try simp only [Act.put, List.setIfInBounds_toArray, List.set_cons_zero, List.set_cons_succ]
  refine wpAnyH_take (i := 1) (oi := ?oiz57) (v := ?vz57) ?hiz57 (by kernel_rfl) (by kernel_rfl) (by kernel_rfl) ?hQz57 ?hyz57 (by assumption) ?restz57
  case hiz57 => simp only [List.getElem?_toArray, List.getElem?_cons_zero, List.getElem?_cons_succ]; rfl
  case hQz57 => exact fun _ _ _ h => h
  case hyz57 => exact Or.inl ⟨by rfl, by intro w hSw; (try dsimp only at hSw); go_simp; with_reducible rfl⟩
  try simp only [Act.put, List.setIfInBounds_toArray, List.set_cons_zero, List.set_cons_succ]
  refine wpAnyH_take (i := 2) (oi := ?oiz58) (v := ?vz58) ?hiz58 (by kernel_rfl) (by kernel_rfl) (by kernel_rfl) ?hQz58 ?hyz58 (by assumption) ?restz58
  case hiz58 => simp only [List.getElem?_toArray, List.getElem?_cons_zero, List.getElem?_cons_succ]; rfl
  case hQz58 => exact fun _ _ _ h => h
  case hyz58 => exact Or.inl ⟨by rfl, by intro w hSw; (try dsimp only at hSw); go_simp; with_reducible rfl⟩
  try simp only [Act.put, List.setIfInBounds_toArray, List.set_cons_zero, List.set_cons_succ]
  refine wpAnyH_take (i := 3) (oi := ?oiz59) (v := (.agg (numsA .u8 y.l))) ?hiz59 (by kernel_rfl) (by kernel_rfl) (by kernel_rfl) ?hQz59 ?hyz59 (by assumption) ?restz59
  case hiz59 => simp only [List.getElem?_toArray, List.getElem?_cons_zero, List.getElem?_cons_succ]; rfl
  case hQz59 => exact fun _ _ _ h => h
  case hyz59 => refine yields_loadP7 B5.out aggKey hsl (Nd.left HYO.out) ?_ _ rfl rfl; rfl
  try simp only [Act.put, List.setIfInBounds_toArray, List.set_cons_zero, List.set_cons_succ]
  refine wpAnyH_ready (rs := [4]) (by kernel_rfl) (by simp) (AllReadyH.cons (o := ?oy604) ?hy604 (fun K hK => ?sy604) AllReadyH.nil)
  case hy604 => simp only [List.getElem?_toArray, List.getElem?_cons_zero, List.getElem?_cons_succ]; rfl
  go_simp
  refine (l04Empty_any _).mono ?_
  rintro e w3 ⟨rfl, hx⟩
  have hH2 := hHeld.trans hx
  refine hK.out _ _ hH2 (fun _ => ?_)
  clear hHeld hK K
  have hHeld := hH2
  clear hH2
  try simp only [Act.put, List.setIfInBounds_toArray, List.set_cons_zero, List.set_cons_succ]
  refine wpAnyH_take (i := 5) (oi := ?oiz61) (v := ?vz61) ?hiz61 (by kernel_rfl) (by kernel_rfl) (by kernel_rfl) ?hQz61 ?hyz61 (by assumption) ?restz61
  case hiz61 => simp only [List.getElem?_toArray, List.getElem?_cons_zero, List.getElem?_cons_succ]; rfl
  case hQz61 => exact fun _ _ _ h => h
  case hyz61 => exact Or.inl ⟨by rfl, by intro w hSw; (try dsimp only at hSw); go_simp; with_reducible rfl⟩
  try simp only [Act.put, List.setIfInBounds_toArray, List.set_cons_zero, List.set_cons_succ]
  refine wpAnyH_take (i := 6) (oi := ?oiz62) (v := ?vz62) ?hiz62 (by kernel_rfl) (by kernel_rfl) (by kernel_rfl) ?hQz62 ?hyz62 (by assumption) ?restz62
  case hiz62 => simp only [List.getElem?_toArray, List.getElem?_cons_zero, List.getElem?_cons_succ]; rfl
  case hQz62 => exact fun _ _ _ h => h
  case hyz62 => exact Or.inl ⟨by rfl, by intro w hSw; (try dsimp only at hSw); go_simp; with_reducible rfl⟩
  try simp only [Act.put, List.setIfInBounds_toArray, List.set_cons_zero, List.set_cons_succ]
  refine wpAnyH_done (by kernel_rfl) ?_ _
  replace HO := Lib.hid (HO.out.ext hHeld)
  replace B5 := Lib.hid (B5.out.ext hHeld)
  replace XW := Lib.hid (XW.out.trans hHeld)
  clear hHeld hx
  go_wp2
  refine wp_region_held_drew (S := fun W => Ext w3 W) (by kernel_rfl) (Ext.refl _).drew (fun hHeld => ?_)
  refine wpAnyH_take (i := 0) (oi := ?oiz63) (v := ?vz63) ?hiz63 (by kernel_rfl) (by kernel_rfl) (by kernel_rfl) ?hQz63 ?hyz63 (by assumption) ?restz63
  case hiz63 => simp only [List.getElem?_toArray, List.getElem?_cons_zero, List.getElem?_cons_succ]; rfl
  case hQz63 => exact fun _ _ _ h => h
  case hyz63 => exact Or.inl ⟨by rfl, by intro w hSw; (try dsimp only at hSw); go_simp; with_reducible rfl⟩
  try simp only [Act.put, List.setIfInBounds_toArray, List.set_cons_zero, List.set_cons_succ]
  refine wpAnyH_take (i := 1) (oi := ?oiz64) (v := ?vz64) ?hiz64 (by kernel_rfl) (by kernel_rfl) (by kernel_rfl) ?hQz64 ?hyz64 (by assumption) ?restz64
  case hiz64 => simp only [List.getElem?_toArray, List.getElem?_cons_zero, List.getElem?_cons_succ]; rfl
  case hQz64 => exact fun _ _ _ h => h
  case hyz64 => exact Or.inl ⟨by rfl, by intro w hSw; (try dsimp only at hSw); go_simp; with_reducible rfl⟩
  try simp only [Act.put, List.setIfInBounds_toArray, List.set_cons_zero, List.set_cons_succ]
  refine wpAnyH_take (i := 2) (oi := ?oiz65) (v := ?vz65) ?hiz65 (by kernel_rfl) (by kernel_rfl) (by kernel_rfl) ?hQz65 ?hyz65 (by assumption) ?restz65
  case hiz65 => simp only [List.getElem?_toArray, List.getElem?_cons_zero, List.getElem?_cons_succ]; rfl
  case hQz65 => exact fun _ _ _ h => h
  case hyz65 => exact Or.inl ⟨by rfl, by intro w hSw; (try dsimp only at hSw); go_simp; with_reducible rfl⟩
  try simp only [Act.put, List.setIfInBounds_toArray, List.set_cons_zero, List.set_cons_succ]
  refine wpAnyH_take (i := 3) (oi := ?oiz66) (v := (.agg (numsA .u8 y.r))) ?hiz66 (by kernel_rfl) (by kernel_rfl) (by kernel_rfl) ?hQz66 ?hyz66 (by assumption) ?restz66
  case hiz66 => simp only [List.getElem?_toArray, List.getElem?_cons_zero, List.getElem?_cons_succ]; rfl
  case hQz66 => exact fun _ _ _ h => h
  case hyz66 => refine yields_loadP7 B5.out aggKey hsr (Nd.right HYO.out) ?_ _ rfl rfl; rfl
  try simp only [Act.put, List.setIfInBounds_toArray, List.set_cons_zero, List.set_cons_succ]
  refine wpAnyH_ready (rs := [4]) (by kernel_rfl) (by simp) (AllReadyH.cons (o := ?oy674) ?hy674 (fun K hK => ?sy674) AllReadyH.nil)
  case hy674 => simp only [List.getElem?_toArray, List.getElem?_cons_zero, List.getElem?_cons_succ]; rfl
  go_simp
  refine (l04Empty_any _).mono ?_
  rintro e w4 ⟨rfl, hx⟩
  have hH2 := hHeld.trans hx
  refine hK.out _ _ hH2 (fun _ => ?_)
  clear hHeld hK K
  have hHeld := hH2
  clear hH2
  try simp only [Act.put, List.setIfInBounds_toArray, List.set_cons_zero, List.set_cons_succ]
  refine wpAnyH_take (i := 5) (oi := ?oiz68) (v := ?vz68) ?hiz68 (by kernel_rfl) (by kernel_rfl) (by kernel_rfl) ?hQz68 ?hyz68 (by assumption) ?restz68
  case hiz68 => simp only [List.getElem?_toArray, List.getElem?_cons_zero, List.getElem?_cons_succ]; rfl
  case hQz68 => exact fun _ _ _ h => h
  case hyz68 => exact Or.inl ⟨by rfl, by intro w hSw; (try dsimp only at hSw); go_simp; with_reducible rfl⟩
  try simp only [Act.put, List.setIfInBounds_toArray, List.set_cons_zero, List.set_cons_succ]
  refine wpAnyH_take (i := 6) (oi := ?oiz69) (v := ?vz69) ?hiz69 (by kernel_rfl) (by kernel_rfl) (by kernel_rfl) ?hQz69 ?hyz69 (by assumption) ?restz69
  case hiz69 => simp only [List.getElem?_toArray, List.getElem?_cons_zero, List.getElem?_cons_succ]; rfl
  case hQz69 => exact fun _ _ _ h => h
  case hyz69 => exact Or.inl ⟨by rfl, by intro w hSw; (try dsimp only at hSw); go_simp; with_reducible rfl⟩
  try simp only [Act.put, List.setIfInBounds_toArray, List.set_cons_zero, List.set_cons_succ]
  refine wpAnyH_done (by kernel_rfl) ?_ _
  replace HO := Lib.hid (HO.out.ext hHeld)
  replace B5 := Lib.hid (B5.out.ext hHeld)
  replace XW := Lib.hid (XW.out.trans hHeld)
  clear hHeld hx
  go_wp2_with (first | (refine wpl_loadP (off := 32) (sub := numsA .u8 y.r) B5.out aggKey hsr (Nd.right HYO.out) rfl _ rfl rfl ?_) | (at_builtin; rw [fold_fillA (numsA .u8 y.r) _ _ hsr rfl]; refine wpl_append rowKeyK rfl _ _ rfl (v := .slice (some ⟨w.heap.size, 0, none⟩) 0 0) rfl (HO.out.alloc _) _ _ rfl (A := some ⟨w4.heap.size, 0, none⟩) (ys := [y.r]) rfl (rd_one (T := tKey) w4 y.r HYO.out.2.1 _) (by intro z hz; obtain rfl := List.mem_singleton.1 hz; exact HYO.out.2.1) (by simp) (by have := XW.out.size; simp; omega) ?_; intro v9 w9 ho1 hg1 hat1; have HX9 := Lib.hid ((XW.out.alloc _).grown hg1 (fun q e => by have := ((HO.out.alloc (.cells (numsA .u8 y.r) 40)).base_le _ e).1; omega)); have HO9 := Lib.hid ho1; obtain ⟨C9, n9, c9, rfl⟩ := ho1.shape3; clear ho1 hg1 hat1))
  go_ret
  exact ⟨_, rfl, by rw [← HYD.out, hol, hor]; simpa using HO9.out, HX9.out⟩
set_option maxHeartbeats 4000000 in
set_option maxRecDepth 100000 in
theorem sl5ee (t : Int) (d : List Int) (A : Option Addr) (cap : Nat) (b : Nat) (w : World) (S : Nat → Prop) (h : RdL tByte w S (.slice A d.length cap) d) (hdl : d.length ≤ 1048576) (c0 : w.cell? ⟨b, 0, none⟩ = some (.int .u8 t)) (c1 : w.cell? ⟨b, 1, none⟩ = some (.slice A d.length cap)) (ht : t = 5) (hnd : ndB d = true) (hl0 : (ndX d).l = emptyL) (hr0 : (ndX d).r = emptyL) :
    Calls Try.prog 74 #[.pointer (some ⟨b, 0, none⟩)] w fun e w' => ∃ v', e = .returned v' ∧ Own tKey 40 w' w.heap.size v' (one (ndX d).l ++ one (ndX d).r) ∧ Ext w w' := by
  have H := Lib.hid h
  subst ht
  clear h
  have c1a : ∀ z, (w.alloc z).cell? ⟨b, 1, none⟩ = some (.slice A d.length cap) := fun z => (ext_alloc w z).cell c1
  go_enter Try.func74, Try.ntmps74
  go_wp2_with fail
  refine (Calls.mono ((l04Read_all (.slice A d.length cap) d _ S (H.out.ext (by decide) (ext_alloc w _)) hdl)) ?_)
  rintro e w1 ⟨y, rfl, hy, hyb, hx⟩
  have hyd := hyb hnd
  rw [← hyd] at hl0 hr0
  have HYD := Lib.hid hyd
  rw [hnd]
  clear hyd
  have HST := Lib.hid (Nd.st hy)
  have hsz := HST.out.size
  have HYB := Lib.hid (hyb hnd)
  have HYO := Lib.hid hy
  have HO0 := Lib.hid ((Own.empty tKey w 40 w.heap.size (Nat.le_refl _)).ext hx)
  have HX := Lib.hid ((ext_alloc w (.cells #[] 40)).trans hx)
  clear hyb hy c1a
  go_wp2_with (refine wpl_storeNewB aggNode7 HST.out rfl rfl _ _ rfl rfl rfl rfl ?_)
  have B5 := Lib.hid (Blk.new w1 129 y.enc.toArray)
  have HO := Lib.hid (HO0.out.alloc (.cells y.enc.toArray 129))
  have XW := Lib.hid (HX.out.alloc (.cells y.enc.toArray 129))
  have hgw : w.heap.size + 1 ≤ w1.heap.size := by have := hx.size; simpa using this
  clear HX HO0 hx
  generalize hw2 : w1.alloc (.cells y.enc.toArray 129) = w2 at B5 HO XW ⊢
  clear hw2
  have hsl := sizeN (k := .u8) HYO.out.1.1
  have hsr := sizeN (k := .u8) HYO.out.2.1.1
  have hql : ∀ W, (binOp .neq 40 (.agg (numsA .u8 y.l)) (.agg (numsA .u8 emptyL))).run Try.prog W = .ok (.bool false) W := fun W => by
    have := run_neqKey y.l emptyL HYO.out.1 emptyL_ok W
    rw [decide_eq_true hl0] at this
    exact this
  have hol : one y.l = [] := if_pos hl0
  have hqr : ∀ W, (binOp .neq 40 (.agg (numsA .u8 y.r)) (.agg (numsA .u8 emptyL))).run Try.prog W = .ok (.bool false) W := fun W => by
    have := run_neqKey y.r emptyL HYO.out.2.1 emptyL_ok W
    rw [decide_eq_true hr0] at this
    exact this
  have hor : one y.r = [] := if_pos hr0
  clear hl0 hr0
  have hgs : w.heap.size ≠ w1.heap.size := by omega
  refine wp_region_held_drew (S := fun W => Ext w2 W) (by kernel_rfl) (Ext.refl _).drew (fun hHeld => ?_)
  refine wpAnyH_take (i := 0) (oi := ?oiz70) (v := ?vz70) ?hiz70 (by kernel_rfl) (by kernel_rfl) (by kernel_rfl) ?hQz70 ?hyz70 (by assumption) ?restz70
  case hiz70 => simp only [List.getElem?_toArray, List.getElem?_cons_zero, List.getElem?_cons_succ]; rfl
  case hQz70 => exact fun _ _ _ h => h
  case hyz70 => exact Or.inl ⟨by rfl, by intro w hSw; (try dsimp only at hSw); go_simp; with_reducible rfl⟩
  try simp only [Act.put, List.setIfInBounds_toArray, List.set_cons_zero, List.set_cons_succ]
  refine wpAnyH_take (i := 1) (oi := ?oiz71) (v := ?vz71) ?hiz71 (by kernel_rfl) (by kernel_rfl) (by kernel_rfl) ?hQz71 ?hyz71 (by assumption) ?restz71
  case hiz71 => simp only [List.getElem?_toArray, List.getElem?_cons_zero, List.getElem?_cons_succ]; rfl
  case hQz71 => exact fun _ _ _ h => h
  case hyz71 => exact Or.inl ⟨by rfl, by intro w hSw; (try dsimp only at hSw); go_simp; with_reducible rfl⟩
  try simp only [Act.put, List.setIfInBounds_toArray, List.set_cons_zero, List.set_cons_succ]
  refine wpAnyH_take (i := 2) (oi := ?oiz72) (v := ?vz72) ?hiz72 (by kernel_rfl) (by kernel_rfl) (by kernel_rfl) ?hQz72 ?hyz72 (by assumption) ?restz72
  case hiz72 => simp only [List.getElem?_toArray, List.getElem?_cons_zero, List.getElem?_cons_succ]; rfl
  case hQz72 => exact fun _ _ _ h => h
  case hyz72 => exact Or.inl ⟨by rfl, by intro w hSw; (try dsimp only at hSw); go_simp; with_reducible rfl⟩
  try simp only [Act.put, List.setIfInBounds_toArray, List.set_cons_zero, List.set_cons_succ]
  refine wpAnyH_take (i := 3) (oi := ?oiz73) (v := (.agg (numsA .u8 y.l))) ?hiz73 (by kernel_rfl) (by kernel_rfl) (by kernel_rfl) ?hQz73 ?hyz73 (by assumption) ?restz73
  case hiz73 => simp only [List.getElem?_toArray, List.getElem?_cons_zero, List.getElem?_cons_succ]; rfl
  case hQz73 => exact fun _ _ _ h => h
  case hyz73 => refine yields_loadP7 B5.out aggKey hsl (Nd.left HYO.out) ?_ _ rfl rfl; rfl
  try simp only [Act.put, List.setIfInBounds_toArray, List.set_cons_zero, List.set_cons_succ]
  refine wpAnyH_ready (rs := [4]) (by kernel_rfl) (by simp) (AllReadyH.cons (o := ?oy744) ?hy744 (fun K hK => ?sy744) AllReadyH.nil)
  case hy744 => simp only [List.getElem?_toArray, List.getElem?_cons_zero, List.getElem?_cons_succ]; rfl
  go_simp
  refine (l04Empty_any _).mono ?_
  rintro e w3 ⟨rfl, hx⟩
  have hH2 := hHeld.trans hx
  refine hK.out _ _ hH2 (fun _ => ?_)
  clear hHeld hK K
  have hHeld := hH2
  clear hH2
  try simp only [Act.put, List.setIfInBounds_toArray, List.set_cons_zero, List.set_cons_succ]
  refine wpAnyH_take (i := 5) (oi := ?oiz75) (v := ?vz75) ?hiz75 (by kernel_rfl) (by kernel_rfl) (by kernel_rfl) ?hQz75 ?hyz75 (by assumption) ?restz75
  case hiz75 => simp only [List.getElem?_toArray, List.getElem?_cons_zero, List.getElem?_cons_succ]; rfl
  case hQz75 => exact fun _ _ _ h => h
  case hyz75 => exact Or.inl ⟨by rfl, by intro w hSw; (try dsimp only at hSw); go_simp; with_reducible rfl⟩
  try simp only [Act.put, List.setIfInBounds_toArray, List.set_cons_zero, List.set_cons_succ]
  refine wpAnyH_take (i := 6) (oi := ?oiz76) (v := ?vz76) ?hiz76 (by kernel_rfl) (by kernel_rfl) (by kernel_rfl) ?hQz76 ?hyz76 (by assumption) ?restz76
  case hiz76 => simp only [List.getElem?_toArray, List.getElem?_cons_zero, List.getElem?_cons_succ]; rfl
  case hQz76 => exact fun _ _ _ h => h
  case hyz76 => exact Or.inl ⟨by rfl, by intro w hSw; (try dsimp only at hSw); go_simp; with_reducible rfl⟩
  try simp only [Act.put, List.setIfInBounds_toArray, List.set_cons_zero, List.set_cons_succ]
  refine wpAnyH_done (by kernel_rfl) ?_ _
  replace HO := Lib.hid (HO.out.ext hHeld)
  replace B5 := Lib.hid (B5.out.ext hHeld)
  replace XW := Lib.hid (XW.out.trans hHeld)
  clear hHeld hx
  go_wp2
  refine wp_region_held_drew (S := fun W => Ext w3 W) (by kernel_rfl) (Ext.refl _).drew (fun hHeld => ?_)
  refine wpAnyH_take (i := 0) (oi := ?oiz77) (v := ?vz77) ?hiz77 (by kernel_rfl) (by kernel_rfl) (by kernel_rfl) ?hQz77 ?hyz77 (by assumption) ?restz77
  case hiz77 => simp only [List.getElem?_toArray, List.getElem?_cons_zero, List.getElem?_cons_succ]; rfl
  case hQz77 => exact fun _ _ _ h => h
  case hyz77 => exact Or.inl ⟨by rfl, by intro w hSw; (try dsimp only at hSw); go_simp; with_reducible rfl⟩
  try simp only [Act.put, List.setIfInBounds_toArray, List.set_cons_zero, List.set_cons_succ]
  refine wpAnyH_take (i := 1) (oi := ?oiz78) (v := ?vz78) ?hiz78 (by kernel_rfl) (by kernel_rfl) (by kernel_rfl) ?hQz78 ?hyz78 (by assumption) ?restz78
  case hiz78 => simp only [List.getElem?_toArray, List.getElem?_cons_zero, List.getElem?_cons_succ]; rfl
  case hQz78 => exact fun _ _ _ h => h
  case hyz78 => exact Or.inl ⟨by rfl, by intro w hSw; (try dsimp only at hSw); go_simp; with_reducible rfl⟩
  try simp only [Act.put, List.setIfInBounds_toArray, List.set_cons_zero, List.set_cons_succ]
  refine wpAnyH_take (i := 2) (oi := ?oiz79) (v := ?vz79) ?hiz79 (by kernel_rfl) (by kernel_rfl) (by kernel_rfl) ?hQz79 ?hyz79 (by assumption) ?restz79
  case hiz79 => simp only [List.getElem?_toArray, List.getElem?_cons_zero, List.getElem?_cons_succ]; rfl
  case hQz79 => exact fun _ _ _ h => h
  case hyz79 => exact Or.inl ⟨by rfl, by intro w hSw; (try dsimp only at hSw); go_simp; with_reducible rfl⟩
  try simp only [Act.put, List.setIfInBounds_toArray, List.set_cons_zero, List.set_cons_succ]
  refine wpAnyH_take (i := 3) (oi := ?oiz80) (v := (.agg (numsA .u8 y.r))) ?hiz80 (by kernel_rfl) (by kernel_rfl) (by kernel_rfl) ?hQz80 ?hyz80 (by assumption) ?restz80
  case hiz80 => simp only [List.getElem?_toArray, List.getElem?_cons_zero, List.getElem?_cons_succ]; rfl
  case hQz80 => exact fun _ _ _ h => h
  case hyz80 => refine yields_loadP7 B5.out aggKey hsr (Nd.right HYO.out) ?_ _ rfl rfl; rfl
  try simp only [Act.put, List.setIfInBounds_toArray, List.set_cons_zero, List.set_cons_succ]
  refine wpAnyH_ready (rs := [4]) (by kernel_rfl) (by simp) (AllReadyH.cons (o := ?oy814) ?hy814 (fun K hK => ?sy814) AllReadyH.nil)
  case hy814 => simp only [List.getElem?_toArray, List.getElem?_cons_zero, List.getElem?_cons_succ]; rfl
  go_simp
  refine (l04Empty_any _).mono ?_
  rintro e w4 ⟨rfl, hx⟩
  have hH2 := hHeld.trans hx
  refine hK.out _ _ hH2 (fun _ => ?_)
  clear hHeld hK K
  have hHeld := hH2
  clear hH2
  try simp only [Act.put, List.setIfInBounds_toArray, List.set_cons_zero, List.set_cons_succ]
  refine wpAnyH_take (i := 5) (oi := ?oiz82) (v := ?vz82) ?hiz82 (by kernel_rfl) (by kernel_rfl) (by kernel_rfl) ?hQz82 ?hyz82 (by assumption) ?restz82
  case hiz82 => simp only [List.getElem?_toArray, List.getElem?_cons_zero, List.getElem?_cons_succ]; rfl
  case hQz82 => exact fun _ _ _ h => h
  case hyz82 => exact Or.inl ⟨by rfl, by intro w hSw; (try dsimp only at hSw); go_simp; with_reducible rfl⟩
  try simp only [Act.put, List.setIfInBounds_toArray, List.set_cons_zero, List.set_cons_succ]
  refine wpAnyH_take (i := 6) (oi := ?oiz83) (v := ?vz83) ?hiz83 (by kernel_rfl) (by kernel_rfl) (by kernel_rfl) ?hQz83 ?hyz83 (by assumption) ?restz83
  case hiz83 => simp only [List.getElem?_toArray, List.getElem?_cons_zero, List.getElem?_cons_succ]; rfl
  case hQz83 => exact fun _ _ _ h => h
  case hyz83 => exact Or.inl ⟨by rfl, by intro w hSw; (try dsimp only at hSw); go_simp; with_reducible rfl⟩
  try simp only [Act.put, List.setIfInBounds_toArray, List.set_cons_zero, List.set_cons_succ]
  refine wpAnyH_done (by kernel_rfl) ?_ _
  replace HO := Lib.hid (HO.out.ext hHeld)
  replace B5 := Lib.hid (B5.out.ext hHeld)
  replace XW := Lib.hid (XW.out.trans hHeld)
  clear hHeld hx
  go_wp2
  go_ret
  exact ⟨_, rfl, by rw [← HYD.out, hol, hor]; simpa using HO.out, XW.out⟩
end Go.Proofs.Yteegnbdgfedajaa
/- The links of a blob: the reference, whole. No condition. -/
namespace Go.Proofs.Yteegnbdgfedajaa
open Go.RowKit
set_option linter.unusedVariables false
set_option linter.unusedSimpArgs false

theorem lkN_of {d : List Int} (h : B8 d) : gI d 0 = ((lkN d : Nat) : Int) ∧ lkN d ≤ 255 := by have := h.get 0; unfold lkN; omega
theorem l05Links_any (t : Int) (d : List Int) (A : Option Addr) (cap : Nat) (b : Nat) (w : World) (S : Nat → Prop) (h : RdL tByte w S (.slice A d.length cap) d) (hdl : d.length ≤ 1048576) (c0 : w.cell? ⟨b, 0, none⟩ = some (.int .u8 t)) (c1 : w.cell? ⟨b, 1, none⟩ = some (.slice A d.length cap)) :
    Calls Try.prog 74 #[.pointer (some ⟨b, 0, none⟩)] w fun e w' => ∃ v', e = .returned v' ∧ Own tKey 40 w' w.heap.size v' (linksR t d) ∧ Ext w w' := by
  have hB : B8 d := h.choose_spec.choose_spec.2.2.2.2
  have hn := lkN_of hB
  rw [linksR_eq]
  by_cases h2 : t = 2
  · rw [if_pos h2]
    by_cases hl : d.length = 64
    · rw [if_pos hl]; exact sl2 t d A cap b w S h hdl c0 c1 h2 hl
    · rw [if_neg hl]; exact sl2n t d A cap b w S h hdl c0 c1 h2 hl
  rw [if_neg h2]
  by_cases h5 : t = 5
  · rw [if_pos h5]
    cases hd : ndB d with
    | false => exact sl5n t d A cap b w S h hdl c0 c1 h5 hd
    | true =>
      rw [if_pos rfl]
      by_cases h3 : (ndX d).l = emptyL <;> by_cases h4 : (ndX d).r = emptyL
      · exact sl5ee t d A cap b w S h hdl c0 c1 h5 hd h3 h4
      · exact sl5en t d A cap b w S h hdl c0 c1 h5 hd h3 h4
      · exact sl5ne t d A cap b w S h hdl c0 c1 h5 hd h3 h4
      · exact sl5nn t d A cap b w S h hdl c0 c1 h5 hd h3 h4
  rw [if_neg h5]
  by_cases h6 : t = 6
  · rw [if_pos h6]
    by_cases hl : d.length % 32 = 0
    · rw [if_pos hl]; exact sl6 t d A cap b w S h hdl c0 c1 h6 hl
    · rw [if_neg hl]; exact sl6n t d A cap b w S h hdl c0 c1 h6 hl
  rw [if_neg h6]
  by_cases h7 : t = 7
  · rw [if_pos h7]
    by_cases h0 : d.length = 0
    · rw [if_neg (by omega)]; exact sl7e t d A cap b w S h hdl c0 c1 h7 h0
    · by_cases h4 : 1 + 32 * lkN d ≤ d.length
      · rw [if_pos ⟨by omega, h4⟩]; exact sl7 t d A cap b w S h hdl c0 c1 h7 (lkN d) hn.1 hn.2 (by omega) h4
      · rw [if_neg (by omega)]; exact sl7n t d A cap b w S h hdl c0 c1 h7 (lkN d) hn.1 hn.2 (by omega) (by omega)
  rw [if_neg h7]
  exact sl0 t d A cap b w S h hdl c0 c1 h2 h5 h6 h7
/-- the links of a blob, and a code -/
@[irreducible] def lofR (x : Int × List Int) : List (List Int) × Int := if x.2.length ≤ 1024 then (linksR x.1 x.2, 0) else ([], 1)
theorem lofR_eq (x : Int × List Int) : lofR x = if x.2.length ≤ 1024 then (linksR x.1 x.2, 0) else ([], 1) := by rw [lofR]
set_option maxHeartbeats 1000000 in
set_option maxRecDepth 100000 in
theorem specLinksOf_u (cs : Array Value) (x : Int × List Int) (w : World) (S : Nat → Prop) (h : RBlob w S cs x) :
    Calls Try.prog 35 #[.agg cs] w fun e w' => ∃ v', e = .returned (.tuple #[v', .int .i64 (lofR x).2]) ∧ Own tKey 40 w' w.heap.size v' (lofR x).1 ∧ Ext w w' := by
  rw [lofR_eq]
  obtain ⟨t, d⟩ := x
  obtain ⟨v, rfl, hr, ht⟩ := h
  obtain ⟨A, cap, rfl, hcap, hlen, _⟩ := id hr
  dsimp only at hr hcap hlen ⊢
  have B0 := Lib.hid (Blk.new w 65 #[.int .u8 t, .slice A d.length cap])
  have hb := l05Blob_any A d.length cap (w.alloc (.cells #[.int .u8 t, .slice A d.length cap] 65)) w.heap.size (B0.out.at_ 1 rfl)
  by_cases h1 : d.length ≤ 1024
  · rw [if_pos h1]
    rw [decide_eq_true h1] at hb
    have HB := Lib.hid hb
    have HC := Lib.hid (l05Links_any t d A cap w.heap.size (w.alloc (.cells #[.int .u8 t, .slice A d.length cap] 65)) S (hr.ext (by decide) (ext_alloc _ _)) (by omega) (B0.out.at_ 0 rfl) (B0.out.at_ 1 rfl))
    clear hb hr h1
    go_enter Try.func35, Try.ntmps35
    go_wp2_with fail
    refine HB.out.mono ?_
    rintro e w1 ⟨rfl, rfl⟩
    go_wp2_with fail
    refine HC.out.mono ?_
    rintro e w1 ⟨v', rfl, ho, hx⟩
    obtain ⟨C, cn, cc, rfl⟩ := ho.shape3
    have HO := Lib.hid ho
    have HX := Lib.hid ((ext_alloc w _).trans hx)
    clear ho hx
    go_wp2
    go_ret2
    exact ⟨_, rfl, HO.out.le (by simp), HX.out⟩
  · rw [if_neg h1]
    rw [decide_eq_false h1] at hb
    have HB := Lib.hid hb
    clear hb hr h1
    go_enter Try.func35, Try.ntmps35
    go_wp2_with fail
    refine HB.out.mono ?_
    rintro e w1 ⟨rfl, rfl⟩
    go_wp2_with fail
    go_ret2
    exact ⟨_, rfl, Own.empty' tKey (g := w.heap.size + 1) (w := w.alloc (.cells #[.int .u8 t, .slice A d.length cap] 65)) (by simp) 40 w.heap.size (by simp), (ext_alloc _ _).alloc _⟩
end Go.Proofs.Yteegnbdgfedajaa
