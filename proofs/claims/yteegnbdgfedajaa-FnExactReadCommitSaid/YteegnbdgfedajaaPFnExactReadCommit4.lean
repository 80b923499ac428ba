/- What the walk of the law FnExactReadCommit needs, part 4 of 4. No condition. -/
import Derived.Laws.BytesArg
import Derived.Deep.RegionWith
import Derived.BigFrame
import Derived.Test.YteegnbdgfedajaaPFnExactReadCommit3
/- The program of a delta: the reference. No condition. -/
namespace Go.Proofs.Yteegnbdgfedajaa
open Go.RowKit
set_option linter.unusedVariables false
set_option linter.unusedSimpArgs false

theorem Own.rd_at {α : Type} {T : Ty α} {e : TypeId} {w : World} {base : Nat} {v : Value} {xs : List α} (h : Own T e w base v xs) : RdL T w (fun g => some g = v.ownBlock ∧ g < w.heap.size) v xs := by
  obtain ⟨⟨hl, hx⟩, h2, h3⟩ := h
  rcases hx with ⟨rfl, h0⟩ | ⟨g, cap, cur, rfl, hb, hg, hc, hm, hs, ht⟩
  · obtain rfl : xs = [] := List.eq_nil_of_length_eq_zero h0
    exact ⟨none, 0, rfl, Nat.le_refl _, by simp, Rd.nil _ _ _ _, h3⟩
  · refine ⟨_, cap, rfl, hc, h2, ⟨hl, fun hn => ⟨g, 0, rfl, ⟨rfl, (Array.getElem?_eq_some_iff.1 hg).1⟩, fun j u hu => ?_⟩⟩, h3⟩
    rw [Nat.zero_add, cell_of_row w g j cur e (0, 0) hg]
    rw [← ht, List.getElem?_take] at hu
    split at hu
    · simpa using hu
    · cases hu
/-- what is left behind the first j -/
theorem rdl_cut {w : World} {S : Nat → Prop} {g o cap n : Nat} {B : List Int} (h : Rd w S 1 (some ⟨g, o, none⟩) n (nums .u8 B)) (hok : B8 B) (hc : B.length ≤ cap) (hl : B.length ≤ 140737488355328) (j : Nat) (hj : j ≤ B.length) : RdL tByte w S (.slice (some ⟨g, o + j, none⟩) (B.length - j) (cap - j)) (B.drop j) := by
  have h1 := h.sub8 j (B.length - j) (by omega)
  have e : (B.drop j).take (B.length - j) = B.drop j := List.take_of_length_le (by simp)
  rw [e] at h1
  refine ⟨_, cap - j, by rw [List.length_drop], by rw [List.length_drop]; omega, by rw [List.length_drop]; omega, h1, fun x hx => hok x (List.mem_of_mem_drop hx)⟩
theorem rd_four (w : World) (x y z u : Int) (t : TypeId) : Rd (w.alloc (.cells #[.int .u8 x, .int .u8 y, .int .u8 z, .int .u8 u] t)) (fun _ => True) tByte.sz (some ⟨w.heap.size, 0, none⟩) [x, y, z, u].length ([x, y, z, u].flatMap tByte.enc) := by
  refine ⟨rfl, fun _ => ⟨_, 0, rfl, trivial, fun j q hu => ?_⟩⟩
  rw [Nat.zero_add, (Blk.new w t _).cell]
  have e : ([x, y, z, u].flatMap tByte.enc) = [.int .u8 x, .int .u8 y, .int .u8 z, .int .u8 u] := rfl
  rw [e] at hu
  simpa using hu
theorem rd_four' {w : World} {g : Nat} (hg : g = w.heap.size) (x y z u : Int) (t : TypeId) : Rd (w.alloc (.cells #[.int .u8 x, .int .u8 y, .int .u8 z, .int .u8 u] t)) (fun _ => True) tByte.sz (some ⟨g, 0, none⟩) [x, y, z, u].length ([x, y, z, u].flatMap tByte.enc) := by
  subst hg
  exact rd_four w x y z u t
theorem ok4 {x y z u : Int} (hx : 0 ≤ x ∧ x ≤ 255) (hy : 0 ≤ y ∧ y ≤ 255) (hz : 0 ≤ z ∧ z ≤ 255) (hu : 0 ≤ u ∧ u ≤ 255) : ∀ q ∈ [x, y, z, u], tByte.ok q := by
  intro q hq
  simp at hq
  rcases hq with rfl | rfl | rfl | rfl <;> assumption
set_option maxHeartbeats 4000000 in
set_option maxRecDepth 100000 in
theorem l06Delta_any (v u : Value) (B D : List Int) (w : World) (S S' : Nat → Prop) (h : RdL tByte w S v B) (h' : RdL tByte w S' u D) (hBl : B.length ≤ 1024) (hDl : D.length ≤ 1024) :
    Calls Try.prog 43 #[v, u] w fun e w' => ∃ v', e = .returned (.tuple #[v', .bool (decide (((dltL B D).length : Int) ≤ 1024))]) ∧ Own tByte 5 w' w.heap.size v' (dltL B D) ∧ Ext w w' := by
  obtain ⟨A, cap, rfl, hcap, hlen, hrd, hok⟩ := h
  obtain ⟨A', cap', rfl, hcap', hlen', hrd', hok'⟩ := h'
  have Hrd := Lib.hid (show Rd w S 1 A B.length (nums .u8 B) by rw [← flat_bytes]; exact hrd)
  have Hrd' := Lib.hid (show Rd w S' 1 A' D.length (nums .u8 D) by rw [← flat_bytes]; exact hrd')
  have Hok := Lib.hid (show B8 B from hok)
  have Hok' := Lib.hid (show B8 D from hok')
  clear hrd hrd' hok hok'
  go_enter Try.func43, Try.ntmps43
  go_wp2_with fail
  go_loopw [6, 7, 8] (fun o hv i wr => ∃ (k : Nat) (O H : List Int) (f : Nat), k ≤ D.length ∧ i = .int .i64 k ∧ dltL B D = dlt B f (D.drop k) H O ∧ D.length - k ≤ f ∧ O.length + 3 * H.length ≤ 4 * k ∧ H.length ≤ k ∧ B8 H ∧ Own tByte 5 wr w.heap.size o O ∧ Own tByte 5 wr w.heap.size hv H ∧ o.ownBlock ≠ hv.ownBlock ∧ Ext w wr)
    (fun _ _ i _ => D.length - (intOf i).toNat)
  case atStart => exact ⟨0, [], [], D.length, by omega, rfl, rfl, by omega, by decide, by decide, fun x hx => by simp at hx, (Own.empty _ _ _ _ (Nat.le_refl _)).alloc _, Own.of_blk8 (g := w.heap.size + 1) (xs := []) (Blk.new' (g := w.heap.size + 1) (w := w.alloc _) (by simp) 5 #[]) (by omega) (by simp) (fun x hx => by simp at hx), by simp [Value.ownBlock], (ext_alloc _ _).alloc _⟩
  case round =>
    obtain ⟨k, O, H, f, hk, rfl, hF, hf, hol, hHk, hB8, hO, hH, hne, hX⟩ := hrel
    obtain ⟨wo, hwo⟩ : ∃ wo, wo = wr := ⟨_, rfl⟩
    subst hwo
    obtain ⟨O1, on, oc, rfl⟩ := hO.shape3
    obtain ⟨H1, hn, hc, rfl⟩ := hH.shape3
    have HF := Lib.hid hF
    have HO := Lib.hid hO
    have HH := Lib.hid hH
    have HN := Lib.hid hne
    have HX := Lib.hid hX
    have HB8 := Lib.hid hB8
    clear hF hO hH hne hX hB8
    by_cases hlt : k < D.length
    rotate_left
    · obtain rfl : k = D.length := by omega
      have hend := HF.out
      rw [List.drop_length, dlt_end] at hend
      have HE := Lib.hid hend
      have hpl := l06Plain_any _ _ O H wo w.heap.size _ HO.out HH.out.rd_at (fun g hg => ⟨fun e => HN.out (e.symm.trans hg.1 |> fun q => q), hg.2⟩) HX.out.size (by omega) (by omega)
      have HP := Lib.hid hpl
      clear hend hpl
      go_wp2_with fail
      refine HP.out.mono ?_
      rintro e w1 ⟨v1, rfl, ho1, hg1⟩
      rw [← HE.out] at ho1
      obtain ⟨C1, hCl⟩ := ho1.shape
      obtain ⟨cc1, rfl⟩ := hCl
      have HO1 := Lib.hid ho1
      have HX1 := Lib.hid (HX.out.grown hg1.g (fun q hq => (HO.out.base_le q hq).1))
      clear ho1 hg1
      go_wp2_with fail
      go_ret2
      exact ⟨_, rfl, HO1.out, HX1.out⟩
    obtain ⟨f, rfl⟩ : ∃ f', f = f' + 1 := ⟨f - 1, by omega⟩
    obtain ⟨g', o', rfl, hs', hcd⟩ := (Hrd'.out).byte k hlt
    have hcapk : ¬ cap' = k := by omega
    have hi1 : (0 : Int) ≤ (k : Int) := by omega
    have hi2 : (k : Int) ≤ (cap' : Int) := by omega
    have hi3 : (k : Int) ≤ (D.length : Int) := by omega
    go_wp2_with fail
    go_loopw [9, 10, 11] (fun b p i w2 => ∃ j : Nat, j ≤ B.length ∧ i = .int .i64 j ∧ b = .int .i64 ((bestK B (D.drop k) j).2 : Nat) ∧ p = .int .i64 ((bestK B (D.drop k) j).1 : Nat) ∧ Drawn wo w2) (fun _ _ i _ => B.length - (intOf i).toNat)
    case atStart => exact ⟨0, by omega, rfl, rfl, rfl, Drawn.refl _⟩
    case round =>
      obtain ⟨j, hj, rfl, rfl, rfl, hD⟩ := hrel
      have HD := Lib.hid hD
      clear hD
      by_cases hltj : j < B.length
      · obtain ⟨g, o, hA, hs, hc0⟩ := (Hrd.out).byte j hltj
        subst hA
        clear hc0
        have hcapj : ¬ cap = j := by omega
        have hj1 : (0 : Int) ≤ (j : Int) := by omega
        have hj2 : (j : Int) ≤ (cap : Int) := by omega
        have hj3 : (j : Int) ≤ (B.length : Int) := by omega
        have HBK := Lib.hid (show bestK B (D.drop k) (j + 1) = if (bestK B (D.drop k) j).2 < mat 255 (B.drop j) (D.drop k) then (j, mat 255 (B.drop j) (D.drop k)) else bestK B (D.drop k) j from rfl)
        have hcall := fun n => l06Match_any _ _ (B.drop j) (D.drop k) (wr.drewN n) S S' ((rdl_cut Hrd.out Hok.out hcap hlen j hj).ext (by decide) ((HX.out.trans HD.out.ext).drewN n)) ((rdl_cut Hrd'.out Hok'.out hcap' hlen' k hk).ext (by decide) ((HX.out.trans HD.out.ext).drewN n))
        have hmm := (mat_le 255 (B.drop j) (D.drop k)).1
        generalize mat 255 (B.drop j) (D.drop k) = m at hcall HBK hmm
        have HC := Lib.hid hcall
        clear hcall
        by_cases hm : (bestK B (D.drop k) j).2 < m
        · have HB1 := Lib.hid (show (bestK B (D.drop k) (j + 1)) = (j, m) by rw [HBK.out, if_pos hm])
          generalize bestK B (D.drop k) j = q at hm HBK ⊢
          obtain ⟨q1, q2⟩ := q
          dsimp only at hm ⊢
          go_wp2_with fail
          go_quiet ((go_at_call 77; exact Calls.quiet_of (HC.out _)))
          go_wp2_with fail
          go_roundw
          case rel => exact ⟨j + 1, by omega, by go_num, by rw [HB1.out], by rw [HB1.out], HD.out.drewN _⟩
          case measure => simp [intOf]; omega
        · have HB1 := Lib.hid (show (bestK B (D.drop k) (j + 1)) = bestK B (D.drop k) j by rw [HBK.out, if_neg hm])
          generalize bestK B (D.drop k) j = q at hm HBK HB1 ⊢
          obtain ⟨q1, q2⟩ := q
          dsimp only at hm ⊢
          go_wp2_with fail
          go_quiet ((go_at_call 77; exact Calls.quiet_of (HC.out _)))
          go_wp2_with fail
          go_roundw
          case rel => exact ⟨j + 1, by omega, by go_num, by rw [HB1.out], by rw [HB1.out], HD.out.drewN _⟩
          case measure => simp [intOf]; omega
      · obtain rfl : j = B.length := by omega
        have hbo := bestK_ok B (D.drop k) B.length (Nat.le_refl _)
        have HHD := Lib.hid (fun hb => dlt_hold B f (D.drop k) H O (by simp; omega) hb)
        have HCP := Lib.hid (fun hb => dlt_copy B f (D.drop k) H O (by simp; omega) hb)
        have hml := fun i => mat_le 255 (B.drop i) (D.drop k)
        generalize bestK B (D.drop k) B.length = q at hbo HHD HCP ⊢
        obtain ⟨p, m⟩ := q
        dsimp only at hbo HHD HCP ⊢
        have hpm : p ≤ B.length ∧ m ≤ 255 ∧ m ≤ D.length - k := by
          have h1 := hml p
          rw [List.length_drop, List.length_drop] at h1
          rcases hbo with h | h
          · omega
          · omega
        clear hbo hml
        have HX1 := Lib.hid (HX.out.trans HD.out.ext)
        have HO1 := Lib.hid (HO.out.ext HD.out.ext)
        have HH1 := Lib.hid (HH.out.ext HD.out.ext)
        have hcd1 := HX1.out.cell hcd
        have hd255 := B8.get Hok'.out k
        clear hcd
        by_cases h8 : m < 8
        · have HST := Lib.hid (HHD.out h8)
          have h8I : (m : Int) < 8 := by omega
          clear HHD HCP
          go_wp2_with (at_builtin; refine wpl_append rowByte rfl _ _ rfl (v := .slice H1 hn hc) rfl (HH1.out.alloc _) _ _ rfl (A := some ⟨wr.heap.size, 0, none⟩) (ys := [gI D k]) rfl (rd_byte wr (gI D k) (by omega) _) (okOne (by omega)) (by simp; omega) (HX1.out.alloc _).size ?_; intro v9 w9 ho9 hg9 hat9; have HX9 := Lib.hid ((HH1.out.alloc _).ext_app (HX1.out.alloc _) hg9); have HG9 := Lib.hid ((Go1.ext (v := .slice H1 hn hc) (ext_alloc _ _) rfl).trans (Go1.app hg9 hat9)); have HH9 := Lib.hid ho9; obtain ⟨H2, hn2, hc2, rfl⟩ := ho9.shape3; clear ho9 hg9 hat9)
          go_roundw
          case rel => exact ⟨k + 1, O, H ++ [gI D k], f, by omega, by go_num, by rw [HF.out, HST.out, List.drop_drop, gI_drop]; rfl, by omega, by simp; omega, by simp; omega, fun x hx => by
            rcases List.mem_append.1 hx with hx | hx
            · exact HB8.out x hx
            · simp at hx; subst hx; exact hd255, HO1.out.kept HG9.out.g (.inr HN.out), HH9.out, by
              rcases HG9.out.at_ with e | ⟨q, e, hq⟩
              · rw [e]; exact HN.out
              · rw [e]; intro e2; have := (HO1.out.base_le _ e2).2; omega, HX9.out⟩
          case measure => simp [intOf]; omega
        · have HST := Lib.hid (HCP.out h8)
          have h8I : ¬ (m : Int) < 8 := by omega
          have hpl := l06Plain_any _ _ O H wr w.heap.size _ HO1.out HH1.out.rd_at (fun g hg => ⟨fun e => HN.out (e.symm.trans hg.1), hg.2⟩) HX1.out.size (by omega) (by omega)
          have HP := Lib.hid hpl
          clear HHD HCP hpl
          go_wp2_with fail
          refine HP.out.mono ?_
          rintro e w1 ⟨v1, rfl, ho1, hg1⟩
          obtain ⟨C1, cn1, cc1, rfl⟩ := ho1.shape3
          have HO2 := Lib.hid ho1
          have HX2 := Lib.hid (HX1.out.grown hg1.g (fun q hq => (HO1.out.base_le q hq).1))
          clear ho1 hg1 HP
          have e1 : ((p % 256 : Nat) : Int) = (p : Int) % 256 := by omega
          have e2 : ((p / 256 : Nat) : Int) = (p : Int) / 256 := by omega
          have HST2 := Lib.hid (show dlt B (f + 1) (D.drop k) H O = dlt B f ((D.drop k).drop m) [] (O ++ chk H.length H ++ [1, (p : Int) % 256, (p : Int) / 256, (m : Int)]) by rw [HST.out, e1, e2])
          have HCL := Lib.hid (chk_len H.length H)
          have hcl := HCL.out
          have HNE := Lib.hid (show ∀ q, (Value.slice C1 cn1 cc1).ownBlock = some q → q < w1.heap.size from fun q hq => (HO2.out.base_le q hq).2)
          clear e1 e2 HST
          go_wp2_with (at_builtin; refine wpl_append rowByte rfl _ _ rfl (v := .slice C1 cn1 cc1) rfl ((HO2.out.alloc _).alloc _) _ _ rfl (A := some ⟨w1.heap.size + 1, 0, none⟩) (ys := [1, (p : Int) % 256, (p : Int) / 256, (m : Int)]) rfl (rd_four' (by simp) 1 _ _ _ _) (ok4 (by omega) (by omega) (by omega) (by omega)) (by simp; omega) ((HX2.out.alloc _).alloc _).size ?_; intro v9 w9 ho9 hg9 hat9; have HX9 := Lib.hid (((HO2.out.alloc _).alloc _).ext_app ((HX2.out.alloc _).alloc _) hg9); have HH9 := Lib.hid (((Own.empty tByte w1 5 w.heap.size HX2.out.size).alloc _).kept hg9 (.inr fun e => absurd (HNE.out _ e.symm) (Nat.lt_irrefl _))); have HG9 := Lib.hid (Go1.app hg9 hat9); have HO9 := Lib.hid ho9; obtain ⟨O2, on2, oc2, rfl⟩ := ho9.shape3; clear ho9 hg9 hat9)
          go_roundw
          case rel => exact ⟨k + m, _, [], f, by omega, by go_num, by rw [HF.out, HST2.out, List.drop_drop], by omega, by simp; omega, by simp, fun x hx => by simp at hx, HO9.out, HH9.out, by
            rcases HG9.out.at_ with e | ⟨q, e, hq⟩
            · rw [e]; exact fun e2 => absurd (HNE.out _ e2) (Nat.lt_irrefl _)
            · rw [e]; intro e2; have h3 : q = w1.heap.size := Option.some.inj e2; simp at hq; omega, HX9.out⟩
          case measure => simp [intOf]; omega
set_option maxHeartbeats 1000000 in
set_option maxRecDepth 100000 in
theorem specDeltaOf_any (v u : Value) (B D : List Int) (w : World) (S S' : Nat → Prop) (h : RdL tByte w S v B) (h' : RdL tByte w S' u D) :
    Calls Try.prog 9 #[v, u] w fun e w' => ∃ v', e = .returned (.tuple #[v', .int .i64 (deltaR B D).2]) ∧ Own tByte 5 w' w.heap.size v' (deltaR B D).1 ∧ Ext w w' := by
  have H := Lib.hid h
  have H' := Lib.hid h'
  obtain ⟨A, cap, rfl, hcap, hlen, _⟩ := h
  obtain ⟨A', cap', rfl, hcap', hlen', _⟩ := h'
  unfold deltaR
  by_cases h1 : 1024 < B.length
  · rw [if_pos (.inl h1)]
    have h1' : (1024 : Int) < (B.length : Int) := by omega
    go_enter Try.func9, Try.ntmps9
    go_wp2_with fail
    go_ret2
    exact ⟨_, rfl, Own.empty _ _ _ _ (Nat.le_refl _), ext_alloc _ _⟩
  by_cases h2 : 1024 < D.length
  · rw [if_pos (.inr h2)]
    have h2' : (1024 : Int) < (D.length : Int) := by omega
    have h1' : ¬ (1024 : Int) < (B.length : Int) := by omega
    go_enter Try.func9, Try.ntmps9
    go_wp2_with fail
    go_ret2
    exact ⟨_, rfl, Own.empty _ _ _ _ (Nat.le_refl _), ext_alloc _ _⟩
  rw [if_neg (by omega)]
  have h2' : ¬ (1024 : Int) < (D.length : Int) := by omega
  have h1' : ¬ (1024 : Int) < (B.length : Int) := by omega
  have hc := l06Delta_any _ _ B D w S S' H.out H'.out (by omega) (by omega)
  generalize dltL B D = R at hc ⊢
  by_cases h3 : 1024 < R.length
  · rw [if_pos h3]
    rw [decide_eq_false (by omega)] at hc
    have HC := Lib.hid hc
    clear hc
    go_enter Try.func9, Try.ntmps9
    go_wp2_with fail
    refine HC.out.mono ?_
    rintro e w1 ⟨v1, rfl, ho, hx⟩
    obtain ⟨A1, n1, c1, rfl⟩ := ho.shape3
    have HX := Lib.hid hx
    clear ho hx
    go_wp2_with fail
    go_ret2
    exact ⟨_, rfl, Own.empty _ _ _ _ HX.out.size, HX.out.alloc _⟩
  · rw [if_neg h3]
    rw [decide_eq_true (by omega)] at hc
    have HC := Lib.hid hc
    clear hc
    go_enter Try.func9, Try.ntmps9
    go_wp2_with fail
    refine HC.out.mono ?_
    rintro e w1 ⟨v1, rfl, ho, hx⟩
    obtain ⟨A1, n1, c1, rfl⟩ := ho.shape3
    have HO := Lib.hid ho
    have HX := Lib.hid hx
    clear ho hx
    go_wp2_with fail
    go_ret2
    exact ⟨_, rfl, HO.out, HX.out⟩
end Go.Proofs.Yteegnbdgfedajaa
/- A commit read from bytes: plainly; rows of one's own that begin within their block. No condition. -/
namespace Go.Proofs.Yteegnbdgfedajaa
open Go.RowKit
set_option linter.unusedVariables false
set_option linter.unusedSimpArgs false

/-- v is nil or a slice in a block from base on that is one's own -/
structure OwnX {α : Type} (T : Ty α) (w : World) (base : Nat) (v : Value) (xs : List α) : Prop where
  rd : RdL T w (fun g => some g = v.ownBlock) v xs
  wr : Wr w base T.sz v xs.length
  base_le : ∀ k, v.ownBlock = some k → base ≤ k ∧ k < w.heap.size
  pos : 0 < T.sz
section
variable {α β : Type} {T : Ty α} {T' : Ty β} {w w' : World} {base base' : Nat} {v v' : Value} {xs : List α} {ys : List β}
theorem OwnX.kept {row : Option Nat} (h : OwnX T w base v xs) (hg : w.grownBy w' row) (hne : v.ownBlock = none ∨ v.ownBlock ≠ row) : OwnX T w' base v xs := by
  have hb : ∀ g, some g = v.ownBlock → w'.heap[g]? = w.heap[g]? := fun g e => hg.block g (h.base_le g e.symm).2 (fun e2 => by
    rcases hne with hn | hn
    · rw [hn] at e; cases e
    · exact hn (e ▸ e2))
  refine ⟨h.rd.keep hb, ?_, fun k hk => ⟨(h.base_le k hk).1, Nat.lt_of_lt_of_le (h.base_le k hk).2 hg.size⟩, h.pos⟩
  obtain ⟨A, cap, e, h0, h1, h2⟩ := h.wr
  refine ⟨A, cap, e, h0, h1, fun hn => ?_⟩
  obtain ⟨g, o, cur, t, e1, e2, e3, e4⟩ := h2 hn
  exact ⟨g, o, cur, t, e1, e2, (hb g (by rw [e, e1]; rfl)).trans e3, e4⟩
theorem OwnX.ext (h : OwnX T w base v xs) (k : Ext w w') : OwnX T w' base v xs := h.kept (row := none) (ext_grown none k) (by cases v.ownBlock <;> simp)
theorem OwnX.le (h : OwnX T w base v xs) (hb : base' ≤ base) : OwnX T w base' v xs := by
  refine ⟨h.rd, ?_, fun k hk => ⟨Nat.le_trans hb (h.base_le k hk).1, (h.base_le k hk).2⟩, h.pos⟩
  obtain ⟨A, cap, e, h0, h1, h2⟩ := h.wr
  refine ⟨A, cap, e, h0, h1, fun hn => ?_⟩
  obtain ⟨g, o, cur, t, e1, e2, e3, e4⟩ := h2 hn
  exact ⟨g, o, cur, t, e1, Nat.le_trans hb e2, e3, e4⟩
theorem OwnX.shape (h : OwnX T w base v xs) : ∃ A cap, v = .slice A xs.length cap := by
  obtain ⟨A, cap, e, _⟩ := h.rd
  exact ⟨A, cap, e⟩
theorem OwnX.len (h : OwnX T w base v xs) : xs.length ≤ 140737488355328 := by
  obtain ⟨A, cap, e, _, h2, _⟩ := h.rd
  exact h2
theorem OwnX.apart (h : OwnX T w base v xs) (h' : OwnX T' w' base' v' ys) (hb : w.heap.size ≤ base') : v.ownBlock = none ∨ v.ownBlock ≠ v'.ownBlock := by
  cases hv : v.ownBlock with
  | none => exact .inl rfl
  | some k =>
    refine .inr fun e => ?_
    have h1 := (h.base_le k hv).2
    have h2 := (h'.base_le k e.symm).1
    omega
theorem OwnX.apart' (h : OwnX T w base v xs) (h' : OwnX T' w' base' v' ys) (hb : w.heap.size ≤ base') : v'.ownBlock = none ∨ v'.ownBlock ≠ v.ownBlock := by
  cases hv : v'.ownBlock with
  | none => exact .inl rfl
  | some k =>
    refine .inr fun e => ?_
    have h1 := (h.base_le k e.symm).2
    have h2 := (h'.base_le k hv).1
    omega
theorem OwnX.far_of_lt {g : Nat} (h : OwnX T w base v xs) (hg : g < base) : some g ≠ v.ownBlock := fun e => by have := (h.base_le _ e.symm).1; omega
theorem OwnX.far_of_ge {g : Nat} (h : OwnX T w base v xs) (hg : w.heap.size ≤ g) : some g ≠ v.ownBlock := fun e => by have := (h.base_le _ e.symm).2; omega
theorem Own.x {e : TypeId} (h : Own T e w base v xs) (hz : 0 < T.sz) : OwnX T w base v xs := ⟨h.rd_at.mono (fun g hg => hg.1), h.wr, fun k hk => h.base_le k hk, hz⟩
theorem OwnX.nil (T : Ty α) (w : World) (base : Nat) (hz : 0 < T.sz) : OwnX T w base (.slice none 0 0) ([] : List α) :=
  ⟨⟨none, 0, rfl, Nat.le_refl _, by simp, Rd.nil _ _ _ _, by simp⟩, ⟨none, 0, rfl, Nat.le_refl _, by simp, fun h => absurd h (by simp)⟩, fun k hk => by simp [Value.ownBlock] at hk, hz⟩
/-- all but the first -/
theorem OwnX.cut1 {g n cap : Nat} (h : OwnX T w base (.slice (some ⟨g, 0, none⟩) n cap) xs) (h1 : 1 ≤ n) : OwnX T w base (.slice (if cap = 1 then some ⟨g, 0, none⟩ else some ⟨g, T.sz, none⟩) (n - 1) (cap - 1)) (xs.drop 1) := by
  obtain ⟨A, cap', e, hc, hl, hr, hok⟩ := h.rd
  injection e with e1 e2 e3
  subst e1 e2 e3
  have hcut := hr.cut (k := 1) h1 hc
  have e : (if cap = 1 then (some ⟨g, 0, none⟩ : Option Addr) else (some (⟨g, 0, none⟩ : Addr)).map (·.add (1 * T.sz))) = if cap = 1 then some ⟨g, 0, none⟩ else some ⟨g, T.sz, none⟩ := by
    split
    · rfl
    · simp [Addr.add_lit]
  rw [e, Nat.one_mul] at hcut
  have e2 : (xs.flatMap T.enc).drop T.sz = (xs.drop 1).flatMap T.enc := by
    match xs, h1 with
    | x :: r, _ => simp [T.len x (hok x (by simp))]
  rw [e2, show xs.length - 1 = (xs.drop 1).length by simp] at hcut
  have hblk : ∀ k, (Value.slice (if cap = 1 then some (⟨g, 0, none⟩ : Addr) else some ⟨g, T.sz, none⟩) (xs.length - 1) (cap - 1)).ownBlock = some k ↔ k = g := by
    intro k
    split <;> simp [Value.ownBlock, eq_comm]
  refine ⟨⟨_, cap - 1, by rw [List.length_drop], by rw [List.length_drop]; omega, by rw [List.length_drop]; omega, hcut.mono (fun k hk => ?_), fun x hx => hok x (List.mem_of_mem_drop hx)⟩, ?_, fun k hk => ?_, h.pos⟩
  · have : g = k := by simpa [Value.ownBlock] using hk.symm
    exact ((hblk k).2 this.symm).symm
  · obtain ⟨A, cap', e, h0, h2, h3⟩ := h.wr
    injection e with e1 _ e3
    subst e1 e3
    refine ⟨_, cap - 1, by rw [List.length_drop], by rw [List.length_drop]; omega, by rw [List.length_drop]; omega, fun hn => ?_⟩
    rw [List.length_drop] at hn
    obtain ⟨g2, o2, cur, t, e1, e2, e3, e4⟩ := h3 (by omega)
    injection e1 with e1
    injection e1 with e5 e6
    subst e5 e6
    rw [if_neg (by omega)]
    refine ⟨g, T.sz, cur, t, rfl, e2, e3, ?_⟩
    rw [List.length_drop]
    have : (xs.length - 1 + 1) * T.sz = xs.length * T.sz := by congr 1; omega
    rw [Nat.add_mul] at this
    omega
  · obtain rfl := (hblk k).1 hk
    exact h.base_le k rfl
end
/-- the commit that stands for an error -/
def zeroC : Cm := ⟨List.replicate 32 0, [], 0, ⟨#[]⟩⟩
def rcN (d : List Int) : Nat := (gI d 0).toNat
/-- the commit that bytes tell -/
def rcC (d : List Int) : Cm := ⟨blockL (d.drop 1) 0, (blocksL (d.drop 1) (rcN d)).drop 1, gI d (1 + 32 * rcN d), strOfNums (d.drop (2 + 32 * rcN d))⟩
/-- ReadCommit -/
def rcR (d : List Int) : Cm × Int := if d.length = 0 ∨ gI d 0 = 0 ∨ d.length < 2 + 32 * rcN d then (zeroC, 5) else if okCm (rcC d) then (rcC d, 0) else (zeroC, 5)
theorem zeroC_ok : K32 zeroC.root ∧ (Lit.int .i64 zeroC.num).wf = true ∧ zeroC.note.size ≤ 140737488351232 := by
  refine ⟨⟨by simp [zeroC], fun x hx => ?_⟩, by decide, by decide⟩
  simp [zeroC] at hx
  omega
theorem rcC_ok (d : List Int) (hd : B8 d) (hl : d.length ≤ 140737488351232) (h1 : 1 ≤ rcN d) (h2 : 2 + 32 * rcN d ≤ d.length) : K32 (rcC d).root ∧ (Lit.int .i64 (rcC d).num).wf = true ∧ (rcC d).note.size ≤ 140737488351232 := by
  have hB : B8 (d.drop 1) := fun x hx => hd x (List.mem_of_mem_drop hx)
  refine ⟨blockL_ok _ _ hB (by simp; omega), ?_, ?_⟩
  · have := hd.get (1 + 32 * rcN d)
    show (Lit.int .i64 (gI d (1 + 32 * rcN d))).wf = true
    simp [Lit.wf, IntKind.min, IntKind.max, IntKind.signed, IntKind.bits]
    omega
  · show (strOfNums (d.drop (2 + 32 * rcN d))).size ≤ _
    simp [strOfNums, ByteArray.size]
    omega
theorem rcR_ok (d : List Int) (hd : B8 d) (hl : d.length ≤ 140737488351232) : K32 (rcR d).1.root ∧ (Lit.int .i64 (rcR d).1.num).wf = true ∧ (rcR d).1.note.size ≤ 140737488351232 := by
  unfold rcR
  split
  · exact zeroC_ok
  · rename_i h
    split
    · refine rcC_ok d hd hl ?_ (by omega)
      have := hd.get 0
      unfold rcN
      omega
    · exact zeroC_ok
theorem rcC_many (d : List Int) (h : 4 < rcN d) : okCm (rcC d) = false := by
  rw [okCm_eq]
  have : ¬ (rcC d).par.length ≤ 3 := by simp [rcC, blocksL]; omega
  simp [this]
end Go.Proofs.Yteegnbdgfedajaa
/- Lists of entries: copied, counted, held against each other. No condition. -/
namespace Go.Proofs.Yteegnbdgfedajaa
open Go.RowKit
set_option linter.unusedVariables false
set_option linter.unusedSimpArgs false

abbrev En := ByteArray × ByteArray
def tEnt : Ty En := ⟨2, fun e => [.string e.1, .string e.2], fun e => e.1.size ≤ 140737488351232 ∧ e.2.size ≤ 140737488351232, fun _ _ => rfl, fun _ u hu => by simp at hu; rcases hu with rfl | rfl <;> rfl⟩
theorem toEntT_any (a : En) (ha : tEnt.ok a) (w : World) :
    Calls Try.prog 109 #[.agg (tEnt.enc a).toArray] w fun e w' => e = .returned (.agg (tEnt.enc a).toArray) ∧ Ext w w' := toEntry_any a.1 a.2 w
set_option maxHeartbeats 1000000 in
set_option maxRecDepth 100000 in
theorem toEntryS_u (v : Value) (xs : List En) (w : World) (S : Nat → Prop) (h : RdL tEnt w S v xs) (hln : xs.length ≤ 1048576) :
    Calls Try.prog 92 #[v] w fun e w' => ∃ v', e = .returned v' ∧ Own tEnt 124 w' w.heap.size v' xs ∧ Ext w w' := by
  obtain ⟨A, cap, rfl, hcap, hlen, hrd, hok⟩ := h
  have Hrd := Lib.hid hrd
  have Hok := Lib.hid hok
  have HF := Lib.hid (flat_length tEnt xs hok)
  clear hrd hok
  obtain ⟨Z, hms, hm⟩ := make_rowN 94 124 2 32 Try.underlying94 (by kernel_rfl) .i64 .i64 xs.length (by omega) (by omega)
  have HMS := Lib.hid hms
  clear hms
  go_enter Try.func92, Try.ntmps92
  go_wp2
  go_loopw [4] (fun i wr => ∃ k : Nat, k ≤ xs.length ∧ i = .int .i64 k ∧ Fill wr w.heap.size 124 ((xs.take k).flatMap (tEnt).enc) ((xs.length - k) * 2) ∧ Ext w wr)
    (fun i _ => xs.length - (intOf i).toNat)
  case atStart => exact ⟨0, by omega, rfl, by rw [List.take_zero]; exact Fill.start' (Blk.new w _ _) (by rw [HMS.out, Nat.sub_zero]), ext_alloc _ _⟩
  case round =>
    obtain ⟨k, hk, rfl, hF, hx⟩ := hrel
    have HFl := Lib.hid hF
    have HX := Lib.hid hx
    clear hm hF hx
    by_cases hlt : k < xs.length
    · obtain ⟨g, o, rfl, hs, hc⟩ := Hrd.out.elem Hok.out k hlt
      have hx0 : (tEnt).ok xs[k] := Hok.out _ (List.getElem_mem hlt)
      have HX0 := Lib.hid hx0
      have hd : ∀ j u, ((tEnt).enc xs[k])[j]? = some u → wr.cell? ⟨g, o + k * 2 + j, none⟩ = some u := fun j u hu => HX.out.cell (hc j u hu)
      have HD := Lib.hid hd
      have HL := Lib.hid (flat_length tEnt (xs.take k) (fun x hx => Hok.out x (List.mem_of_mem_take hx)))
      have HTK := Lib.hid (show (xs.take k).length = k by rw [List.length_take]; omega)
      have HSN := Lib.hid (show (xs.take (k + 1)).flatMap (tEnt).enc = (xs.take k).flatMap (tEnt).enc ++ (tEnt).enc xs[k] by rw [List.take_succ_eq_append_getElem hlt, List.flatMap_append, List.flatMap_cons, List.flatMap_nil, List.append_nil])
      have HST := Lib.hid (show St 2 ((tEnt).enc xs[k]).toArray from ⟨by rw [List.size_toArray]; exact (tEnt).len _ hx0, by simpa using (tEnt).one _⟩)
      have HMU := Lib.hid (show (xs.length - k) * 2 = 2 + (xs.length - (k + 1)) * 2 by omega)
      clear hc hd hx0
      have hi : (0 : Int) ≤ (k : Int) := by omega
      go_wp2_with (refine wpl_load ⟨g, o + k * 2, none⟩ ((tEnt).enc xs[k]) (by rw [(tEnt).len _ HX0.out]; exact aggEntryL) rfl _ rfl rfl (fun j u hu => by rw [Addr.add_lit]; exact HD.out j u hu) ?_)
      refine (toEntT_any xs[k] HX0.out _).mono ?_
      rintro e w1 ⟨rfl, hx⟩
      have HF2 := Lib.hid (HFl.out.ext hx)
      have HX2 := Lib.hid (HX.out.trans hx)
      clear hx HX HFl HD
      go_wp2_with (refine wpl_fill (n := 2) (m := (xs.length - (k + 1)) * 2) (by rw [← HMU.out]; exact HF2.out) (by rw [HL.out, HTK.out]; rfl) aggEntryI HST.out rfl _ _ rfl rfl rfl rfl ?_; intro row hF; have HF3 := Lib.hid hF; clear hF)
      go_roundw
      case rel => exact ⟨k + 1, by omega, by go_num, by rw [HSN.out]; simpa using HF3.out, HX2.out.setRow (Nat.le_refl _) _⟩
      case measure => simp [intOf]; omega
    · obtain rfl : k = xs.length := by omega
      have hb := HFl.out
      rw [List.take_length, Nat.sub_self, Nat.zero_mul] at hb
      have HB := Lib.hid hb.done
      clear hb
      go_wp2
      go_ret
      exact ⟨_, rfl, Own.of_blk tEnt HB.out (Nat.le_refl _) hlen Hok.out, HX.out⟩

set_option maxHeartbeats 1000000 in
set_option maxRecDepth 100000 in
theorem eqEntT_any (a : En) (ha : tEnt.ok a) (w : World) :
    Calls Try.prog 110 #[.agg (tEnt.enc a).toArray, .agg (tEnt.enc a).toArray] w fun e w' => e = .returned (.bool true) ∧ Ext w w' := by
  have q1 : (a.1.toList != a.1.toList) = false := by simp
  have q2 : (a.2.toList != a.2.toList) = false := by simp
  show Calls Try.prog 110 #[.agg #[.string a.1, .string a.2], .agg #[.string a.1, .string a.2]] w _
  go_enter Try.func110, Try.ntmps110
  go_wp2
  go_ret
  exact ⟨rfl, (ext_alloc _ _).alloc _⟩
set_option maxHeartbeats 1000000 in
set_option maxRecDepth 100000 in
theorem eqEntryS_u (v u : Value) (xs : List En) (w : World) (S S' : Nat → Prop) (h : RdL tEnt w S v xs) (h' : RdL tEnt w S' u xs) :
    Calls Try.prog 95 #[v, u] w fun e w' => e = .returned (.bool true) ∧ Ext w w' := by
  obtain ⟨A, cap, rfl, hcap, hlen, hrd, hok⟩ := h
  obtain ⟨A', cap', rfl, hcap', hlen', hrd', hok'⟩ := h'
  have Hrd := Lib.hid hrd
  have Hrd' := Lib.hid hrd'
  have Hok := Lib.hid hok
  clear hrd hok hrd' hok'
  have hl1 : ((xs.length : Int) != (xs.length : Int)) = false := by simp
  go_enter Try.func95, Try.ntmps95
  go_wp2
  go_loopw [5] (fun i wr => ∃ k : Nat, k ≤ xs.length ∧ i = .int .i64 k ∧ Ext w wr) (fun i _ => xs.length - (intOf i).toNat)
  case atStart => exact ⟨0, by omega, rfl, Ext.refl _⟩
  case round =>
    obtain ⟨k, hk, rfl, hx⟩ := hrel
    have HX := Lib.hid hx
    clear hx hl1
    by_cases hlt : k < xs.length
    · obtain ⟨g, o, rfl, hs, hc⟩ := Hrd.out.elem Hok.out k hlt
      obtain ⟨g2, o2, rfl, hs2, hc2⟩ := Hrd'.out.elem Hok.out k hlt
      have HX0 := Lib.hid (show (tEnt).ok xs[k] from Hok.out _ (List.getElem_mem hlt))
      have HD := Lib.hid (show ∀ j u, ((tEnt).enc xs[k])[j]? = some u → wr.cell? ⟨g, o + k * 2 + j, none⟩ = some u from fun j u hu => HX.out.cell (hc j u hu))
      have HD2 := Lib.hid (show ∀ j u, ((tEnt).enc xs[k])[j]? = some u → wr.cell? ⟨g2, o2 + k * 2 + j, none⟩ = some u from fun j u hu => HX.out.cell (hc2 j u hu))
      clear hc hc2
      have hi : (0 : Int) ≤ (k : Int) := by omega
      have hi2 : (k : Int) < (xs.length : Int) := by omega
      go_wp2_with fail
      refine wp_region_held_drew (S := fun W => Ext wr W) (by kernel_rfl) (Ext.refl _).drew (fun hHeld => ?_)
      refine wpAnyH_take (i := 0) (oi := ?oiq0) (v := ?vq0) ?hiq0 (by kernel_rfl) (by kernel_rfl) (by kernel_rfl) ?hQq0 ?hyq0 (by assumption) ?restq0
      case hiq0 => simp only [List.getElem?_toArray, List.getElem?_cons_zero, List.getElem?_cons_succ]; rfl
      case hQq0 => exact fun _ _ _ h => h
      case hyq0 => exact Or.inl ⟨by rfl, by intro w hSw; go_simp; with_reducible rfl⟩
      try simp only [Act.put, List.setIfInBounds_toArray, List.set_cons_zero, List.set_cons_succ]
      refine wpAnyH_take (i := 1) (oi := ?oiq1) (v := ?vq1) ?hiq1 (by kernel_rfl) (by kernel_rfl) (by kernel_rfl) ?hQq1 ?hyq1 (by assumption) ?restq1
      case hiq1 => simp only [List.getElem?_toArray, List.getElem?_cons_zero, List.getElem?_cons_succ]; rfl
      case hQq1 => exact fun _ _ _ h => h
      case hyq1 => exact Or.inl ⟨by rfl, by intro w hSw; go_simp; with_reducible rfl⟩
      try simp only [Act.put, List.setIfInBounds_toArray, List.set_cons_zero, List.set_cons_succ]
      refine wpAnyH_take (i := 2) (oi := ?oiq2) (v := ?vq2) ?hiq2 (by kernel_rfl) (by kernel_rfl) (by kernel_rfl) ?hQq2 ?hyq2 (by assumption) ?restq2
      case hiq2 => simp only [List.getElem?_toArray, List.getElem?_cons_zero, List.getElem?_cons_succ]; rfl
      case hQq2 => exact fun _ _ _ h => h
      case hyq2 => exact Or.inl ⟨by rfl, by intro w hSw; go_simp; with_reducible rfl⟩
      try simp only [Act.put, List.setIfInBounds_toArray, List.set_cons_zero, List.set_cons_succ]
      refine wpAnyH_take (i := 3) (oi := ?oiq3) (v := (.agg ((tEnt).enc xs[k]).toArray)) ?hiq3 (by kernel_rfl) (by kernel_rfl) (by kernel_rfl) ?hQq3 ?hyq3 (by assumption) ?restq3
      case hiq3 => simp only [List.getElem?_toArray, List.getElem?_cons_zero, List.getElem?_cons_succ]; rfl
      case hQq3 => exact fun _ _ _ h => h
      case hyq3 => refine yields_loadR g (o + k * 2) ((tEnt).enc xs[k]) (by rw [(tEnt).len _ HX0.out]; exact aggEntryI) HD.out ?_ _ rfl rfl; rfl
      try simp only [Act.put, List.setIfInBounds_toArray, List.set_cons_zero, List.set_cons_succ]
      refine wpAnyH_take (i := 4) (oi := ?oiq4) (v := ?vq4) ?hiq4 (by kernel_rfl) (by kernel_rfl) (by kernel_rfl) ?hQq4 ?hyq4 (by assumption) ?restq4
      case hiq4 => simp only [List.getElem?_toArray, List.getElem?_cons_zero, List.getElem?_cons_succ]; rfl
      case hQq4 => exact fun _ _ _ h => h
      case hyq4 => exact Or.inl ⟨by rfl, by intro w hSw; go_simp; with_reducible rfl⟩
      try simp only [Act.put, List.setIfInBounds_toArray, List.set_cons_zero, List.set_cons_succ]
      refine wpAnyH_take (i := 5) (oi := ?oiq5) (v := ?vq5) ?hiq5 (by kernel_rfl) (by kernel_rfl) (by kernel_rfl) ?hQq5 ?hyq5 (by assumption) ?restq5
      case hiq5 => simp only [List.getElem?_toArray, List.getElem?_cons_zero, List.getElem?_cons_succ]; rfl
      case hQq5 => exact fun _ _ _ h => h
      case hyq5 => exact Or.inl ⟨by rfl, by intro w hSw; go_simp; with_reducible rfl⟩
      try simp only [Act.put, List.setIfInBounds_toArray, List.set_cons_zero, List.set_cons_succ]
      refine wpAnyH_take (i := 6) (oi := ?oiq6) (v := ?vq6) ?hiq6 (by kernel_rfl) (by kernel_rfl) (by kernel_rfl) ?hQq6 ?hyq6 (by assumption) ?restq6
      case hiq6 => simp only [List.getElem?_toArray, List.getElem?_cons_zero, List.getElem?_cons_succ]; rfl
      case hQq6 => exact fun _ _ _ h => h
      case hyq6 => exact Or.inl ⟨by rfl, by intro w hSw; go_simp; with_reducible rfl⟩
      try simp only [Act.put, List.setIfInBounds_toArray, List.set_cons_zero, List.set_cons_succ]
      refine wpAnyH_take (i := 7) (oi := ?oiq7) (v := (.agg ((tEnt).enc xs[k]).toArray)) ?hiq7 (by kernel_rfl) (by kernel_rfl) (by kernel_rfl) ?hQq7 ?hyq7 (by assumption) ?restq7
      case hiq7 => simp only [List.getElem?_toArray, List.getElem?_cons_zero, List.getElem?_cons_succ]; rfl
      case hQq7 => exact fun _ _ _ h => h
      case hyq7 => refine yields_loadR g2 (o2 + k * 2) ((tEnt).enc xs[k]) (by rw [(tEnt).len _ HX0.out]; exact aggEntryI) HD2.out ?_ _ rfl rfl; rfl
      try simp only [Act.put, List.setIfInBounds_toArray, List.set_cons_zero, List.set_cons_succ]
      refine wpAnyH_ready (rs := [8]) (by kernel_rfl) (by simp) (AllReadyH.cons (o := ?o8) ?h8 (fun K hK => ?s8) AllReadyH.nil)
      case h8 => simp only [List.getElem?_toArray, List.getElem?_cons_zero, List.getElem?_cons_succ]; rfl
      go_simp
      refine (eqEntT_any xs[k] HX0.out _).mono ?_
      rintro e w1 ⟨rfl, hx⟩
      have hH2 := hHeld.trans hx
      refine hK.out _ _ hH2 (fun _ => ?_)
      clear hHeld hK K
      have hHeld := hH2
      clear hH2 hx
      try simp only [Act.put, List.setIfInBounds_toArray, List.set_cons_zero, List.set_cons_succ]
      refine wpAnyH_take (i := 9) (oi := ?oiq9) (v := ?vq9) ?hiq9 (by kernel_rfl) (by kernel_rfl) (by kernel_rfl) ?hQq9 ?hyq9 (by assumption) ?restq9
      case hiq9 => simp only [List.getElem?_toArray, List.getElem?_cons_zero, List.getElem?_cons_succ]; rfl
      case hQq9 => exact fun _ _ _ h => h
      case hyq9 => exact Or.inl ⟨by rfl, by intro w hSw; go_simp; with_reducible rfl⟩
      try simp only [Act.put, List.setIfInBounds_toArray, List.set_cons_zero, List.set_cons_succ]
      refine wpAnyH_done (by kernel_rfl) ?_ _
      have HX2 := Lib.hid (HX.out.trans hHeld)
      clear hHeld
      go_wp2
      go_roundw
      case rel => exact ⟨k + 1, by omega, by go_num, HX2.out⟩
      case measure => simp [intOf]; omega
    · go_wp2
      go_ret
      exact ⟨rfl, HX.out⟩

/-- how much the entries take -/
@[irreducible] def entsN (l : List En) : Nat := l.length + (l.map fun e => e.1.size + e.2.size).sum
theorem entsN_eq (l : List En) : entsN l = l.length + (l.map fun e => e.1.size + e.2.size).sum := by rw [entsN]
def sumN (l : List En) (k : Nat) : Nat := ((l.take k).map fun e => e.1.size + e.2.size).sum
theorem sumN_zero (l : List En) : sumN l 0 = 0 := by simp [sumN]
theorem sumN_succ (l : List En) (k : Nat) (h : k < l.length) : sumN l (k + 1) = sumN l k + (l[k].1.size + l[k].2.size) := by
  unfold sumN
  rw [List.take_succ_eq_append_getElem h, List.map_append, List.sum_append]; simp
theorem sumN_le (l : List En) (k : Nat) : sumN l k ≤ (l.map fun e => e.1.size + e.2.size).sum := by
  unfold sumN
  conv => rhs; rw [← List.take_append_drop k l, List.map_append, List.sum_append]
  omega
set_option maxHeartbeats 1000000 in
set_option maxRecDepth 100000 in
theorem szEntryS_u (v : Value) (xs : List En) (l : Int) (w : World) (S : Nat → Prop) (h : RdL tEnt w S v xs) (h0 : -1 ≤ l) (h1 : l ≤ 1048576) :
    Calls Try.prog 89 #[v, .int .i64 l] w fun e w' => e = .returned (.int .i64 (if l - (entsN xs : Nat) < 0 then -1 else l - (entsN xs : Nat))) ∧ Ext w w' := by
  rw [entsN_eq]
  obtain ⟨A, cap, rfl, hcap, hlen, hrd, hok⟩ := h
  have Hrd := Lib.hid hrd
  have Hok := Lib.hid hok
  obtain ⟨T, hT⟩ : ∃ T, (xs.map fun e => e.1.size + e.2.size).sum = T := ⟨_, rfl⟩
  have hle := fun k => sumN_le xs k
  rw [hT] at hle ⊢
  have HT := Lib.hid hT
  have HLE := Lib.hid hle
  clear hrd hok hT hle
  by_cases h2 : l - (xs.length : Int) < 0
  · rw [if_pos (by omega)]
    go_enter Try.func89, Try.ntmps89
    go_wp2
    go_ret
    exact ⟨rfl, Ext.refl _⟩
  · obtain ⟨z, hz⟩ : ∃ z : Int, (if l - ((xs.length + T : Nat) : Int) < 0 then -1 else l - ((xs.length + T : Nat) : Int)) = z := ⟨_, rfl⟩
    rw [hz]
    have HZ := Lib.hid hz
    clear hz
    go_enter Try.func89, Try.ntmps89
    go_wp2
    go_loopw [1, 5] (fun q i wr => ∃ k : Nat, k ≤ xs.length ∧ i = .int .i64 k ∧ q = .int .i64 (l - xs.length - (sumN xs k : Nat)) ∧ 0 ≤ l - (xs.length : Int) - (sumN xs k : Nat) ∧ Ext w wr) (fun _ i _ => xs.length - (intOf i).toNat)
    case atStart => exact ⟨0, by omega, rfl, by rw [sumN_zero]; simp, by rw [sumN_zero]; omega, Ext.refl _⟩
    case round =>
      obtain ⟨k, hk, rfl, rfl, hs, hx⟩ := hrel
      have HX := Lib.hid hx
      clear hx
      by_cases hlt : k < xs.length
      · obtain ⟨g, o, rfl, hs0, hc⟩ := Hrd.out.elem Hok.out k hlt
        have HX0 := Lib.hid (show tEnt.ok xs[k] from Hok.out _ (List.getElem_mem hlt))
        have HD0 := Lib.hid (show ∀ j u, (tEnt.enc xs[k])[j]? = some u → wr.cell? ⟨g, o + k * 2 + j, none⟩ = some u from fun j u hu => HX.out.cell (hc j u hu))
        have HSS := Lib.hid (sumN_succ xs k hlt)
        have hq := HLE.out (k + 1)
        rw [HSS.out] at hq
        clear hc
        have hi : (0 : Int) ≤ (k : Int) := by omega
        have hi2 : (k : Int) < (xs.length : Int) := by omega
        have hcz := fun W => szEntry_any xs[k].1 xs[k].2 HX0.out.1 HX0.out.2 (l - xs.length - (sumN xs k : Nat)) (by omega) (by omega) W
        by_cases h3 : l - (xs.length : Int) - (sumN xs k : Nat) - xs[k].1.size - xs[k].2.size < 0
        · simp only [if_pos h3] at hcz
          have HP := Lib.hid (show l - ((xs.length + T : Nat) : Int) < 0 by omega)
          go_wp2_with (refine wpl_load ⟨g, o + k * 2, none⟩ (tEnt.enc xs[k]) aggEntryL rfl _ rfl rfl (fun j u hu => by rw [Addr.add_lit]; exact HD0.out j u hu) ?_)
          refine (hcz _).mono ?_
          rintro e w1 ⟨rfl, hx⟩
          have HX2 := Lib.hid (HX.out.trans hx)
          clear hx
          go_wp2
          go_ret
          exact ⟨by rw [← HZ.out, if_pos HP.out]; rfl, HX2.out⟩
        · simp only [if_neg h3] at hcz
          go_wp2_with (refine wpl_load ⟨g, o + k * 2, none⟩ (tEnt.enc xs[k]) aggEntryL rfl _ rfl rfl (fun j u hu => by rw [Addr.add_lit]; exact HD0.out j u hu) ?_)
          refine (hcz _).mono ?_
          rintro e w1 ⟨rfl, hx⟩
          have HX2 := Lib.hid (HX.out.trans hx)
          clear hx hcz
          go_wp2
          go_roundw
          case rel => exact ⟨k + 1, by omega, by go_num, by rw [HSS.out]; go_num, by rw [HSS.out]; omega, HX2.out⟩
          case measure => simp [intOf]; omega
      · obtain rfl : k = xs.length := by omega
        have e : sumN xs xs.length = T := by rw [sumN, List.take_length]; exact HT.out
        have HE := Lib.hid e
        rw [e] at hs
        clear e
        have HP := Lib.hid (show ¬ l - ((xs.length + T : Nat) : Int) < 0 by omega)
        go_wp2
        go_ret
        exact ⟨by rw [← HZ.out, if_neg (Int.not_lt.2 HP.out), HE.out]; exact ret_int (by omega), HX.out⟩

end Go.Proofs.Yteegnbdgfedajaa
/- Texts in order; their comparison. No condition. -/
namespace Go.Proofs.Yteegnbdgfedajaa
open Go.RowKit
set_option linter.unusedVariables false
set_option linter.unusedSimpArgs false

theorem less_irrefl (a : List UInt8) : Op.bytesLess a a = false := by
  induction a with
  | nil => rfl
  | cons x r ih => simp [Op.bytesLess, ih]
theorem less_trans : ∀ (a b c : List UInt8), Op.bytesLess a b = true → Op.bytesLess b c = true → Op.bytesLess a c = true
  | [], [], _, h, _ => by simp [Op.bytesLess] at h
  | _ :: _, [], _, h, _ => by simp [Op.bytesLess] at h
  | _, _ :: _, [], _, h => by simp [Op.bytesLess] at h
  | [], _ :: _, _ :: _, _, _ => by simp [Op.bytesLess]
  | x :: a, y :: b, z :: c, h, k => by
    simp only [Op.bytesLess, Bool.or_eq_true, decide_eq_true_eq, Bool.and_eq_true, beq_iff_eq] at h k ⊢
    rcases h with h | ⟨rfl, h⟩
    · rcases k with k | ⟨rfl, k⟩
      · exact .inl (UInt8.lt_trans h k)
      · exact .inl h
    · rcases k with k | ⟨rfl, k⟩
      · exact .inl k
      · exact .inr ⟨rfl, less_trans a b c h k⟩
theorem less_total : ∀ (a b : List UInt8), Op.bytesLess a b = false → Op.bytesLess b a = false → a = b
  | [], [], _, _ => rfl
  | _ :: _, [], _, h => by simp [Op.bytesLess] at h
  | [], _ :: _, h, _ => by simp [Op.bytesLess] at h
  | x :: a, y :: b, h, k => by
    simp only [Op.bytesLess, Bool.or_eq_false_iff, decide_eq_false_iff_not, Bool.and_eq_false_iff, beq_eq_false_iff_ne] at h k
    have e : x = y := by
      have h1 := h.1
      have k1 := k.1
      exact UInt8.le_antisymm (UInt8.not_lt.1 k1) (UInt8.not_lt.1 h1)
    subst e
    rw [less_total a b (h.2.resolve_left (fun q => q rfl)) (k.2.resolve_left (fun q => q rfl))]
/-- a comes ahead of b -/
@[irreducible] def ltB (a b : ByteArray) : Bool := Op.bytesLess a.toList b.toList
theorem ltB_eq (a b : ByteArray) : Op.bytesLess a.toList b.toList = ltB a b := by rw [ltB]
theorem toList_inj {a b : ByteArray} (h : a.toList = b.toList) : a = b := by
  rw [ByteArray.toList_eq, ByteArray.toList_eq] at h
  exact ByteArray.ext (Array.toList_inj.1 h)
theorem ltB_irrefl (a : ByteArray) : ltB a a = false := by rw [ltB]; exact less_irrefl _
theorem ltB_trans {a b c : ByteArray} (h : ltB a b = true) (k : ltB b c = true) : ltB a c = true := by rw [ltB] at h k ⊢; exact less_trans _ _ _ h k
theorem ltB_total {a b : ByteArray} (h : ltB a b = false) (k : ltB b a = false) : a = b := by rw [ltB] at h k; exact toList_inj (less_total _ _ h k)
theorem ltB_asymm {a b : ByteArray} (h : ltB a b = true) : ltB b a = false := by
  cases k : ltB b a with
  | false => rfl
  | true => have := ltB_trans h k; rw [ltB_irrefl] at this; cases this
theorem ltB_ne {a b : ByteArray} (h : ltB a b = true) : a ≠ b := fun e => by subst e; rw [ltB_irrefl] at h; cases h
/-- the comparison of two texts -/
@[irreducible] def cmpS (a b : ByteArray) : Int := if ltB a b then -1 else if ltB b a then 1 else 0
theorem cmpS_eq (a b : ByteArray) : cmpS a b = if ltB a b then -1 else if ltB b a then 1 else 0 := by rw [cmpS]
theorem cmpS_lt (a b : ByteArray) : cmpS a b < 0 ↔ ltB a b = true := by
  rw [cmpS]
  split
  · simp [*]
  · split <;> simp [*]
theorem cmpS_zero (a b : ByteArray) : cmpS a b = 0 ↔ a = b := by
  rw [cmpS]
  constructor
  · intro h
    split at h
    · cases h
    · rename_i h1
      split at h
      · cases h
      · rename_i h2
        exact ltB_total (by simpa using h1) (by simpa using h2)
  · rintro rfl
    simp [ltB_irrefl]
end Go.Proofs.Yteegnbdgfedajaa
/- Which lists of entries are maps: the reference and the program. No condition. -/
namespace Go.Proofs.Yteegnbdgfedajaa
open Go.RowKit
set_option linter.unusedVariables false
set_option linter.unusedSimpArgs false

def gE (L : List En) (i : Nat) : En := L.getD i (⟨#[]⟩, ⟨#[]⟩)
theorem gE_lt {L : List En} {i : Nat} (h : i < L.length) : gE L i = L[i] := by simp [gE, List.getD_eq_getElem?_getD, h]
def incC (L : List En) (i : Nat) : Bool := entB (gE L i).1 (gE L i).2 && (i == 0 || ltB (gE L (i - 1)).1 (gE L i).1)
/-- the first n are valid and in order -/
@[irreducible] def incs (L : List En) (n : Nat) : Bool := (List.range n).all (incC L)
theorem incs_zero (L : List En) : incs L 0 = true := by rw [incs]; rfl
theorem incs_succ (L : List En) (n : Nat) : incs L (n + 1) = (incs L n && incC L n) := by rw [incs, incs, List.range_succ, List.all_append]; simp
theorem incs_bad (L : List En) (k n : Nat) (h : k < n) (hb : incC L k = false) : incs L n = false := by
  rw [incs, List.all_eq_false]
  exact ⟨k, List.mem_range.2 h, by simp [hb]⟩
/-- a map -/
@[irreducible] def okE (L : List En) : Bool := incs L L.length && decide (L.length ≤ 64)
theorem okE_eq (L : List En) : okE L = (incs L L.length && decide (L.length ≤ 64)) := by rw [okE]
end Go.Proofs.Yteegnbdgfedajaa
/- The tree of a map, plainly. No condition. -/
namespace Go.Proofs.Yteegnbdgfedajaa
open Go.RowKit
set_option linter.unusedVariables false
set_option linter.unusedSimpArgs false

inductive Tr where
  | leaf : Tr
  | node : Nd → Tr → Tr → Tr
def Tr.key : Tr → List Int
  | .leaf => emptyL
  | .node x _ _ => hashL 5 (nodeL x)
def Tr.all : Tr → List Nd
  | .leaf => []
  | .node x l r => x :: (l.all ++ r.all)
def Tr.ok : Tr → Prop
  | .leaf => True
  | .node x l r => x.ok ∧ entB x.n x.v = true ∧ x.l = l.key ∧ x.r = r.key ∧ l.ok ∧ r.ok
theorem Tr.key_ok (T : Tr) : K32 T.key := by
  cases T with
  | leaf => exact emptyL_ok
  | node x l r => exact hashL_ok _ _
theorem Tr.all_ok (T : Tr) (h : T.ok) : ∀ x ∈ T.all, x.ok ∧ entB x.n x.v = true := by
  induction T with
  | leaf => intro x hx; simp [Tr.all] at hx
  | node y l r il ir =>
    obtain ⟨h1, h2, _, _, h5, h6⟩ := h
    intro x hx
    simp only [Tr.all, List.mem_cons, List.mem_append] at hx
    rcases hx with rfl | hx | hx
    · exact ⟨h1, h2⟩
    · exact il h5 x hx
    · exact ir h6 x hx
/-- the place of the greatest of the first k priorities -/
def gK (ps : List (List Int)) (k : Nat) : List Int := ps.getD k []
theorem gK_lt {ps : List (List Int)} {k : Nat} (h : k < ps.length) : gK ps k = ps[k] := by simp [gK, List.getD_eq_getElem?_getD, h]
def topS (ps : List (List Int)) (k t : Nat) : Nat := if 0 < cmpL (gK ps k) (gK ps t) then k else t
def topI (ps : List (List Int)) : Nat → Nat
  | 0 => 0
  | k + 1 => topS ps k (topI ps k)
theorem topI_zero (ps : List (List Int)) : topI ps 0 = 0 := rfl
theorem topI_succ (ps : List (List Int)) (k : Nat) : topI ps (k + 1) = if 0 < cmpL (gK ps k) (gK ps (topI ps k)) then k else topI ps k := rfl
attribute [irreducible] topI
theorem topI_one (ps : List (List Int)) : topI ps 1 = 0 := by rw [topI_succ, topI_zero, cmpL_self]; simp
theorem topI_lt (ps : List (List Int)) (k : Nat) (h : 0 < k) : topI ps k < k := by
  induction k with
  | zero => omega
  | succ k ih =>
    rw [topI_succ]
    split
    · omega
    · rcases Nat.eq_zero_or_pos k with rfl | hk
      · rw [topI_zero]; omega
      · have := ih hk; omega
def prios (L : List En) : List (List Int) := L.map fun e => prioL e.1
theorem prios_length (L : List En) : (prios L).length = L.length := by simp [prios]
theorem prios_at (L : List En) (k : Nat) (h : k < L.length) : gK (prios L) k = prioL L[k].1 := by rw [gK_lt (by rw [prios_length]; exact h)]; simp [prios]
theorem prios_ok (L : List En) : ∀ p ∈ prios L, K32 p := by
  intro p hp
  simp only [prios, List.mem_map] at hp
  obtain ⟨e, _, rfl⟩ := hp
  exact prioL_ok _
theorem prios_take (L : List En) (k : Nat) : prios (L.take k) = (prios L).take k := by simp [prios]
theorem prios_drop (L : List En) (k : Nat) : prios (L.drop k) = (prios L).drop k := by simp [prios]
def topE (L : List En) : Nat := topI (prios L) L.length
theorem topE_lt {L : List En} (h : 0 < L.length) : topE L < L.length := topI_lt _ _ h
/-- the tree -/
def trS (L : List En) (l r : Tr) : Tr := if L.length = 0 then .leaf else .node ⟨l.key, r.key, (gE L (topE L)).1, (gE L (topE L)).2⟩ l r
def trF : Nat → List En → Tr
  | 0, _ => .leaf
  | f + 1, L => trS L (trF f (L.take (topE L))) (trF f (L.drop (topE L + 1)))
theorem trF_zero (L : List En) : trF 0 L = .leaf := rfl
theorem trF_succ (f : Nat) (L : List En) : trF (f + 1) L = trS L (trF f (L.take (topE L))) (trF f (L.drop (topE L + 1))) := rfl
attribute [irreducible] trF
theorem trF_nil (f : Nat) (L : List En) (h : L.length = 0) : trF f L = .leaf := by
  cases f with
  | zero => rw [trF_zero]
  | succ f => rw [trF_succ, trS, if_pos h]
theorem trF_cons (f : Nat) (L : List En) (h : ¬ L.length = 0) : trF (f + 1) L = .node ⟨(trF f (L.take (topE L))).key, (trF f (L.drop (topE L + 1))).key, (gE L (topE L)).1, (gE L (topE L)).2⟩ (trF f (L.take (topE L))) (trF f (L.drop (topE L + 1))) := by rw [trF_succ, trS, if_neg h]
/-- entries that a map may hold -/
def good (L : List En) : Prop := ∀ e ∈ L, tEnt.ok e ∧ entB e.1 e.2 = true
theorem good_of {L : List En} (h : okE L = true) (hok : ∀ e ∈ L, tEnt.ok e) : good L := by
  intro e he
  refine ⟨hok e he, ?_⟩
  rw [okE_eq, Bool.and_eq_true, incs, List.all_eq_true] at h
  obtain ⟨i, hi, rfl⟩ := List.getElem_of_mem he
  have := h.1 i (List.mem_range.2 hi)
  simp only [incC, Bool.and_eq_true] at this
  rw [gE_lt hi] at this
  exact this.1
theorem good.take {L : List En} (h : good L) (k : Nat) : good (L.take k) := fun e he => h e (List.mem_of_mem_take he)
theorem good.drop {L : List En} (h : good L) (k : Nat) : good (L.drop k) := fun e he => h e (List.mem_of_mem_drop he)
theorem good.at_ {L : List En} (h : good L) {k : Nat} (hk : k < L.length) : tEnt.ok (gE L k) ∧ entB (gE L k).1 (gE L k).2 = true := by rw [gE_lt hk]; exact h _ (List.getElem_mem hk)
theorem trF_ok (f : Nat) (L : List En) (h : good L) : (trF f L).ok := by
  induction f generalizing L with
  | zero => rw [trF_zero]; trivial
  | succ f ih =>
    by_cases h0 : L.length = 0
    · rw [trF_nil _ _ h0]; trivial
    · rw [trF_cons _ _ h0]
      have hg := h.at_ (topE_lt (L := L) (by omega))
      exact ⟨⟨Tr.key_ok _, Tr.key_ok _, hg.1.1, hg.1.2⟩, hg.2, rfl, rfl, ih _ (h.take _), ih _ (h.drop _)⟩
theorem trF_len (f : Nat) (L : List En) : (trF f L).all.length ≤ L.length := by
  induction f generalizing L with
  | zero => rw [trF_zero]; simp [Tr.all]
  | succ f ih =>
    by_cases h0 : L.length = 0
    · rw [trF_nil _ _ h0]; simp [Tr.all]
    · rw [trF_cons _ _ h0]
      have h1 := ih (L.take (topE L))
      have h2 := ih (L.drop (topE L + 1))
      have h3 := topE_lt (L := L) (by omega)
      simp only [Tr.all, List.length_cons, List.length_append]
      rw [List.length_take] at h1
      rw [List.length_drop] at h2
      omega
def tNd : Ty Nd := ⟨66, Nd.enc, Nd.ok, fun _ h => Nd.enc_length h, fun x => Nd.enc_one x⟩
theorem Rd.cutL {α : Type} {T : Ty α} {w : World} {S : Nat → Prop} {A : Option Addr} {xs : List α} (h : Rd w S T.sz A xs.length (xs.flatMap T.enc)) (hok : ∀ x ∈ xs, T.ok x) {k cap : Nat} (hk : k ≤ xs.length) (hc : xs.length ≤ cap) :
    Rd w S T.sz (if cap = k then A else A.map (·.add (k * T.sz))) (xs.drop k).length ((xs.drop k).flatMap T.enc) := by
  have h1 := h.cut hk hc
  have e : (xs.flatMap T.enc).drop (k * T.sz) = (xs.drop k).flatMap T.enc := by
    conv => lhs; rw [← List.take_append_drop k xs, List.flatMap_append]
    rw [List.drop_append_of_le_length (by rw [flat_length T _ (fun x hx => hok x (List.mem_of_mem_take hx)), List.length_take, Nat.min_eq_left hk]; exact Nat.le_refl _), List.drop_eq_nil_of_le (by rw [flat_length T _ (fun x hx => hok x (List.mem_of_mem_take hx)), List.length_take, Nat.min_eq_left hk]; exact Nat.le_refl _), List.nil_append]
  rw [e, ← List.length_drop] at h1
  exact h1
theorem Rd.headL {α : Type} {T : Ty α} {w : World} {S : Nat → Prop} {A : Option Addr} {xs : List α} (h : Rd w S T.sz A xs.length (xs.flatMap T.enc)) (hok : ∀ x ∈ xs, T.ok x) {k : Nat} (hk : k ≤ xs.length) :
    Rd w S T.sz A (xs.take k).length ((xs.take k).flatMap T.enc) := by
  have h1 := h.head hk
  have e : (xs.flatMap T.enc).take (k * T.sz) = (xs.take k).flatMap T.enc := by
    conv => lhs; rw [← List.take_append_drop k xs, List.flatMap_append]
    rw [List.take_append_of_le_length (by rw [flat_length T _ (fun x hx => hok x (List.mem_of_mem_take hx)), List.length_take, Nat.min_eq_left hk]; exact Nat.le_refl _), List.take_of_length_le (by rw [flat_length T _ (fun x hx => hok x (List.mem_of_mem_take hx)), List.length_take, Nat.min_eq_left hk]; exact Nat.le_refl _)]
  have hl : (xs.take k).length = k := by rw [List.length_take]; omega
  rw [e] at h1
  rw [hl]
  exact h1
/-- the first k of a list that is read -/
theorem RdL.head {α : Type} {T : Ty α} {w : World} {S : Nat → Prop} {A : Option Addr} {xs : List α} {cap : Nat} (h : RdL T w S (.slice A xs.length cap) xs) {k : Nat} (hk : k ≤ xs.length) : RdL T w S (.slice A k cap) (xs.take k) := by
  obtain ⟨A', cap', e, h1, h2, h3, h4⟩ := h
  injection e with e1 _ e3
  subst e1 e3
  have hl : (xs.take k).length = k := by rw [List.length_take]; omega
  exact ⟨A, cap, by rw [hl], by omega, by omega, h3.headL h4 hk, fun x hx => h4 x (List.mem_of_mem_take hx)⟩
theorem RdL.cut {α : Type} {T : Ty α} {w : World} {S : Nat → Prop} {A : Option Addr} {xs : List α} {cap : Nat} (h : RdL T w S (.slice A xs.length cap) xs) {k : Nat} (hk : k ≤ xs.length) :
    RdL T w S (.slice (if cap = k then A else A.map (·.add (k * T.sz))) (xs.length - k) (cap - k)) (xs.drop k) := by
  obtain ⟨A', cap', e, h1, h2, h3, h4⟩ := h
  injection e with e1 _ e3
  subst e1 e3
  exact ⟨_, cap - k, by rw [List.length_drop], by rw [List.length_drop]; omega, by rw [List.length_drop]; omega, h3.cutL h4 hk h1, fun x hx => h4 x (List.mem_of_mem_drop hx)⟩
end Go.Proofs.Yteegnbdgfedajaa
/- A name's place in a map: the reference and the program. No condition. -/
namespace Go.Proofs.Yteegnbdgfedajaa
open Go.RowKit
set_option linter.unusedVariables false
set_option linter.unusedSimpArgs false

theorem incs_get {L : List En} {n : Nat} (h : incs L n = true) (k : Nat) (hk : k < n) : incC L k = true := by
  rw [incs, List.all_eq_true] at h
  exact h k (List.mem_range.2 hk)
theorem incs_lt {L : List En} {n : Nat} (h : incs L n = true) (p q : Nat) (hpq : p < q) (hq : q < n) : ltB (gE L p).1 (gE L q).1 = true := by
  induction q with
  | zero => omega
  | succ q ih =>
    have h1 := incs_get h (q + 1) hq
    rw [incC] at h1
    simp only [Bool.and_eq_true, Bool.or_eq_true, Nat.add_sub_cancel] at h1
    have h2 : ltB (gE L q).1 (gE L (q + 1)).1 = true := by
      rcases h1.2 with h | h
      · simp at h
      · exact h
    by_cases e : p = q
    · subst e; exact h2
    · exact ltB_trans (ih (by omega) (by omega)) h2
/-- how many names come ahead -/
@[irreducible] def posE (L : List En) (s : ByteArray) : Nat := (L.takeWhile fun e => ltB e.1 s).length
theorem posE_eq (L : List En) (s : ByteArray) (i : Nat) (hi : i ≤ L.length) (h1 : ∀ p, p < i → ltB (gE L p).1 s = true) (h2 : i < L.length → ltB (gE L i).1 s = false) : posE L s = i := by
  rw [posE]
  induction L generalizing i with
  | nil => simp at hi; simp [hi]
  | cons e r ih =>
    cases i with
    | zero =>
      have := h2 (by simp)
      simp only [gE, List.getD_cons_zero] at this
      simp [List.takeWhile_cons, this]
    | succ i =>
      have h0 := h1 0 (by omega)
      simp only [gE, List.getD_cons_zero] at h0
      rw [List.takeWhile_cons, if_pos h0, List.length_cons, ih i (by simpa using hi) (fun p hp => by have := h1 (p + 1) (by omega); simpa [gE] using this) (fun h => by have := h2 (by simpa using h); simpa [gE] using this)]
theorem posE_of {L : List En} {s : ByteArray} (h : incs L L.length = true) (i : Nat) (hi : i ≤ L.length) (h1 : i = 0 ∨ ltB (gE L (i - 1)).1 s = true) (h2 : i = L.length ∨ ltB (gE L i).1 s = false) : posE L s = i := by
  refine posE_eq L s i hi (fun p hp => ?_) (fun hlt => ?_)
  · rcases h1 with rfl | h1
    · omega
    · by_cases e : p = i - 1
      · rw [e]; exact h1
      · exact ltB_trans (incs_lt h p (i - 1) (by omega) (by omega)) h1
  · rcases h2 with rfl | h2
    · omega
    · exact h2
theorem posE_hit {L : List En} {s : ByteArray} (h : incs L L.length = true) (k : Nat) (hk : k < L.length) (e : (gE L k).1 = s) : posE L s = k := by
  refine posE_eq L s k (by omega) (fun p hp => ?_) (fun _ => by rw [e]; exact ltB_irrefl s)
  rw [← e]
  exact incs_lt h p k hp hk
/-- is the name there? -/
@[irreducible] def hasE (L : List En) (s : ByteArray) : Bool := decide (posE L s < L.length ∧ (gE L (posE L s)).1 = s)
theorem hasE_eq (L : List En) (s : ByteArray) : hasE L s = decide (posE L s < L.length ∧ (gE L (posE L s)).1 = s) := by rw [hasE]
@[irreducible] def findI (L : List En) (s : ByteArray) : Int := if hasE L s then posE L s else -1
theorem findI_eq (L : List En) (s : ByteArray) : findI L s = if hasE L s then (posE L s : Int) else -1 := by rw [findI]
theorem findI_hit {L : List En} {s : ByteArray} (h : incs L L.length = true) (k : Nat) (hk : k < L.length) (e : (gE L k).1 = s) : findI L s = k := by
  have hp := posE_hit h k hk e
  rw [findI, hasE_eq, hp, decide_eq_true ⟨hk, e⟩]; rfl
theorem findI_miss {L : List En} {s : ByteArray} (h : ∀ p, p < L.length → (gE L p).1 ≠ s) : findI L s = -1 := by
  rw [findI, hasE_eq, decide_eq_false (fun q => h _ q.1 q.2)]; rfl
end Go.Proofs.Yteegnbdgfedajaa
/- The entries of a range: the reference. No condition. -/
namespace Go.Proofs.Yteegnbdgfedajaa
open Go.RowKit
set_option linter.unusedVariables false
set_option linter.unusedSimpArgs false

theorem rowEnt : Row Try.prog tEnt 94 124 32 := Row.mk' Try.underlying94 (.agg #[.string ⟨#[]⟩, .string ⟨#[]⟩]) (by kernel_rfl) rfl (by decide) (by decide)
@[irreducible] def inR (lo hi : ByteArray) (e : En) : Bool := !ltB e.1 lo && ltB e.1 hi
theorem inR_eq (lo hi : ByteArray) (e : En) : inR lo hi e = (!ltB e.1 lo && ltB e.1 hi) := by rw [inR]
def rangeR (L : List En) (lo hi : ByteArray) : List En × Int := if okE L then (L.filter (inR lo hi), 0) else ([], 1)
theorem okE_incs' {L : List En} (h : okE L = true) : incs L L.length = true ∧ L.length ≤ 64 := by
  rw [okE_eq] at h
  simpa using h
theorem rd_ent (w : World) (e : En) (t : TypeId) : Rd (w.alloc (.cells #[.string e.1, .string e.2] t)) (fun g => g = w.heap.size) tEnt.sz (some ⟨w.heap.size, 0, none⟩) [e].length ([e].flatMap tEnt.enc) := by
  refine ⟨rfl, fun _ => ⟨_, 0, rfl, rfl, fun j u hu => ?_⟩⟩
  rw [Nat.zero_add, (Blk.new w t _).cell]
  simpa [tEnt] using hu
theorem filter_next (p : En → Bool) (L : List En) (k : Nat) (h : k < L.length) : (L.take (k + 1)).filter p = (L.take k).filter p ++ (if p L[k] then [L[k]] else []) := by
  rw [List.take_succ_eq_append_getElem h, List.filter_append]
  cases hp : p L[k] <;> simp [hp]
end Go.Proofs.Yteegnbdgfedajaa
/- Rows of entries, entry by entry: read out of an owned row, written, shut again. No condition. -/
namespace Go.Proofs.Yteegnbdgfedajaa
open Go.RowKit
set_option linter.unusedVariables false
set_option linter.unusedSimpArgs false

def AtE (cur : Array Value) (i : Nat) (e : En) : Prop := cur[i * 2]? = some (.string e.1) ∧ cur[i * 2 + 1]? = some (.string e.2)
theorem flat_ent (xs : List En) (i : Nat) (hi : i < xs.length) : (xs.flatMap tEnt.enc)[i * 2]? = some (.string xs[i].1) ∧ (xs.flatMap tEnt.enc)[i * 2 + 1]? = some (.string xs[i].2) := by
  induction xs generalizing i with
  | nil => simp at hi
  | cons x r ih =>
    cases i with
    | zero => exact ⟨rfl, rfl⟩
    | succ i =>
      simp only [List.length_cons] at hi
      have := ih i (by omega)
      rw [show (i + 1) * 2 = i * 2 + 1 + 1 by omega]
      exact this
theorem flat_len (xs : List En) : (xs.flatMap tEnt.enc).length = xs.length * 2 := by
  induction xs with
  | nil => rfl
  | cons x r ih => rw [List.flatMap_cons, List.length_append, ih, List.length_cons]; show 2 + _ = _; omega
theorem own_of_at {w : World} {g t cap base : Nat} {cur : Array Value} {xs : List En} (hb : Blk w g t cur) (hg : base ≤ g) (hs : cur.size = cap * 2) (hn : xs.length ≤ cap) (hc : cap ≤ maxLen) (hl : xs.length ≤ 140737488355328) (hok : ∀ x ∈ xs, tEnt.ok x) (hat : ∀ i (hi : i < xs.length), AtE cur i xs[i]) :
    Own tEnt t w base (.slice (some ⟨g, 0, none⟩) xs.length cap) xs := by
  refine ⟨⟨flat_len xs, .inr ⟨g, cap, cur, rfl, hg, hb, hn, hc, hs, ?_⟩⟩, hl, hok⟩
  apply List.ext_getElem?
  intro q
  show (List.take (xs.length * 2) cur.toList)[q]? = _
  by_cases hq : q < xs.length * 2
  · rw [List.getElem?_take_of_lt hq, Array.getElem?_toList]
    have hi : q / 2 < xs.length := by omega
    have h1 := hat _ hi
    have h2 := flat_ent xs _ hi
    rcases Nat.mod_two_eq_zero_or_one q with h0 | h0
    · rw [show q = q / 2 * 2 by omega, h1.1, h2.1]
    · rw [show q = q / 2 * 2 + 1 by omega, h1.2, h2.2]
  · rw [List.getElem?_eq_none (by simp; omega), List.getElem?_eq_none (by rw [flat_len]; omega)]
theorem at_of_own {w : World} {t base : Nat} {v : Value} {xs : List En} (h : Own tEnt t w base v xs) (h0 : 0 < xs.length) :
    ∃ g cap cur, v = .slice (some ⟨g, 0, none⟩) xs.length cap ∧ base ≤ g ∧ g < w.heap.size ∧ Blk w g t cur ∧ cur.size = cap * 2 ∧ xs.length ≤ cap ∧ cap ≤ maxLen ∧ ∀ i (hi : i < xs.length), AtE cur i xs[i] := by
  have hbl := h.base_le
  obtain ⟨⟨hl, hx⟩, h2, h3⟩ := h
  rcases hx with ⟨rfl, hz⟩ | ⟨g, cap, cur, rfl, hb, hg, hc, hm, hs, ht⟩
  · omega
  · refine ⟨g, cap, cur, rfl, hb, (hbl g rfl).2, hg, hs, hc, hm, fun i hi => ?_⟩
    have h2 := flat_ent xs i hi
    rw [← ht] at h2
    have hz : i * 2 + 1 < xs.length * tEnt.sz := by show i * 2 + 1 < xs.length * 2; omega
    rw [List.getElem?_take_of_lt (by omega), List.getElem?_take_of_lt hz, Array.getElem?_toList, Array.getElem?_toList] at h2
    exact h2
theorem splice_size (cur : Array Value) (o : Nat) (vs : List Value) (h : o + vs.length ≤ cur.size) : (splice cur o vs).size = cur.size := by
  unfold splice
  simp
  omega
theorem splice_out (cur : Array Value) (o : Nat) (vs : List Value) (h : o + vs.length ≤ cur.size) (q : Nat) (hq : q < o ∨ o + vs.length ≤ q) : (splice cur o vs)[q]? = cur[q]? := by
  unfold splice
  rw [List.getElem?_toArray, List.append_assoc]
  rcases hq with hq | hq
  · rw [List.getElem?_append_left (by simp; omega), List.getElem?_take_of_lt hq, Array.getElem?_toList]
  · rw [List.getElem?_append_right (by simp; omega), List.getElem?_append_right (by simp; omega), List.getElem?_drop, Array.getElem?_toList]
    congr 1
    simp
    omega
theorem splice_in (cur : Array Value) (o : Nat) (vs : List Value) (h : o + vs.length ≤ cur.size) (q : Nat) (hq : q < vs.length) : (splice cur o vs)[o + q]? = vs[q]? := by
  unfold splice
  rw [List.getElem?_toArray, List.append_assoc, List.getElem?_append_right (by simp; omega), List.getElem?_append_left (by simp; omega)]
  congr 1
  simp
  omega
theorem at_put (cur : Array Value) (i : Nat) (e : En) (h : i * 2 + 2 ≤ cur.size) : AtE (splice cur (i * 2) [.string e.1, .string e.2]) i e :=
  ⟨splice_in cur (i * 2) [.string e.1, .string e.2] h 0 (by simp), splice_in cur (i * 2) [.string e.1, .string e.2] h 1 (by simp)⟩
theorem at_far {cur : Array Value} {i p : Nat} {e f : En} (h : i * 2 + 2 ≤ cur.size) (hp : p ≠ i) (ha : AtE cur p f) : AtE (splice cur (i * 2) [.string e.1, .string e.2]) p f :=
  ⟨by rw [splice_out _ _ _ h _ (by simp; omega)]; exact ha.1, by rw [splice_out _ _ _ h _ (by simp; omega)]; exact ha.2⟩
theorem grown_row {w w' : World} {g : Nat} (h : w.grownBy w' (some g)) (cs : Array Value) : w.grownBy (w'.setRow g cs) (some g) :=
  grown_trans h ⟨rfl, rfl, rfl, by simp, fun k hk hne => setRow_other w' g k cs (fun e => hne (by rw [e]))⟩
theorem grown_cell {w w' : World} {g p : Nat} {u : Value} (h : w.grownBy w' (some g)) (hp : p ≠ g) (hc : w.cell? ⟨p, 0, none⟩ = some u) : w'.cell? ⟨p, 0, none⟩ = some u := by
  rw [← hc]
  exact World.cell?_of_block (h.block p (World.block_lt_of_cell? w _ hc) (fun e => hp (Option.some.inj e)))
/-- entries of one's own are made empty -/
theorem run_clearE {w : World} {g off n : Nat} {cur : Array Value} {t : TypeId} (hn : 0 < n) (hb : Blk w g t cur) (h : off + n * 2 ≤ cur.size) :
    ∃ cs, cs.size = cur.size ∧ (∀ q, q < off → cs[q]? = cur[q]?) ∧ ∀ ty c, (Builtin.clear_ #[94] ty #[.slice (some ⟨g, off, none⟩) n c]).run Try.prog w = .ok (.tuple #[]) (w.setRow g cs) := by
  have hz : ∀ W : World, (zeroValue 124).run Try.prog W = .ok (.agg #[.string ⟨#[]⟩, .string ⟨#[]⟩]) W := by
    intro W
    have hi : (Try.prog.info? 124).map (·.zero) = some (some (.agg #[.string ⟨#[]⟩, .string ⟨#[]⟩])) := by kernel_rfl
    cases hq : Try.prog.info? 124 with
    | none => simp [hq] at hi
    | some i =>
      have hz : i.zero = some (.agg #[.string ⟨#[]⟩, .string ⟨#[]⟩]) := by simpa [hq] using hi
      simp [zeroValue, typeInfo, hq, hz]
  obtain ⟨m, rfl⟩ : ∃ m, n = m + 1 := ⟨n - 1, by omega⟩
  have hl : (Builtin.zeroCells #[.string ⟨#[]⟩, .string ⟨#[]⟩] (m + 1)).toList.length = (m + 1) * 2 := by simp [size_zeroCells]
  have h1 : ∀ u ∈ (Builtin.zeroCells #[.string ⟨#[]⟩, .string ⟨#[]⟩] (m + 1)).toList, u.oneCell' = true := by
    intro u hu
    simp only [Builtin.zeroCells, Array.toList_map, List.mem_map] at hu
    obtain ⟨i, _, rfl⟩ := hu
    rcases Nat.mod_two_eq_zero_or_one i with h0 | h0
    · simp only [List.size_toArray, List.length_cons, List.length_nil, h0]; rfl
    · simp only [List.size_toArray, List.length_cons, List.length_nil, h0]; rfl
  have hst := run_storeCells_at Try.prog g off t (Builtin.zeroCells #[.string ⟨#[]⟩, .string ⟨#[]⟩] (m + 1)).toList 0 cur w hb (by rw [hl]; omega) h1
  simp only [Nat.add_zero] at hst
  refine ⟨splice cur off (Builtin.zeroCells #[.string ⟨#[]⟩, .string ⟨#[]⟩] (m + 1)).toList, splice_size _ _ _ (by rw [hl]; omega), fun q hq => splice_out _ _ _ (by rw [hl]; omega) _ (.inl hq), fun ty c => ?_⟩
  simp [Builtin.clear_, run_underlying Try.underlying94, hz, Value.cells, hst, splice]
end Go.Proofs.Yteegnbdgfedajaa
/- Steps of regions that make and fill variables; structs built of parts. No condition. -/
namespace Go.Proofs.Yteegnbdgfedajaa
open Go.RowKit
set_option linter.unusedVariables false
set_option linter.unusedSimpArgs false

section
variable {P : Program} {ops : Array Oper} {o : Oper} {a : Act} {w : World} {K : Act → World → Prop} {Q : Exit → Act → World → Prop} {E : Prop}
/-- a new variable: one step of a region -/
theorem stp_alloc {t : TypeId} (z : Array Value) (hz : (P.info? t).map (·.zero) = some (some (.agg z))) (hgd : o.guard = none) (ho : o.op = .alloc t)
    (h : K (a.put o.dst (.pointer (some ⟨w.heap.size, 0, none⟩))) (w.alloc (.cells z t))) : if Region.wanted o (yielded ops a.tmps) = true then Oper.wp P o a w K Q else E := by
  have hw : Region.wanted o (yielded ops a.tmps) = true := by simp [Region.wanted, hgd]
  rw [if_pos hw]
  cases hq : P.info? t with
  | none => simp [hq] at hz
  | some i =>
    have hz' : i.zero = some (.agg z) := by simpa [hq] using hz
    have hrun : (Instr.alloc t true (.tuple #[])).run P w = .ok (.pointer (some ⟨w.heap.size, 0, none⟩)) (w.alloc (.cells z t)) := by
      simp [Instr.alloc, zeroValue, typeInfo, hq, hz', newVar, newRow, Value.cells]
    unfold Oper.wp execOp
    simp only [ho, Sem.run_bind, hrun, Result.andThen_ok, Sem.run_pure]
    exact h
/-- a variable of a struct's type, made full: one step of a region -/
theorem stp_box {t : TypeId} {cs : Array Value} (hgd : o.guard = none) (x : Operand) (ho : o.op = .box t x) (hx : a.eval x = .agg cs)
    (h : K (a.put o.dst (.pointer (some ⟨w.heap.size, 0, none⟩))) (w.alloc (.cells cs t))) : if Region.wanted o (yielded ops a.tmps) = true then Oper.wp P o a w K Q else E := by
  have hw : Region.wanted o (yielded ops a.tmps) = true := by simp [Region.wanted, hgd]
  rw [if_pos hw]
  have hrun : (Instr.box t (.agg cs)).run P w = .ok (.pointer (some ⟨w.heap.size, 0, none⟩)) (w.alloc (.cells cs t)) := by
    simp [Instr.box, newVar, newRow, Value.cells]
  unfold Oper.wp execOp
  simp only [ho, hx, Sem.run_bind, hrun, Result.andThen_ok, Sem.run_pure]
  exact h
/-- a struct is stored: one step of a region -/
theorem stp_storeP {t g e n off : Nat} {cs cur : Array Value} (hb : Blk w g e cur) (ht : Agg P t n) (hs : St n cs) (hl : off + n ≤ cur.size) (hgd : o.guard = none) (x y : Operand) (ho : o.op = .store t x y)
    (hx : a.eval x = .pointer (some ⟨g, off, none⟩)) (hy : a.eval y = .agg cs) (hd : o.dst = none) (h : K a (w.setRow g (splice cur off cs.toList))) :
    if Region.wanted o (yielded ops a.tmps) = true then Oper.wp P o a w K Q else E := by
  have hw : Region.wanted o (yielded ops a.tmps) = true := by simp [Region.wanted, hgd]
  rw [if_pos hw]
  have hsz : cs.toList.length = n := by rw [Array.length_toList, hs.size]
  have hrun := run_storeCells_at P g off e cs.toList 0 cur w hb (by rw [hsz]; simpa using hl) hs.one
  simp only [Nat.add_zero] at hrun
  have ht2 := ht.2
  cases hq : P.info? t with
  | none => simp [hq] at ht2
  | some i =>
    have hs' : i.size = cs.toList.length := by rw [hsz]; simpa [hq] using ht2
    unfold Oper.wp execOp
    simp only [ho, hx, hy, Instr.storeAt, Instr.sureAddr, Sem.run_bind, Sem.run_pure, Result.andThen_ok]
    have hst : (storeVar t ⟨g, off, none⟩ (.agg cs)).run P w = .ok () (w.setRow g (splice cur off cs.toList)) := by
      simp only [storeVar, Sem.run_bind, sizeOf, typeInfo]
      simp only [Array.length_toList] at hs'
      simp [hq, hs', Value.cells, hrun, splice]
    rw [hst]
    simp only [Result.andThen_ok, Sem.run_pure]
    simpa [hd, Act.put, Oper.upon] using h
theorem yields_build {S : World → Prop} {t : TypeId} {parts : Array (Nat × Operand)} {cells : Array Value} (hw : Region.wanted o (yielded ops a.tmps) = true) (ho : o.op = .build t parts)
    (hb : P.built t (parts.toList.map fun p => (p.1, a.eval p.2)) = some cells) : YieldsIf P ops S o (.agg cells) a := Or.inl ⟨hw, fun W hW => by
  replace hb : P.built t (parts.map fun (i, x) => (i, a.eval x)).toList = some cells := by rw [Array.toList_map]; exact hb
  unfold execOp
  simp only [ho, Sem.run_bind, run_build (P := P) W t _ cells hb, Result.andThen_ok, Sem.run_pure]⟩
theorem wpl_buildN {rest : List Oper} {t : TypeId} {parts : Array (Nat × Operand)} {cells : Array Value} (hgd : o.guard = none) (ho : o.op = .build t parts)
    (hb : P.built t (parts.toList.map fun p => (p.1, a.eval p.2)) = some cells) (h : wpList P ops Q rest (a.put o.dst (.agg cells)) w) : wpList P ops Q (o :: rest) a w := by
  replace hb : P.built t (parts.map fun (i, x) => (i, a.eval x)).toList = some cells := by rw [Array.toList_map]; exact hb
  refine wpList_plain hgd fun K hK => ?_
  refine wp_build t parts ho (by rw [hb]; rfl) ?_
  rw [hb]
  exact hK _ _ h
end
theorem fill_at (l : List Value) (n off : Nat) (Z : Array Value) (h : off + n + l.length ≤ Z.size) : ((l.zipIdx n).foldl (fun cs x => cs.setIfInBounds (off + x.2) x.1) Z) = splice Z (off + n) l := by
  induction l generalizing n Z with
  | nil =>
    simp only [List.zipIdx_nil, List.foldl_nil, splice, List.length_nil, Nat.add_zero, List.append_nil, List.take_append_drop, Array.toArray_toList]
  | cons x r ih =>
    simp only [List.length_cons] at h
    simp only [List.zipIdx_cons, List.foldl_cons]
    rw [ih (n + 1) _ (by simp; omega)]
    have e := list_seg_step Z.toList (off + n) x r (by simp; omega)
    unfold splice
    rw [Array.toList_setIfInBounds, List.length_cons]
    rw [show off + (n + 1) = off + n + 1 by omega, e]
theorem fill_one (place : Nat → Option (Nat × Nat)) (Z : Array Value) (i off n : Nat) (v : Value) (rest : List (Nat × Value)) (hp : place i = some (off, n)) (hv : v.cells.size = n) (hl : off + n ≤ Z.size) :
    Instr.fill place Z ((i, v) :: rest) = Instr.fill place (splice Z off v.cells.toList) rest := by
  have hf := fill_at v.cells.toList 0 off Z (by rw [Array.length_toList, hv]; omega)
  have hz : v.cells.zipIdx.foldl (fun cs x => cs.setIfInBounds (off + x.2) x.1) Z = splice Z off v.cells.toList := by
    rw [← Array.foldl_toList, Array.toList_zipIdx]
    simpa using hf
  rw [Instr.fill, hp]
  simp only [hv]
  rw [if_neg (by simp; omega)]
  exact congrArg (fun z => Instr.fill place z rest) hz
def zNd : List Value := List.replicate 64 (Value.int .u8 0) ++ [Value.string ⟨#[]⟩, Value.string ⟨#[]⟩]
theorem fold_fillA (cs Z : Array Value) (n : Nat) (hn : cs.size = n) (h : Z.size = n) : Array.foldl (fun cs x => cs.setIfInBounds x.2 x.1) Z cs.zipIdx 0 n = cs := by
  subst hn
  have e := fold_fill cs.toList Z (by simpa using h)
  rw [← Array.toList_zipIdx, Array.foldl_toList] at e
  simpa using e
/-- a node, built of its parts -/
theorem built_node (x : Nd) (hx : x.ok) : Try.prog.built 129 [(0, .agg (numsA .u8 x.l)), (1, .agg (numsA .u8 x.r)), (2, .agg #[.string x.n, .string x.v])] = some x.enc.toArray := by
  have hb : ∀ parts, Try.prog.built 129 parts = Instr.fill (fun i => #[(0, 32), (32, 32), (64, 2)][i]?) zNd.toArray parts := fun parts => by kernel_rfl
  have hnl : (nums .u8 x.l).length = 32 := by rw [nums_length, hx.1.1]
  have hnr : (nums .u8 x.r).length = 32 := by rw [nums_length, hx.2.1.1]
  have e1 : splice zNd.toArray 0 (nums .u8 x.l) = (nums .u8 x.l ++ zNd.drop 32).toArray := by
    have := splice_next [] zNd (nums .u8 x.l) (o := 0) rfl
    rw [hnl] at this
    simpa using this
  have e2 : splice (nums .u8 x.l ++ zNd.drop 32).toArray 32 (nums .u8 x.r) = (nums .u8 x.l ++ nums .u8 x.r ++ zNd.drop 64).toArray := by
    have := splice_next (nums .u8 x.l) (zNd.drop 32) (nums .u8 x.r) (o := 32) hnl
    rw [hnr, List.drop_drop] at this
    exact this
  have e3 : splice (nums .u8 x.l ++ nums .u8 x.r ++ zNd.drop 64).toArray 64 [.string x.n, .string x.v] = x.enc.toArray := by
    have := splice_next (nums .u8 x.l ++ nums .u8 x.r) (zNd.drop 64) [.string x.n, .string x.v] (o := 64) (by rw [List.length_append, hnl, hnr])
    rw [show (zNd.drop 64).drop ([Value.string x.n, Value.string x.v]).length = [] from rfl, List.append_nil] at this
    exact this
  have c1 : (Value.agg (numsA .u8 x.l)).cells.toList = nums .u8 x.l := rfl
  have c2 : (Value.agg (numsA .u8 x.r)).cells.toList = nums .u8 x.r := rfl
  have c3 : (Value.agg #[.string x.n, .string x.v]).cells.toList = [.string x.n, .string x.v] := rfl
  have z1 : zNd.length = 66 := rfl
  rw [hb, fill_one _ _ 0 0 32 _ _ rfl (by rw [← Array.length_toList, c1, hnl]) (by rw [List.size_toArray, z1]; decide), c1, e1,
    fill_one _ _ 1 32 32 _ _ rfl (by rw [← Array.length_toList, c2, hnr]) (by rw [List.size_toArray, List.length_append, hnl]; decide), c2, e2,
    fill_one _ _ 2 64 2 _ _ rfl rfl (by rw [List.size_toArray, List.length_append, List.length_append, hnl, hnr]; decide), c3, e3, Instr.fill]
/-- a number and a whole array in a variable are the results -/
theorem results_tb {P : Program} {w : World} {fn : Func} {c d : Tmp} {t g e n : Nat} {cs : Array Value} (hr : fn.results = #[.tmp d, .cell c t]) (tmps : Array Value) (hp : tmps.getD c undef = .pointer (some ⟨g, 0, none⟩)) (ht : Agg P t n) (hn : cs.size = n) (hb : Blk w g e cs) {v : Value} (hv : tmps.getD d undef = v) :
    (results fn tmps).run P w = .ok (.tuple #[v, .agg cs]) w := by
  have hl := run_loadB (P := P) hb ht hn
  have hp' : tmps[c]?.getD undef = .pointer (some ⟨g, 0, none⟩) := by simpa using hp
  have hv' : tmps[d]?.getD undef = v := by simpa using hv
  simp [results, hr, hp', hv', asAddr, hl]
theorem rd_nd {w : World} {S : Nat → Prop} {A : Option Addr} {c n : Nat} {xs : List Nd} (h : RdL tNd w S (.slice A n c) xs) : Rd w S tNd.sz A xs.length (xs.flatMap tNd.enc) := by
  obtain ⟨A', cap, e, h1, h2, h3, h4⟩ := h
  injection e with e1 e2 e3
  subst e1
  exact h3
theorem ok_nd {w : World} {S : Nat → Prop} {v : Value} {xs : List Nd} (h : RdL tNd w S v xs) : ∀ y ∈ xs, tNd.ok y := by
  obtain ⟨A', cap, e, h1, h2, h3, h4⟩ := h
  exact h4
end Go.Proofs.Yteegnbdgfedajaa
/- Blobs: what the laws, the reference and the program say of one. No condition. -/
namespace Go.Proofs.Yteegnbdgfedajaa
open Go.RowKit
set_option linter.unusedVariables false
set_option linter.unusedSimpArgs false

set_option maxHeartbeats 400000 in
theorem l01Bytes_any (v u : Value) (xs ys : List Int) (w : World) (S S' : Nat → Prop) (h : RdL tByte w S v xs) (h' : RdL tByte w S' u ys) :
    Calls Try.prog 54 #[v, u] w fun e w' => e = .returned (.bool (xs == ys)) ∧ Drawn w w' := by
  obtain ⟨A, cap, rfl, hcap, hlen, hrd, hok⟩ := h
  obtain ⟨A', cap', rfl, hcap', hlen', hrd', hok'⟩ := h'
  have Hrd := Lib.hid (show Rd w S 1 A xs.length (nums .u8 xs) by rw [← flat_bytes]; exact hrd)
  have Hrd' := Lib.hid (show Rd w S' 1 A' ys.length (nums .u8 ys) by rw [← flat_bytes]; exact hrd')
  clear hrd hrd'
  by_cases hl : xs.length = ys.length
  · have Hl := Lib.hid hl
    have hl1 : ((xs.length : Int) != (ys.length : Int)) = false := by simp [hl]
    clear hl
    go_enter Try.func54, Try.ntmps54
    go_wp2
    go_loopw [5] (fun i wr => ∃ k : Nat, k ≤ xs.length ∧ i = .int .i64 k ∧ xs.take k = ys.take k ∧ Drawn w wr)
      (fun i _ => xs.length - (intOf i).toNat)
    case atStart => exact ⟨0, by omega, rfl, by simp, Drawn.refl _⟩
    case round =>
      obtain ⟨k, hk, rfl, ht, hD⟩ := hrel
      have Ht := Lib.hid ht
      have HD := Lib.hid hD
      clear ht hl1 hD
      by_cases hlt : k < xs.length
      · have hlt' : k < ys.length := by rw [← Hl.out]; exact hlt
        obtain ⟨g, o, rfl, hs, hc⟩ := (Hrd.out).byte k hlt
        obtain ⟨g', o', rfl, hs', hc'⟩ := (Hrd'.out).byte k hlt'
        have hd := HD.out.ext.cell hc
        have hd' := HD.out.ext.cell hc'
        clear hc hc'
        by_cases he : gI xs k = gI ys k
        · have He := Lib.hid he
          have hne : (gI xs k != gI ys k) = false := by simpa using he
          clear he
          go_wp2
          go_quiet (fail)
          go_wp2
          go_roundw
          case rel => exact ⟨k + 1, by omega, by go_num, take_eq_step hlt hlt' Ht.out He.out, HD.out.drewN _⟩
          case measure => simp [intOf]; omega
        · have He := Lib.hid he
          have hne : (gI xs k != gI ys k) = true := by simpa using he
          clear he
          go_wp2
          go_quiet (fail)
          go_wp2
          go_ret
          exact ⟨by rw [beq_eq_false_iff_ne.2 (fun h => He.out (by rw [h]))]; rfl, HD.out.drewN _⟩
      · go_wp2
        go_ret
        obtain rfl : k = xs.length := by omega
        refine ⟨?_, HD.out⟩
        have e := Ht.out
        rw [List.take_of_length_le (by omega), List.take_of_length_le (by rw [Hl.out]; omega)] at e
        subst e; simp
  · have Hl := Lib.hid hl
    have hl1 : ((xs.length : Int) != (ys.length : Int)) = true := by simp; omega
    clear hl
    go_enter Try.func54, Try.ntmps54
    go_wp2
    go_ret
    exact ⟨by rw [beq_eq_false_iff_ne.2 (fun h => Hl.out (by rw [h]))]; rfl, Drawn.refl _⟩



set_option maxHeartbeats 400000 in
theorem szBlob_any (t : Int) (A : Option Addr) (n c : Nat) (l : Int) (hn : (n : Int) ≤ 140737488355328) (h0 : -1 ≤ l) (h1 : l ≤ 1048576) (w : World) :
    Calls Try.prog 34 #[.agg #[.int .u8 t, .slice A n c], .int .i64 l] w fun e w' => e = .returned (.int .i64 (if l - n < 0 then -1 else l - n)) ∧ Ext w w' := by
  have hc := fun W => szByteS_any A n c l hn h0 h1 W
  by_cases h : l - (n : Int) < 0
  · simp only [if_pos h] at hc ⊢
    go_enter Try.func34, Try.ntmps34
    go_wp2_with (go_at_call 72; refine (hc _).mono ?_; rintro e w' ⟨rfl, rfl⟩)
    go_ret
    exact ⟨rfl, ext_alloc _ _⟩
  · simp only [if_neg h] at hc ⊢
    go_enter Try.func34, Try.ntmps34
    go_wp2_with (go_at_call 72; refine (hc _).mono ?_; rintro e w' ⟨rfl, rfl⟩)
    go_ret
    exact ⟨rfl, ext_alloc _ _⟩

set_option maxHeartbeats 400000 in
theorem toBlob_any (t : Int) (v : Value) (xs : List Int) (w : World) (S : Nat → Prop) (h : RdL tByte w S v xs) :
    Calls Try.prog 36 #[.agg #[.int .u8 t, v]] w fun e w' => ∃ v', e = .returned (.agg #[.int .u8 t, v']) ∧ Own tByte 5 w' w.heap.size v' xs ∧ Ext w w' := by
  go_enter Try.func36, Try.ntmps36
  go_wp2_with fail
  refine (toByteS_any v xs _ S (h.ext (by decide) (((ext_alloc w _).alloc _).alloc _))).mono ?_
  rintro e w1 ⟨v', rfl, ho, hx⟩
  obtain ⟨A', c', rfl⟩ := ho.shape
  have c0 : w1.cell? ⟨w.heap.size + 1 + 1, 0, none⟩ = some (.int .u8 t) := hx.cell (by go_simp)
  have c1 : w1.cell? ⟨w.heap.size + 1 + 1, 1, none⟩ = some (.slice none 0 0) := hx.cell (by go_simp)
  have f1 : w1.frozen? ⟨w.heap.size + 1 + 1, 1, none⟩ = false := hx.free (by simp) (by go_simp)
  have d0 : w1.cell? ⟨w.heap.size + 1, 0, none⟩ = some (.int .u8 0) := hx.cell (by go_simp)
  have d1 : w1.cell? ⟨w.heap.size + 1, 1, none⟩ = some (.slice none 0 0) := hx.cell (by go_simp)
  have e0 : w1.frozen? ⟨w.heap.size + 1, 0, none⟩ = false := hx.free (by simp) (by go_simp)
  have e1 : w1.frozen? ⟨w.heap.size + 1, 1, none⟩ = false := hx.free (by simp) (by go_simp)
  have Ho := Lib.hid ho
  have Hx := Lib.hid hx
  clear ho hx
  go_wp2_with fail
  refine bodyPost_ret (v := .agg #[.int .u8 t, .slice A' xs.length c']) (by simp [results, Try.results36, go_sem, c0, c1, d0, d1, f1, e0, e1]) rfl ?_
  exact ⟨_, rfl, (((Ho.out.set_below (by simp) _).set_below (by simp) _).set_below (by simp) _).le (by simp; omega),
    (((((ext_alloc w _).alloc _).alloc _).trans Hx.out).set (by simp; omega) _ |>.set (by simp) _).set (by simp) _⟩

set_option maxHeartbeats 400000 in
theorem eqBlob_any (t u : Int) (v v' : Value) (xs ys : List Int) (w : World) (S S' : Nat → Prop) (h : RdL tByte w S v xs) (h' : RdL tByte w S' v' ys) :
    Calls Try.prog 39 #[.agg #[.int .u8 t, v], .agg #[.int .u8 u, v']] w fun e w' => e = .returned (.bool (t == u && xs == ys)) ∧ Ext w w' := by
  obtain ⟨A, cap, rfl, _, _⟩ := id h
  obtain ⟨A', cap', rfl, _, _⟩ := id h'
  have H := Lib.hid h
  have H' := Lib.hid h'
  clear h h'
  have hc := fun a b => eqByteS_any _ _ xs ys ((w.alloc a).alloc b) S S' (H.out.ext (by decide) ((ext_alloc w a).alloc b)) (H'.out.ext (by decide) ((ext_alloc w a).alloc b))
  generalize (xs == ys) = q at hc ⊢
  have HC := Lib.hid hc
  clear hc
  by_cases ht : t = u
  · subst ht
    have hne : (t != t) = false := by simp
    have hp : (t == t && q) = q := by simp
    rw [hp]
    clear hp
    go_enter Try.func39, Try.ntmps39
    go_wp2_with fail
    refine (HC.out _ _).mono ?_
    rintro e w1 ⟨rfl, hD⟩
    have HD := Lib.hid hD
    clear hD
    cases q
    all_goals
      go_wp2_with fail
      go_ret
      exact ⟨rfl, ((ext_alloc w _).alloc _).trans HD.out.ext⟩
  · have hne : (t != u) = true := by simpa using ht
    have hp : (t == u && q) = false := by simp [ht]
    rw [hp]
    clear hp ht
    go_enter Try.func39, Try.ntmps39
    go_wp2_with fail
    go_ret
    exact ⟨rfl, (ext_alloc w _).alloc _⟩

/-! ### a valid blob -/
set_option maxHeartbeats 400000 in
theorem implValidBlob_any (t : Int) (A : Option Addr) (n c : Nat) (w : World) :
    Calls Try.prog 75 #[.agg #[.int .u8 t, .slice A n c]] w fun e w' => e = .returned (.bool (decide (n ≤ 1024))) ∧ Ext w w' := by
  go_enter Try.func75, Try.ntmps75
  go_wp2
  go_ret
  exact ⟨ret_bool (by simp; omega), ext_alloc _ _⟩

end Go.Proofs.Yteegnbdgfedajaa
/- Whether two blobs are equal: the reference and the program. No condition. -/
namespace Go.Proofs.Yteegnbdgfedajaa
open Go.RowKit
set_option linter.unusedVariables false
set_option linter.unusedSimpArgs false

theorem strOf_eq {xs ys : List Int} (hx : B8 xs) (hy : B8 ys) : ((strOfNums xs).toList == (strOfNums ys).toList) = (xs == ys) := by
  rw [ByteArray.toList_eq, ByteArray.toList_eq, Bool.eq_iff_iff, beq_iff_eq, beq_iff_eq]
  constructor
  · intro h
    have h1 : xs.map (fun n => UInt8.ofNat n.toNat) = ys.map (fun n => UInt8.ofNat n.toNat) := h
    clear h
    induction xs generalizing ys with
    | nil => cases ys with
      | nil => rfl
      | cons y r => simp at h1
    | cons x r ih =>
      cases ys with
      | nil => simp at h1
      | cons y q =>
        simp only [List.map_cons, List.cons.injEq] at h1
        have a := hx x (by simp)
        have b := hy y (by simp)
        have e := congrArg UInt8.toNat h1.1
        simp only [UInt8.toNat_ofNat'] at e
        have : x = y := by omega
        rw [this, ih (fun z hz => hx z (by simp [hz])) (fun z hz => hy z (by simp [hz])) h1.2]
  · rintro rfl
    rfl
theorem conv_str {v : Value} {xs : List Int} {w : World} {S : Nat → Prop} (h : RdL tByte w S v xs) : (convert 22 9 v).run Try.prog w = .ok (.string (strOfNums xs)) w := by
  obtain ⟨A, cap, rfl, hcap, hlen, hrd, hok⟩ := h
  rw [flat_bytes] at hrd
  rcases Nat.eq_zero_or_pos xs.length with h0 | h0
  · obtain rfl : xs = [] := List.eq_nil_of_length_eq_zero h0
    rw [run_convert_bytes_string w _ _ _ A _ cap Try.underlying22 Try.underlying5 Try.underlying9]
    cases A <;> simp [Conv.bytesToString, loadCells] <;> rfl
  · obtain ⟨g, o, rfl, _, hc⟩ := hrd.2 h0
    exact run_convert_bytes_arg w _ _ Try.underlying22 Try.underlying5 g o xs.length cap xs rfl (fun i hi => hc i _ (nums_at _ _ _ hi)) _ Try.underlying9

set_option maxHeartbeats 400000 in
theorem bytesEqual_any (v u : Value) (xs ys : List Int) (w : World) (S S' : Nat → Prop) (h : RdL tByte w S v xs) (h' : RdL tByte w S' u ys) :
    Calls Try.prog 81 #[v, u] w fun e w' => e = .returned (.bool (xs == ys)) ∧ w = w' := by
  have e1 := conv_str h
  have e2 := conv_str h'
  obtain ⟨A, cap, rfl, _, _, _, hok⟩ := h
  obtain ⟨A', cap', rfl, _, _, _, hok'⟩ := h'
  have he := Lib.hid (strOf_eq hok hok')
  go_enter Try.func81, Try.ntmps81
  go_wp2
  go_ret
  exact ⟨by rw [← he.out]; rfl, rfl⟩

set_option maxHeartbeats 1000000 in
theorem l05SameBlob_any (g o g' o' : Nat) (t u : Int) (v v' : Value) (xs ys : List Int) (w : World) (S S' : Nat → Prop) (h : RdL tByte w S v xs) (h' : RdL tByte w S' v' ys)
    (ha0 : w.cell? ⟨g, o, none⟩ = some (.int .u8 t)) (ha1 : w.cell? ⟨g, o + 1, none⟩ = some v) (hb0 : w.cell? ⟨g', o', none⟩ = some (.int .u8 u)) (hb1 : w.cell? ⟨g', o' + 1, none⟩ = some v') :
    Calls Try.prog 46 #[.pointer (some ⟨g, o, none⟩), .pointer (some ⟨g', o', none⟩)] w fun e w' => e = .returned (.bool (t == u && xs == ys)) ∧ Drawn w w' := by
  obtain ⟨A, cap, rfl, _, _⟩ := id h
  obtain ⟨A', cap', rfl, _, _⟩ := id h'
  have hc := fun n => l01Bytes_any _ _ xs ys (w.drewN n) S S' (h.ext (by decide) ((Ext.refl _).drewN n)) (h'.ext (by decide) ((Ext.refl _).drewN n))
  generalize (xs == ys) = q at hc ⊢
  have HC := Lib.hid hc
  clear hc h h'
  by_cases ht : t = u
  · subst ht
    have hne : (t == t) = true := by simp
    have hp : (t == t && q) = q := by simp
    rw [hp]
    clear hp
    go_enter Try.func46, Try.ntmps46
    go_wp2_with fail
    go_quiet ((go_at_call 54; exact Calls.quiet_of (HC.out _)))
    go_wp2_with fail
    go_ret
    exact ⟨rfl, ⟨_, rfl⟩⟩
  · have hne : (t == u) = false := by simpa using ht
    have hp : (t == u && q) = false := by simp [ht]
    rw [hp]
    clear hp ht
    go_enter Try.func46, Try.ntmps46
    go_wp2_with fail
    go_quiet (fail)
    go_wp2_with fail
    go_ret
    exact ⟨rfl, ⟨_, rfl⟩⟩

set_option maxHeartbeats 1000000 in
theorem implSameBlob_any (t u : Int) (v v' : Value) (xs ys : List Int) (w : World) (S S' : Nat → Prop) (h : RdL tByte w S v xs) (h' : RdL tByte w S' v' ys) :
    Calls Try.prog 49 #[.agg #[.int .u8 t, v], .agg #[.int .u8 u, v']] w fun e w' => e = .returned (.bool (t == u && xs == ys)) ∧ Ext w w' := by
  obtain ⟨A, cap, rfl, _, _⟩ := id h
  obtain ⟨A', cap', rfl, _, _⟩ := id h'
  have hc := fun a b => bytesEqual_any _ _ xs ys ((w.alloc a).alloc b) S S' (h.ext (by decide) ((ext_alloc w a).alloc b)) (h'.ext (by decide) ((ext_alloc w a).alloc b))
  generalize (xs == ys) = q at hc ⊢
  have HC := Lib.hid hc
  clear hc h h'
  by_cases ht : t = u
  · subst ht
    have hne : (t == t) = true := by simp
    have hp : (t == t && q) = q := by simp
    rw [hp]
    clear hp
    go_enter Try.func49, Try.ntmps49
    go_wp2_with (go_at_call 81; refine (HC.out _ _).mono ?_; rintro e w' ⟨rfl, rfl⟩)
    go_ret
    exact ⟨rfl, (ext_alloc _ _).alloc _⟩
  · have hne : (t == u) = false := by simpa using ht
    have hp : (t == u && q) = false := by simp [ht]
    rw [hp]
    clear hp ht
    go_enter Try.func49, Try.ntmps49
    go_wp2_with fail
    go_ret
    exact ⟨rfl, (ext_alloc _ _).alloc _⟩

end Go.Proofs.Yteegnbdgfedajaa
/- A commit read from bytes: the program. No condition. -/
namespace Go.Proofs.Yteegnbdgfedajaa
open Go.RowKit
set_option linter.unusedVariables false
set_option linter.unusedSimpArgs false

set_option maxHeartbeats 4000000 in
set_option maxRecDepth 100000 in
theorem keysIn_any (v : Value) (al : List Int) (m : Nat) (w : World) (S : Nat → Prop) (h : RdL tByte w S v al) (hm : al.length = 32 * m) (hl : al.length ≤ 140737488355) :
    Calls Try.prog 57 #[v] w fun e w' => ∃ v', e = .returned v' ∧ Own tKey 40 w' w.heap.size v' (blocksL al m) ∧ Ext w w' := by
  obtain ⟨A, cap, rfl, hcap, hlen, hrd, hok⟩ := h
  have Hrd := Lib.hid (show Rd w S 1 A al.length (nums .u8 al) by rw [← flat_bytes]; exact hrd)
  have Hok := Lib.hid (show B8 al from hok)
  clear hrd hok
  have rowBlk : Row Try.prog tKey 41 40 32 := Row.mk' (by kernel_rfl) (.agg #[.int .u8 0, .int .u8 0, .int .u8 0, .int .u8 0, .int .u8 0, .int .u8 0, .int .u8 0, .int .u8 0, .int .u8 0, .int .u8 0, .int .u8 0, .int .u8 0, .int .u8 0, .int .u8 0, .int .u8 0, .int .u8 0, .int .u8 0, .int .u8 0, .int .u8 0, .int .u8 0, .int .u8 0, .int .u8 0, .int .u8 0, .int .u8 0, .int .u8 0, .int .u8 0, .int .u8 0, .int .u8 0, .int .u8 0, .int .u8 0, .int .u8 0, .int .u8 0]) (by kernel_rfl) rfl (by decide) (by decide)
  have HR := Lib.hid rowBlk
  clear rowBlk
  go_enter Try.func57, Try.ntmps57
  go_wp2_with fail
  go_loopw [0, 3] (fun d o wr => ∃ (k : Nat) (A1 : Option Addr) (c1 : Nat), k ≤ m ∧ d = .slice A1 (al.drop (32 * k)).length c1 ∧ (al.drop (32 * k)).length ≤ c1 ∧ Rd w S 1 A1 (al.drop (32 * k)).length (nums .u8 (al.drop (32 * k))) ∧ Own tKey 40 wr w.heap.size o (blocksL al k) ∧ Ext w wr) (fun d _ _ => lenV d)
  case atStart => exact ⟨0, A, cap, by omega, rfl, hcap, Hrd.out, Own.empty _ _ _ _ (Nat.le_refl _), ext_alloc _ _⟩
  case round =>
    obtain ⟨k, A1, c1, hk, rfl, hc1, hr, ho, hx⟩ := hrel
    have HX := Lib.hid hx
    have HO := Lib.hid ho
    have HR1 := Lib.hid hr
    obtain ⟨B, bn, bc, rfl⟩ := ho.shape3
    clear hx ho hr
    have hdl : (al.drop (32 * k)).length = 32 * (m - k) := by rw [List.length_drop]; omega
    rw [hdl] at HR1 hc1 ⊢
    by_cases hlt : k < m
    · obtain ⟨n, hn⟩ : ∃ n, n = 32 * (m - k) := ⟨_, rfl⟩
      rw [← hn] at HR1 hc1 ⊢
      have hn32 : 32 ≤ n := by omega
      obtain ⟨g, o, rfl, hs, hcell⟩ := HR1.out.2 (by omega)
      have hK := blockL_ok al k Hok.out (by omega)
      have hbl : (blockL al k).length = 32 := hK.1
      have hck : ∀ j u, (nums .u8 (blockL al k))[j]? = some u → wr.cell? ((⟨g, o, none⟩ : Addr).add j) = some u := by
        intro j u hu
        rw [Addr.add_lit]
        refine HX.out.cell (hcell j u ?_)
        have hj : j < 32 := by
          have := (List.getElem?_eq_some_iff.1 hu).1
          rw [nums_length, hbl] at this
          exact this
        rw [blockL_eq] at hu
        rw [← hu]
        simp [nums, List.getElem?_take, hj]
      have HCK := Lib.hid hck
      have HCut := Lib.hid (HR1.out.cut8 32 c1 hn32 hc1)
      have HBS := Lib.hid (blocksL_succ al k)
      have hle : (blocksL al k).length = k := by simp [blocksL]
      generalize blockL al k = blk at *
      have HN := Lib.hid hn
      have HDL := Lib.hid hdl
      have HK := Lib.hid hK
      have HLE := Lib.hid hle
      clear hn hdl hcell hck hK hle
      have hnl : (nums .u8 blk).length = 32 := by rw [nums_length, hbl]
      have hge : (32 : Int) ≤ (n : Int) := by omega
      have W7 : ¬ n < 32 := by omega
      have harr : (Instr.arrayAt 40 (.slice (some ⟨g, o, none⟩) n c1)).run Try.prog wr = .ok (.pointer (some ⟨g, o, none⟩)) wr := by
        simp [Instr.arrayAt, run_underlying (show Try.prog.underlying 40 = some (.array 32 5) by kernel_rfl), W7]
      go_wp2_with (first
        | (refine wpl_load ⟨g, o, none⟩ (nums .u8 blk) (by rw [nums_length, hbl]; exact aggKey) rfl _ rfl rfl HCK.out ?_)
        | (at_builtin; rw [fold_fill (nums .u8 blk) _ (by rw [hnl]; rfl)]; refine wpl_append HR.out rfl _ _ rfl (v := .slice B bn bc) rfl (HO.out.alloc _) _ _ rfl (A := some ⟨wr.heap.size, 0, none⟩) (ys := [blk]) rfl (rd_one (T := tKey) wr blk HK.out _) (by intro y hy; obtain rfl := List.mem_singleton.1 hy; exact HK.out) (by rw [HLE.out]; simp; omega) (HX.out.alloc _).size ?_; intro v9 w9 ho1 hg1 hat1; have HX9 := Lib.hid ((HO.out.alloc _).ext_app (HX.out.alloc _) hg1); have HO9 := Lib.hid ho1; clear ho1 hg1 hat1))
      go_roundw
      case rel =>
        have hcut := HCut.out
        rw [List.drop_drop, show 32 * k + 32 = 32 * (k + 1) by omega] at hcut
        have hl2 : (al.drop (32 * (k + 1))).length = n - 32 := by rw [List.length_drop]; have := HN.out; omega
        refine ⟨k + 1, _, c1 - 32, by omega, ?_, by omega, hcut, by rw [HBS.out]; exact HO9.out, HX9.out⟩
        rw [hl2]
      case measure => simp [lenV]; omega
    · obtain rfl : k = m := by omega
      rw [Nat.sub_self, Nat.mul_zero] at HR1 hc1 ⊢
      go_wp2_with fail
      go_ret
      exact ⟨_, rfl, HO.out, HX.out⟩

/-- a commit, built of its parts -/
def zCm : List Value := List.replicate 32 (Value.int .u8 0) ++ [.slice none 0 0, .int .i64 0, .string ⟨#[]⟩]
theorem built_zeroC : Try.prog.built 43 [] = some (zeroC.cells (.slice none 0 0)) := by kernel_rfl
theorem built_commit (K : List Int) (hK : K.length = 32) (A : Option Addr) (n c : Nat) (m : Int) (s : ByteArray) (par : List (List Int)) : Try.prog.built 43 [(0, .agg (nums .u8 K).toArray), (1, .slice A n c), (2, .int .i64 m), (3, .string s)] = some (Cm.cells ⟨K, par, m, s⟩ (.slice A n c)) := by
  have hb : ∀ parts, Try.prog.built 43 parts = Instr.fill (fun i => #[(0, 32), (32, 1), (33, 1), (34, 1)][i]?) zCm.toArray parts := fun parts => by kernel_rfl
  have hn : (nums .u8 K).length = 32 := by rw [nums_length, hK]
  have e0 : splice zCm.toArray 0 (nums .u8 K) = (nums .u8 K ++ [Value.slice none 0 0, .int .i64 0, .string ⟨#[]⟩]).toArray := by
    have := splice_next [] zCm (nums .u8 K) (o := 0) rfl
    rw [hn] at this
    simpa [zCm] using this
  have e1 : splice (nums .u8 K ++ [Value.slice none 0 0, .int .i64 0, .string ⟨#[]⟩]).toArray 32 [.slice A n c] = (nums .u8 K ++ [Value.slice A n c] ++ [Value.int .i64 0, Value.string ⟨#[]⟩]).toArray := splice_next (nums .u8 K) [Value.slice none 0 0, .int .i64 0, .string ⟨#[]⟩] [.slice A n c] (o := 32) hn
  have e2 : splice (nums .u8 K ++ [Value.slice A n c] ++ [Value.int .i64 0, Value.string ⟨#[]⟩]).toArray 33 [.int .i64 m] = (nums .u8 K ++ [Value.slice A n c] ++ [Value.int .i64 m] ++ [Value.string ⟨#[]⟩]).toArray := splice_next (nums .u8 K ++ [Value.slice A n c]) [.int .i64 0, .string ⟨#[]⟩] [.int .i64 m] (o := 33) (by simp [hn])
  have e3 : splice (nums .u8 K ++ [Value.slice A n c] ++ [Value.int .i64 m] ++ [Value.string ⟨#[]⟩]).toArray 34 [.string s] = Cm.cells ⟨K, par, m, s⟩ (.slice A n c) := by
    have := splice_next (nums .u8 K ++ [Value.slice A n c] ++ [Value.int .i64 m]) [.string ⟨#[]⟩] [.string s] (o := 34) (by simp [hn])
    rw [this]
    simp [Cm.cells]
  have c0 : (Value.agg (nums .u8 K).toArray).cells.toList = nums .u8 K := rfl
  rw [hb, fill_one _ _ 0 0 32 _ _ rfl (by rw [← Array.length_toList, c0, hn]) (by decide), c0, e0,
    fill_one _ _ 1 32 1 _ _ rfl rfl (by simp [hn]), show (Value.slice A n c).cells.toList = [.slice A n c] from rfl, e1,
    fill_one _ _ 2 33 1 _ _ rfl rfl (by simp [hn]), show (Value.int .i64 m).cells.toList = [.int .i64 m] from rfl, e2,
    fill_one _ _ 3 34 1 _ _ rfl rfl (by simp [hn]), show (Value.string s).cells.toList = [.string s] from rfl, e3, Instr.fill]
theorem blocksL_take (l : List Int) (n m : Nat) (h : 32 * n ≤ m) : blocksL (l.take m) n = blocksL l n := by
  unfold blocksL
  refine List.map_congr_left fun i hi => ?_
  rw [List.mem_range] at hi
  rw [blockL_eq, blockL_eq, List.drop_take, List.take_take]
  congr 1
  omega
theorem Own.head {α : Type} {T : Ty α} {e : TypeId} {w : World} {base : Nat} {v : Value} {xs : List α} (h : Own T e w base v xs) (h0 : 0 < xs.length) : ∃ g cap, v = .slice (some ⟨g, 0, none⟩) xs.length cap := by
  rcases h.1.2 with ⟨_, h1⟩ | ⟨g, cap, cur, rfl, _⟩
  · omega
  · exact ⟨g, cap, rfl⟩
theorem yields_loadR' {P : Program} {ops : Array Oper} {op : Oper} {a : Act} {w0 : World} {t : Nat} (g o : Nat) (cs : List Value) (ht : Agg P t cs.length) (hc : ∀ j u, cs[j]? = some u → w0.cell? ⟨g, o + j, none⟩ = some u) (hw : Region.wanted op (yielded ops a.tmps) = true) (x : Operand) (ho : op.op = .load t x) (hx : a.eval x = .pointer (some ⟨g, o, none⟩)) :
    YieldsIf P ops (fun W => Ext w0 W) op (.agg cs.toArray) a := yields_loadR g o cs ht hc hw x ho hx
theorem setRow_grown9 (w : World) (g : Nat) (cs : Array Value) : w.grownBy (w.setRow g cs) (some g) := ⟨rfl, rfl, rfl, by simp, fun k _ hk => setRow_other w g k cs (fun e => hk (by rw [e]))⟩
theorem zeroC_st : St 35 (zeroC.cells (.slice none 0 0)) := Cm.st zeroC_ok.1 _ _ _
theorem results_bt' {P : Program} {w : World} {fn : Func} {c d : Tmp} {t g e n : Nat} {cs : Array Value} (hr : fn.results = #[.cell c t, .tmp d]) (tmps : Array Value) (hp : tmps.getD c undef = .pointer (some ⟨g, 0, none⟩)) (ht : Agg P t n) (hn : cs.size = n) (hb : Blk w g e cs) {v : Value} (hv : tmps.getD d undef = v) :
    (results fn tmps).run P w = .ok (.tuple #[.agg cs, v]) w := by
  have hl := run_loadB (P := P) hb ht hn
  have hp' : tmps[c]?.getD undef = .pointer (some ⟨g, 0, none⟩) := by simpa using hp
  have hv' : tmps[d]?.getD undef = v := by simpa using hv
  simp [results, hr, hp', hv', asAddr, hl]
theorem stp_alloc' {P : Program} {ops : Array Oper} {o : Oper} {a : Act} {w : World} {K : Act → World → Prop} {Q : Exit → Act → World → Prop} {E : Prop} {t : TypeId} (z : Array Value) (hz : (P.info? t).map (·.zero) = some (some (.agg z))) (hgd : o.guard = none) (ho : o.op = .alloc t)
    (h : K (a.put o.dst (.pointer (some ⟨w.heap.size, 0, none⟩))) (w.alloc (.cells z t))) : if Region.wanted o (yielded ops a.tmps) = true then Oper.wp P o a w K Q else E := by
  have hw : Region.wanted o (yielded ops a.tmps) = true := by simp [Region.wanted, hgd]
  rw [if_pos hw]
  cases hq : P.info? t with
  | none => simp [hq] at hz
  | some i =>
    have hz' : i.zero = some (.agg z) := by simpa [hq] using hz
    have hrun : (Instr.alloc t true (.tuple #[])).run P w = .ok (.pointer (some ⟨w.heap.size, 0, none⟩)) (w.alloc (.cells z t)) := by
      simp [Instr.alloc, zeroValue, typeInfo, hq, hz', newVar, newRow, Value.cells]
    unfold Oper.wp execOp
    simp only [ho, Sem.run_bind, hrun, Result.andThen_ok, Sem.run_pure]
    exact h
set_option maxHeartbeats 8000000 in
set_option maxRecDepth 100000 in
theorem rcEmpty (v : Value) (d : List Int) (w : World) (S : Nat → Prop) (h : RdL tByte w S v d) (h0 : d.length = 0) :
    Calls Try.prog 25 #[v] w fun e w' => ∃ v', e = .returned (.tuple #[.agg (Cm.cells zeroC v'), .int .i64 5]) ∧ OwnX tKey w' w.heap.size v' (Cm.par zeroC) ∧ Ext w w' := by
  obtain ⟨A, cap, rfl, hcap, hlen, hrd, hok⟩ := h
  have Hrd := Lib.hid (show Rd w S 1 A d.length (nums .u8 d) by rw [← flat_bytes]; exact hrd)
  have Hok := Lib.hid (show B8 d from hok)
  have HZS := Lib.hid zeroC_st
  have hzs := HZS.out.size
  clear hrd hok
  have h0I : ((d.length : Int) == 0) = true := by rw [h0]; rfl
  go_enter Try.func25, Try.ntmps25
  have BZ := Lib.hid (Blk.new w 43 (zeroC.cells (.slice none 0 0)))
  go_wp2_with (first | (refine wpl_buildN rfl rfl built_zeroC ?_) | (refine wpl_storeB BZ.out aggCommitI HZS.out rfl rfl _ _ rfl rfl rfl rfl ?_))
  refine bodyPost_ret (results_bt' rfl _ rfl aggCommitI hzs (BZ.out.setRow _) rfl) rfl ?_
  exact ⟨_, rfl, OwnX.nil _ _ _ (by decide), (ext_alloc _ _).setRow (Nat.le_refl _) _⟩
set_option maxHeartbeats 8000000 in
set_option maxRecDepth 100000 in
theorem rcZero (v : Value) (d : List Int) (w : World) (S : Nat → Prop) (h : RdL tByte w S v d) (h0 : d.length ≠ 0) (h1 : gI d 0 = 0) :
    Calls Try.prog 25 #[v] w fun e w' => ∃ v', e = .returned (.tuple #[.agg (Cm.cells zeroC v'), .int .i64 5]) ∧ OwnX tKey w' w.heap.size v' (Cm.par zeroC) ∧ Ext w w' := by
  obtain ⟨A, cap, rfl, hcap, hlen, hrd, hok⟩ := h
  have Hrd := Lib.hid (show Rd w S 1 A d.length (nums .u8 d) by rw [← flat_bytes]; exact hrd)
  have Hok := Lib.hid (show B8 d from hok)
  have HZS := Lib.hid zeroC_st
  have hzs := HZS.out.size
  clear hrd hok
  obtain ⟨g, o, rfl, hs, hc0⟩ := (Hrd.out).byte 0 (by omega)
  have hc0a : ∀ z, (w.alloc z).cell? ⟨g, o, none⟩ = some (.int .u8 (gI d 0)) := fun z => (ext_alloc w z).cell hc0
  clear hc0
  have h0I : ((d.length : Int) == 0) = false := by rw [beq_eq_false_iff_ne]; omega
  rw [h1] at hc0a
  clear h1
  go_enter Try.func25, Try.ntmps25
  have BZ := Lib.hid (Blk.new w 43 (zeroC.cells (.slice none 0 0)))
  go_wp2_with (first | (refine wpl_buildN rfl rfl built_zeroC ?_) | (refine wpl_storeB BZ.out aggCommitI HZS.out rfl rfl _ _ rfl rfl rfl rfl ?_))
  refine bodyPost_ret (results_bt' rfl _ rfl aggCommitI hzs (BZ.out.setRow _) rfl) rfl ?_
  exact ⟨_, rfl, OwnX.nil _ _ _ (by decide), (ext_alloc _ _).setRow (Nat.le_refl _) _⟩
set_option maxHeartbeats 8000000 in
set_option maxRecDepth 100000 in
theorem rcShort (v : Value) (d : List Int) (w : World) (S : Nat → Prop) (h : RdL tByte w S v d) (n : Nat) (h1 : gI d 0 = (n : Int)) (h2 : 1 ≤ n) (h3 : n ≤ 255) (h0 : d.length ≠ 0) (h4 : d.length < 2 + 32 * n) :
    Calls Try.prog 25 #[v] w fun e w' => ∃ v', e = .returned (.tuple #[.agg (Cm.cells zeroC v'), .int .i64 5]) ∧ OwnX tKey w' w.heap.size v' (Cm.par zeroC) ∧ Ext w w' := by
  obtain ⟨A, cap, rfl, hcap, hlen, hrd, hok⟩ := h
  have Hrd := Lib.hid (show Rd w S 1 A d.length (nums .u8 d) by rw [← flat_bytes]; exact hrd)
  have Hok := Lib.hid (show B8 d from hok)
  have HZS := Lib.hid zeroC_st
  have hzs := HZS.out.size
  clear hrd hok
  obtain ⟨g, o, rfl, hs, hc0⟩ := (Hrd.out).byte 0 (by omega)
  have hc0a : ∀ z, (w.alloc z).cell? ⟨g, o, none⟩ = some (.int .u8 (gI d 0)) := fun z => (ext_alloc w z).cell hc0
  clear hc0
  have h0I : ((d.length : Int) == 0) = false := by rw [beq_eq_false_iff_ne]; omega
  rw [h1] at hc0a
  have h2I : ((n : Int) == 0) = false := by rw [beq_eq_false_iff_ne]; omega
  have h4I : decide ((d.length : Int) < 2 + 32 * (n : Int)) = true := by rw [decide_eq_true_iff]; omega
  clear h1
  go_enter Try.func25, Try.ntmps25
  have BZ := Lib.hid (Blk.new w 43 (zeroC.cells (.slice none 0 0)))
  go_wp2_with (first | (refine wpl_buildN rfl rfl built_zeroC ?_) | (refine wpl_storeB BZ.out aggCommitI HZS.out rfl rfl _ _ rfl rfl rfl rfl ?_))
  refine bodyPost_ret (results_bt' rfl _ rfl aggCommitI hzs (BZ.out.setRow _) rfl) rfl ?_
  exact ⟨_, rfl, OwnX.nil _ _ _ (by decide), (ext_alloc _ _).setRow (Nat.le_refl _) _⟩
set_option maxHeartbeats 8000000 in
set_option maxRecDepth 100000 in
theorem rcMain (v : Value) (d : List Int) (w : World) (S : Nat → Prop) (h : RdL tByte w S v d) (n : Nat) (h1 : gI d 0 = (n : Int)) (h2 : 1 ≤ n) (h3 : n ≤ 255) (h0 : d.length ≠ 0) (h4 : ¬ d.length < 2 + 32 * n) (hdl : d.length ≤ 1048576) (ok : Bool) (hc : okCm (rcC d) = ok) :
    Calls Try.prog 25 #[v] w fun e w' => ∃ v', e = .returned (.tuple #[.agg (Cm.cells (if ok then rcC d else zeroC) v'), .int .i64 (if ok then 0 else 5)]) ∧ OwnX tKey w' w.heap.size v' (Cm.par (if ok then rcC d else zeroC)) ∧ Ext w w' := by
  obtain ⟨A, cap, rfl, hcap, hlen, hrd, hok⟩ := h
  have Hrd := Lib.hid (show Rd w S 1 A d.length (nums .u8 d) by rw [← flat_bytes]; exact hrd)
  have Hok := Lib.hid (show B8 d from hok)
  have HZS := Lib.hid zeroC_st
  have hzs := HZS.out.size
  clear hrd hok
  obtain ⟨g, o, rfl, hs, hc0⟩ := (Hrd.out).byte 0 (by omega)
  have hc0a : ∀ z, (w.alloc z).cell? ⟨g, o, none⟩ = some (.int .u8 (gI d 0)) := fun z => (ext_alloc w z).cell hc0
  clear hc0
  have h0I : ((d.length : Int) == 0) = false := by rw [beq_eq_false_iff_ne]; omega
  rw [h1] at hc0a
  have h2I : ((n : Int) == 0) = false := by rw [beq_eq_false_iff_ne]; omega
  have h4I : decide ((d.length : Int) < 2 + 32 * (n : Int)) = false := by rw [decide_eq_false_iff_not]; omega
  have hk1 : ¬ cap = 1 := by omega
  have e1 : (1 + 32 * (n : Int)).toNat = 1 + 32 * n := by omega
  have i0 : (0 : Int) ≤ 1 + 32 * (n : Int) := by omega
  have i1 : (1 : Int) ≤ 1 + 32 * (n : Int) := by omega
  have i2 : 1 + 32 * (n : Int) ≤ (cap : Int) := by omega
  have i3 : 1 + 32 * (n : Int) < (d.length : Int) := by omega
  have hsub := Hrd.out.sub8 1 (32 * n) (by omega)
  have hl1 : ((d.drop 1).take (32 * n)).length = 32 * n := by simp; omega
  have hkeys := fun W (hW : Ext w W) => keysIn_any (.slice (some ⟨g, o + 1, none⟩) (32 * n) (cap - 1)) ((d.drop 1).take (32 * n)) n W S (RdL.ext (T := tByte) ⟨_, cap - 1, by rw [hl1], by rw [hl1]; omega, by rw [hl1]; omega, hsub, fun x hx => Hok.out x (List.mem_of_mem_drop (List.mem_of_mem_take hx))⟩ (by decide) hW) hl1 (by omega)
  rw [blocksL_take _ _ _ (Nat.le_refl _)] at hkeys
  have HKS := Lib.hid hkeys
  clear hkeys hsub hl1
  have h1' := h1
  clear h1
  go_enter Try.func25, Try.ntmps25
  go_wp2_with fail
  refine (HKS.out _ (ext_alloc _ _)).mono ?_
  rintro e w2 ⟨v2, rfl, hk, hx⟩
  have hbl : (blocksL (d.drop 1) n).length = n := by simp [blocksL]
  obtain ⟨gk, ck, rfl⟩ := hk.head (by omega)
  have BZ := Lib.hid ((Blk.new w 43 (zeroC.cells (.slice none 0 0))).ext hx)
  have XW := Lib.hid ((ext_alloc w (.cells (zeroC.cells (.slice none 0 0)) 43)).trans hx)
  have HKX := Lib.hid (hk.x (by decide))
  have hcc : n ≤ ck := by
    obtain ⟨A9, c9, e9, h9, _⟩ := hk.rd
    injection e9 with _ _ e9
    omega
  obtain ⟨g9, o9, e9, hk0⟩ : ∃ g9 o9, (some ⟨gk, 0, none⟩ : Option Addr) = some ⟨g9, o9, none⟩ ∧ ∀ j u, (nums .u8 (blockL (d.drop 1) 0))[j]? = some u → w2.cell? ⟨g9, o9 + j, none⟩ = some u := by
    obtain ⟨A9, c9, e9, _, _, h9, h8⟩ := hk.rd
    injection e9 with e9
    obtain ⟨g9, o9, e7, _, h7⟩ := h9.elem h8 0 (by omega)
    refine ⟨g9, o9, e9.trans e7, fun j u hu => ?_⟩
    have := h7 j u (by simpa [blocksL, tKey] using hu)
    simpa using this
  injection e9 with e9
  injection e9 with e8 e7
  subst e8 e7
  have HK0 := Lib.hid hk0
  have hr0 := HKX.out.cut1 (by omega)
  obtain ⟨Y, hY⟩ : ∃ Y, (if ck = 1 then (some ⟨gk, 0, none⟩ : Option Addr) else some ⟨gk, 32, none⟩) = Y := ⟨_, rfl⟩
  rw [show tKey.sz = 32 from rfl, hY] at hr0
  rw [hbl] at hr0
  replace hr0 := hr0.le (base' := w.heap.size + 1) (by simp)
  have HR0 := Lib.hid hr0
  rw [hbl]
  clear hk hk0 hr0 HKX hx HKS hc0a
  have hcB : ∀ W, Ext w2 W → W.cell? ⟨g, o + (1 + 32 * n), none⟩ = some (.int .u8 (gI d (1 + 32 * n))) := fun W hW => by
    obtain ⟨g6, o6, e6, _, h6⟩ := Hrd.out.byte (1 + 32 * n) (by omega)
    injection e6 with e6
    injection e6 with e5 e4
    subst e5 e4
    exact (XW.out.trans hW).cell h6
  have hB8 := B8.get Hok.out (1 + 32 * n)
  have w1 : IntKind.i64.wrap (1 + 32 * (n : Int) + 1) = 1 + 32 * (n : Int) + 1 := IntWalk.i64_in _ (by omega)
  have e2 : (1 + 32 * (n : Int) + 1).toNat = 2 + 32 * n := by omega
  have j0 : (0 : Int) ≤ 1 + 32 * (n : Int) + 1 := by omega
  have j1 : 1 + 32 * (n : Int) + 1 ≤ (cap : Int) := by omega
  have j2 : 1 + 32 * (n : Int) + 1 ≤ (d.length : Int) := by omega
  have j3 : (1 : Int) ≤ (n : Int) := by omega
  have j5 : (0 : Int) < (n : Int) := by omega
  have j6 : 0 < n := by omega
  have j4 : (1 : Int) ≤ (ck : Int) := by omega
  obtain ⟨Z, hZ, hcv⟩ : ∃ Z, (if cap = 2 + 32 * n then (some ⟨g, o, none⟩ : Option Addr) else some ⟨g, o + (2 + 32 * n), none⟩) = Z ∧ ∀ W, Ext w2 W → (convert 22 9 (.slice Z (d.length - (2 + 32 * n)) (cap - (2 + 32 * n)))).run Try.prog W = .ok (.string (strOfNums (d.drop (2 + 32 * n)))) W := by
    refine ⟨_, rfl, fun W hW => ?_⟩
    have h7 := Hrd.out.cut8 (2 + 32 * n) cap (by omega) hcap
    have h8 : RdL tByte w S (.slice (if cap = 2 + 32 * n then (some ⟨g, o, none⟩ : Option Addr) else some ⟨g, o + (2 + 32 * n), none⟩) (d.length - (2 + 32 * n)) (cap - (2 + 32 * n))) (d.drop (2 + 32 * n)) := ⟨_, cap - (2 + 32 * n), by rw [List.length_drop], by rw [List.length_drop]; omega, by rw [List.length_drop]; omega, by rw [flat_bytes]; exact h7, fun x hx => Hok.out x (List.mem_of_mem_drop hx)⟩
    exact conv_str (h8.ext (by decide) (XW.out.trans hW))
  have HCX := Lib.hid (show rcC d = ⟨blockL (d.drop 1) 0, (blocksL (d.drop 1) n).drop 1, gI d (1 + 32 * n), strOfNums (d.drop (2 + 32 * n))⟩ by rw [rcC, rcN, h1', Int.toNat_natCast])
  have HKZ := Lib.hid (blockL_ok (d.drop 1) 0 (fun x hx => Hok.out x (List.mem_of_mem_drop hx)) (by simp; omega))
  have hkz := HKZ.out.1
  generalize gI d (1 + 32 * n) = num at hcB hB8 HCX
  have hwn : IntKind.i64.wrap num = num := IntWalk.i64_in _ (by omega)
  generalize strOfNums (d.drop (2 + 32 * n)) = note at hcv HCX
  generalize blockL (d.drop 1) 0 = root at HK0 HCX HKZ hkz
  generalize blocksL (d.drop 1) n = KL at HR0 HCX hbl
  go_wp2_with fail
  refine wp_region_held_drew (S := fun W => Ext w2 W) (by kernel_rfl) (Ext.refl _).drew (fun hHeld => ?_)
  
  refine wpAnyH_take (i := 0) (oi := ?oiz1) (v := ?vz1) ?hiz1 (by kernel_rfl) (by kernel_rfl) (by kernel_rfl) ?hQz1 ?hyz1 (by assumption) ?restz1
  case hiz1 => simp only [List.getElem?_toArray, List.getElem?_cons_zero, List.getElem?_cons_succ]; rfl
  case hQz1 => exact fun _ _ _ h => h
  case hyz1 => exact Or.inl ⟨by rfl, by intro w hSw; (try dsimp only at hSw); go_simp; with_reducible rfl⟩
  try simp only [Act.put, List.setIfInBounds_toArray, List.set_cons_zero, List.set_cons_succ]
  refine wpAnyH_take (i := 1) (oi := ?oiz2) (v := ?vz2) ?hiz2 (by kernel_rfl) (by kernel_rfl) (by kernel_rfl) ?hQz2 ?hyz2 (by assumption) ?restz2
  case hiz2 => simp only [List.getElem?_toArray, List.getElem?_cons_zero, List.getElem?_cons_succ]; rfl
  case hQz2 => exact fun _ _ _ h => h
  case hyz2 => exact Or.inl ⟨by rfl, by intro w hSw; (try dsimp only at hSw); go_simp; with_reducible rfl⟩
  try simp only [Act.put, List.setIfInBounds_toArray, List.set_cons_zero, List.set_cons_succ]
  refine wpAnyH_take (i := 2) (oi := ?oiz3) (v := (.agg (nums .u8 root).toArray)) ?hiz3 (by kernel_rfl) (by kernel_rfl) (by kernel_rfl) ?hQz3 ?hyz3 (by assumption) ?restz3
  case hiz3 => simp only [List.getElem?_toArray, List.getElem?_cons_zero, List.getElem?_cons_succ]; rfl
  case hQz3 => exact fun _ _ _ h => h
  case hyz3 => refine yields_loadR' gk 0 (nums .u8 root) (by rw [nums_length, hkz]; exact aggKey) HK0.out ?_ _ rfl rfl; rfl
  try simp only [Act.put, List.setIfInBounds_toArray, List.set_cons_zero, List.set_cons_succ]
  refine wpAnyH_take (i := 3) (oi := ?oiz4) (v := ?vz4) ?hiz4 (by kernel_rfl) (by kernel_rfl) (by kernel_rfl) ?hQz4 ?hyz4 (by assumption) ?restz4
  case hiz4 => simp only [List.getElem?_toArray, List.getElem?_cons_zero, List.getElem?_cons_succ]; rfl
  case hQz4 => exact fun _ _ _ h => h
  case hyz4 => exact Or.inl ⟨by rfl, by intro w hSw; (try dsimp only at hSw); go_simp; with_reducible rfl⟩
  try simp only [Act.put, List.setIfInBounds_toArray, List.set_cons_zero, List.set_cons_succ]
  refine wpAnyH_take (i := 4) (oi := ?oiz5) (v := ?vz5) ?hiz5 (by kernel_rfl) (by kernel_rfl) (by kernel_rfl) ?hQz5 ?hyz5 (by assumption) ?restz5
  case hiz5 => simp only [List.getElem?_toArray, List.getElem?_cons_zero, List.getElem?_cons_succ]; rfl
  case hQz5 => exact fun _ _ _ h => h
  case hyz5 => exact Or.inl ⟨by rfl, by intro w hSw; (try dsimp only at hSw); go_simp; with_reducible rfl⟩
  try simp only [Act.put, List.setIfInBounds_toArray, List.set_cons_zero, List.set_cons_succ]
  refine wpAnyH_take (i := 5) (oi := ?oiz6) (v := ?vz6) ?hiz6 (by kernel_rfl) (by kernel_rfl) (by kernel_rfl) ?hQz6 ?hyz6 (by assumption) ?restz6
  case hiz6 => simp only [List.getElem?_toArray, List.getElem?_cons_zero, List.getElem?_cons_succ]; rfl
  case hQz6 => exact fun _ _ _ h => h
  case hyz6 => exact Or.inl ⟨by rfl, by intro w hSw; (try dsimp only at hSw); go_simp; with_reducible rfl⟩
  try simp only [Act.put, List.setIfInBounds_toArray, List.set_cons_zero, List.set_cons_succ]
  refine wpAnyH_take (i := 6) (oi := ?oiz7) (v := ?vz7) ?hiz7 (by kernel_rfl) (by kernel_rfl) (by kernel_rfl) ?hQz7 ?hyz7 (by assumption) ?restz7
  case hiz7 => simp only [List.getElem?_toArray, List.getElem?_cons_zero, List.getElem?_cons_succ]; rfl
  case hQz7 => exact fun _ _ _ h => h
  case hyz7 => exact Or.inl ⟨by rfl, by intro w hSw; (try dsimp only at hSw); go_simp; with_reducible rfl⟩
  try simp only [Act.put, List.setIfInBounds_toArray, List.set_cons_zero, List.set_cons_succ]
  refine wpAnyH_take (i := 7) (oi := ?oiz8) (v := ?vz8) ?hiz8 (by kernel_rfl) (by kernel_rfl) (by kernel_rfl) ?hQz8 ?hyz8 (by assumption) ?restz8
  case hiz8 => simp only [List.getElem?_toArray, List.getElem?_cons_zero, List.getElem?_cons_succ]; rfl
  case hQz8 => exact fun _ _ _ h => h
  case hyz8 => exact Or.inl ⟨by rfl, by intro w hSw; (try dsimp only at hSw); go_simp; with_reducible rfl⟩
  try simp only [Act.put, List.setIfInBounds_toArray, List.set_cons_zero, List.set_cons_succ]
  refine wpAnyH_take (i := 8) (oi := ?oiz9) (v := ?vz9) ?hiz9 (by kernel_rfl) (by kernel_rfl) (by kernel_rfl) ?hQz9 ?hyz9 (by assumption) ?restz9
  case hiz9 => simp only [List.getElem?_toArray, List.getElem?_cons_zero, List.getElem?_cons_succ]; rfl
  case hQz9 => exact fun _ _ _ h => h
  case hyz9 => exact Or.inl ⟨by rfl, by intro w9 hSw; have p0 := hcB _ hSw; go_simp; with_reducible rfl⟩
  try simp only [Act.put, List.setIfInBounds_toArray, List.set_cons_zero, List.set_cons_succ]
  refine wpAnyH_take (i := 9) (oi := ?oiz10) (v := (.int .i64 num)) ?hiz10 (by kernel_rfl) (by kernel_rfl) (by kernel_rfl) ?hQz10 ?hyz10 (by assumption) ?restz10
  case hiz10 => simp only [List.getElem?_toArray, List.getElem?_cons_zero, List.getElem?_cons_succ]; rfl
  case hQz10 => exact fun _ _ _ h => h
  case hyz10 => exact Or.inl ⟨by rfl, by intro w9 hSw; go_simp; first | done | (simp only [hwn]; done) | (rw [hwn]; done) | with_reducible rfl⟩
  try simp only [Act.put, List.setIfInBounds_toArray, List.set_cons_zero, List.set_cons_succ]
  refine wpAnyH_take (i := 10) (oi := ?oiz11) (v := ?vz11) ?hiz11 (by kernel_rfl) (by kernel_rfl) (by kernel_rfl) ?hQz11 ?hyz11 (by assumption) ?restz11
  case hiz11 => simp only [List.getElem?_toArray, List.getElem?_cons_zero, List.getElem?_cons_succ]; rfl
  case hQz11 => exact fun _ _ _ h => h
  case hyz11 => exact Or.inl ⟨by rfl, by intro w hSw; (try dsimp only at hSw); go_simp; with_reducible rfl⟩
  try simp only [Act.put, List.setIfInBounds_toArray, List.set_cons_zero, List.set_cons_succ]
  refine wpAnyH_take (i := 11) (oi := ?oiz12) (v := ?vz12) ?hiz12 (by kernel_rfl) (by kernel_rfl) (by kernel_rfl) ?hQz12 ?hyz12 (by assumption) ?restz12
  case hiz12 => simp only [List.getElem?_toArray, List.getElem?_cons_zero, List.getElem?_cons_succ]; rfl
  case hQz12 => exact fun _ _ _ h => h
  case hyz12 => exact Or.inl ⟨by rfl, by intro w hSw; (try dsimp only at hSw); go_simp; with_reducible rfl⟩
  try simp only [Act.put, List.setIfInBounds_toArray, List.set_cons_zero, List.set_cons_succ]
  refine wpAnyH_take (i := 12) (oi := ?oiz13) (v := ?vz13) ?hiz13 (by kernel_rfl) (by kernel_rfl) (by kernel_rfl) ?hQz13 ?hyz13 (by assumption) ?restz13
  case hiz13 => simp only [List.getElem?_toArray, List.getElem?_cons_zero, List.getElem?_cons_succ]; rfl
  case hQz13 => exact fun _ _ _ h => h
  case hyz13 => exact Or.inl ⟨by rfl, by intro w hSw; (try dsimp only at hSw); go_simp; with_reducible rfl⟩
  try simp only [Act.put, List.setIfInBounds_toArray, List.set_cons_zero, List.set_cons_succ]
  refine wpAnyH_take (i := 13) (oi := ?oiz14) (v := ?vz14) ?hiz14 (by kernel_rfl) (by kernel_rfl) (by kernel_rfl) ?hQz14 ?hyz14 (by assumption) ?restz14
  case hiz14 => simp only [List.getElem?_toArray, List.getElem?_cons_zero, List.getElem?_cons_succ]; rfl
  case hQz14 => exact fun _ _ _ h => h
  case hyz14 => exact Or.inl ⟨by rfl, by intro w hSw; (try dsimp only at hSw); go_simp; with_reducible rfl⟩
  try simp only [Act.put, List.setIfInBounds_toArray, List.set_cons_zero, List.set_cons_succ]
  refine wpAnyH_take (i := 14) (oi := ?oiz15) (v := (.string note)) ?hiz15 (by kernel_rfl) (by kernel_rfl) (by kernel_rfl) ?hQz15 ?hyz15 (by assumption) ?restz15
  case hiz15 => simp only [List.getElem?_toArray, List.getElem?_cons_zero, List.getElem?_cons_succ]; rfl
  case hQz15 => exact fun _ _ _ h => h
  case hyz15 => exact Or.inl ⟨by rfl, by intro w9 hSw; have p0 := hcv _ hSw; go_simp; (try with_reducible rfl)⟩
  try simp only [Act.put, List.setIfInBounds_toArray, List.set_cons_zero, List.set_cons_succ]
  refine wpAnyH_take (i := 15) (oi := ?oiz16) (v := (.agg (Cm.cells ⟨root, KL.drop 1, num, note⟩ (.slice Y (n - 1) (ck - 1))))) ?hiz16 (by kernel_rfl) (by kernel_rfl) (by kernel_rfl) ?hQz16 ?hyz16 (by assumption) ?restz16
  case hiz16 => simp only [List.getElem?_toArray, List.getElem?_cons_zero, List.getElem?_cons_succ]; rfl
  case hQz16 => exact fun _ _ _ h => h
  case hyz16 => refine yields_build ?_ rfl (built_commit root hkz Y (n - 1) (ck - 1) num note (KL.drop 1)); rfl
  try simp only [Act.put, List.setIfInBounds_toArray, List.set_cons_zero, List.set_cons_succ]
  have HWF := Lib.hid (rcC_ok d Hok.out (by omega) (by rw [rcN, h1', Int.toNat_natCast]; exact h2) (by rw [rcN, h1', Int.toNat_natCast]; omega))
  rw [HCX.out] at HWF hc
  generalize hx9 : (⟨root, KL.drop 1, num, note⟩ : Cm) = X at HWF hc HCX ⊢
  have HPX := Lib.hid (show X.par = KL.drop 1 by rw [← hx9])
  have HST := Lib.hid (Cm.st (x := X) HWF.out.1 Y (n - 1) (ck - 1))
  have hss := HST.out.size
  clear hx9
  generalize hw9 : w2.drew = w9 at hHeld ⊢
  have HX9 := Lib.hid (show Ext w2 w9 by rw [← hw9]; exact (Ext.refl _).drew)
  clear hw9
  refine wpAnyH_ready (rs := [16]) (by kernel_rfl) (by simp) (AllReadyH.cons (o := ?oy1716) ?hy1716 (fun K hK => ?sy1716) AllReadyH.nil)
  case hy1716 => simp only [List.getElem?_toArray, List.getElem?_cons_zero, List.getElem?_cons_succ]; rfl
  refine stp_alloc' zCm.toArray (by kernel_rfl) rfl rfl ?_
  have hH2 := hHeld.alloc (.cells zCm.toArray 43)
  refine hK.out _ _ hH2 (fun _ => ?_)
  clear hK K hH2
  try simp only [Act.put, List.setIfInBounds_toArray, List.set_cons_zero, List.set_cons_succ]
  refine wpAnyH_ready (rs := [17]) (by kernel_rfl) (by simp) (AllReadyH.cons (o := ?oy1817) ?hy1817 (fun K hK => ?sy1817) AllReadyH.nil)
  case hy1817 => simp only [List.getElem?_toArray, List.getElem?_cons_zero, List.getElem?_cons_succ]; rfl
  refine stp_storeP (Blk.new w9 43 _) aggCommitI HST.out (by simp [zCm]) rfl _ _ rfl rfl rfl rfl ?_
  have hH3 := hHeld.alloc (.cells (X.cells (.slice Y (n - 1) (ck - 1))) 43)
  rw [splice_all _ _ (by rw [Array.length_toList, HST.out.size]; rfl), setRow_alloc, Array.toArray_toList]
  refine hK.out _ _ hH3 (fun _ => ?_)
  clear hK K hH3 hHeld
  try simp only [Act.put, List.setIfInBounds_toArray, List.set_cons_zero, List.set_cons_succ]
  refine wpAnyH_done (by kernel_rfl) ?_ _
  have B5 := Lib.hid (Blk.new w9 43 (X.cells (.slice Y (n - 1) (ck - 1))))
  have XW2 := Lib.hid ((XW.out.trans HX9.out).alloc (.cells (X.cells (.slice Y (n - 1) (ck - 1))) 43))
  have B2 := Lib.hid ((BZ.out.ext HX9.out).alloc (.cells (X.cells (.slice Y (n - 1) (ck - 1))) 43))
  have HR1 := Lib.hid (HR0.out.ext (HX9.out.alloc (.cells (X.cells (.slice Y (n - 1) (ck - 1))) 43)))
  generalize w9.alloc (.cells (X.cells (.slice Y (n - 1) (ck - 1))) 43) = w10 at B5 B2 XW2 HR1 ⊢
  rw [← HPX.out] at HR1
  have hvc := fun W (hW : Ext w10 W) => validCommit_any (X.cells (.slice Y (n - 1) (ck - 1))) X W _ ⟨_, rfl, (HR1.out.ext hW).rd, HWF.out⟩
  rw [hc] at hvc
  have HVC := Lib.hid hvc
  clear hvc hcB hcv HK0 HR0 XW hbl HX9 BZ hY hZ
  go_wp2_with (refine wpl_loadB B5.out aggCommitI hss rfl _ rfl rfl ?_)
  refine (HVC.out _ (Ext.refl _)).mono ?_
  rintro e w11 ⟨rfl, hx⟩
  replace B5 := Lib.hid (B5.out.ext hx)
  replace B2 := Lib.hid (B2.out.ext hx)
  replace XW2 := Lib.hid (XW2.out.trans hx)
  replace HR1 := Lib.hid (HR1.out.ext hx)
  clear hx HVC
  cases ok with
  | true =>
    go_wp2_with (first | (refine wpl_loadB B5.out aggCommitI hss rfl _ rfl rfl ?_) | (refine wpl_storeB B2.out aggCommitI HST.out rfl rfl _ _ rfl rfl rfl rfl ?_))
    refine bodyPost_ret (results_bt' rfl _ rfl aggCommitI hss (B2.out.setRow _) rfl) rfl ?_
    simp only [if_true]
    rw [HCX.out]
    exact ⟨_, rfl, (HR1.out.kept (setRow_grown9 _ _ _) (.inr fun e => HR1.out.far_of_lt (Nat.lt_succ_self _) e.symm)).le (Nat.le_succ _), XW2.out.setRow (Nat.le_refl _) _⟩
  | false =>
    go_wp2_with (first | (refine wpl_buildN rfl rfl built_zeroC ?_) | (refine wpl_storeB B2.out aggCommitI HZS.out rfl rfl _ _ rfl rfl rfl rfl ?_))
    refine bodyPost_ret (results_bt' rfl _ rfl aggCommitI hzs (B2.out.setRow _) rfl) rfl ?_
    exact ⟨_, rfl, OwnX.nil _ _ _ (by decide), XW2.out.setRow (Nat.le_refl _) _⟩
theorem rcR_main {d : List Int} {n : Nat} (h1 : gI d 0 = (n : Int)) (h2 : 1 ≤ n) (h4 : ¬ d.length < 2 + 32 * n) : rcR d = if okCm (rcC d) then (rcC d, 0) else (zeroC, 5) := by
  have e : rcN d = n := by rw [rcN, h1, Int.toNat_natCast]
  unfold rcR
  rw [if_neg]
  rw [e, h1]
  omega
theorem implReadCommit_any (v : Value) (d : List Int) (w : World) (S : Nat → Prop) (h : RdL tByte w S v d) (hdl : d.length ≤ 1048576) :
    Calls Try.prog 25 #[v] w fun e w' => ∃ v', e = .returned (.tuple #[.agg (Cm.cells (rcR d).1 v'), .int .i64 (rcR d).2]) ∧ OwnX tKey w' w.heap.size v' (Cm.par (rcR d).1) ∧ Ext w w' := by
  by_cases h0 : d.length = 0
  · rw [rcR, if_pos (.inl h0)]
    exact rcEmpty v d w S h h0
  by_cases h1 : gI d 0 = 0
  · rw [rcR, if_pos (.inr (.inl h1))]
    exact rcZero v d w S h h0 h1
  have hB : B8 d := h.choose_spec.choose_spec.2.2.2.2
  have hb := hB.get 0
  obtain ⟨n, hn⟩ : ∃ n : Nat, gI d 0 = (n : Int) := Int.eq_ofNat_of_zero_le hb.1
  have e : rcN d = n := by rw [rcN, hn, Int.toNat_natCast]
  by_cases h4 : d.length < 2 + 32 * n
  · rw [rcR, if_pos (.inr (.inr (by rw [e]; exact h4)))]
    exact rcShort v d w S h n hn (by omega) (by omega) h0 h4
  · rw [rcR_main hn (by omega) h4]
    have := rcMain v d w S h n hn (by omega) (by omega) h0 h4 hdl (okCm (rcC d)) rfl
    cases hc : okCm (rcC d) <;> (rw [hc] at this; exact this)
end Go.Proofs.Yteegnbdgfedajaa
/- Commits in the laws' words. No condition. -/
namespace Go.Proofs.Yteegnbdgfedajaa
open Go.RowKit
set_option linter.unusedVariables false
set_option linter.unusedSimpArgs false


end Go.Proofs.Yteegnbdgfedajaa
/- A commit read from bytes: the reference. No condition. -/
namespace Go.Proofs.Yteegnbdgfedajaa
open Go.RowKit
set_option linter.unusedVariables false
set_option linter.unusedSimpArgs false

theorem rowKeyC : Row Try.prog tKey 41 40 32 := Row.mk' Try.underlying41 (.agg (numsA .u8 (List.replicate 32 0))) (by kernel_rfl) rfl (by decide) (by decide)
theorem built_zeroK : Try.prog.built 40 [] = some (numsA .u8 (List.replicate 32 0)) := by kernel_rfl
theorem inS (n : Nat) (b : Bool) (hb : (decide (1 ≤ (n : Int)) && decide ((n : Int) ≤ 4)) = b) (w : World) : Calls Try.prog 55 #[.int .i64 (n : Int), .int .i64 1, .int .i64 4] w fun e w' => e = .returned (.bool b) ∧ w = w' := by
  have := l00In_any (n : Int) 1 4 w
  rw [hb] at this
  exact this
set_option maxHeartbeats 8000000 in
set_option maxRecDepth 100000 in
theorem scEmpty (v : Value) (d : List Int) (w : World) (S : Nat → Prop) (h : RdL tByte w S v d) (h0 : d.length = 0) :
    Calls Try.prog 24 #[v] w fun e w' => ∃ v', e = .returned (.tuple #[.agg (Cm.cells zeroC v'), .int .i64 5]) ∧ OwnX tKey w' w.heap.size v' (Cm.par zeroC) ∧ Ext w w' := by
  obtain ⟨A, cap, rfl, hcap, hlen, hrd, hok⟩ := h
  have Hrd := Lib.hid (show Rd w S 1 A d.length (nums .u8 d) by rw [← flat_bytes]; exact hrd)
  have Hok := Lib.hid (show B8 d from hok)
  have HZS := Lib.hid zeroC_st
  have hzs := HZS.out.size
  clear hrd hok
  have h0I : ((d.length : Int) == 0) = true := by rw [h0]; rfl
  go_enter Try.func24, Try.ntmps24
  have BZ := Lib.hid (Blk.new w 43 (zeroC.cells (.slice none 0 0)))
  go_wp2_with (first | (refine wpl_buildN rfl rfl built_zeroC ?_) | (refine wpl_storeB BZ.out aggCommitI HZS.out rfl rfl _ _ rfl rfl rfl rfl ?_))
  refine bodyPost_ret (results_bt' rfl _ rfl aggCommitI hzs (BZ.out.setRow _) rfl) rfl ?_
  exact ⟨_, rfl, OwnX.nil _ _ _ (by decide), (ext_alloc _ _).setRow (Nat.le_refl _) _⟩
set_option maxHeartbeats 8000000 in
set_option maxRecDepth 100000 in
theorem scMany (v : Value) (d : List Int) (w : World) (S : Nat → Prop) (h : RdL tByte w S v d) (n : Nat) (h1 : gI d 0 = (n : Int)) (h3 : n ≤ 255) (h0 : d.length ≠ 0) (hin : (decide (1 ≤ (n : Int)) && decide ((n : Int) ≤ 4)) = false) :
    Calls Try.prog 24 #[v] w fun e w' => ∃ v', e = .returned (.tuple #[.agg (Cm.cells zeroC v'), .int .i64 5]) ∧ OwnX tKey w' w.heap.size v' (Cm.par zeroC) ∧ Ext w w' := by
  obtain ⟨A, cap, rfl, hcap, hlen, hrd, hok⟩ := h
  have Hrd := Lib.hid (show Rd w S 1 A d.length (nums .u8 d) by rw [← flat_bytes]; exact hrd)
  have Hok := Lib.hid (show B8 d from hok)
  have HZS := Lib.hid zeroC_st
  have hzs := HZS.out.size
  clear hrd hok
  obtain ⟨g, o, rfl, hs, hc0⟩ := (Hrd.out).byte 0 (by omega)
  have hc0a : ∀ z, (w.alloc z).cell? ⟨g, o, none⟩ = some (.int .u8 (gI d 0)) := fun z => (ext_alloc w z).cell hc0
  clear hc0
  have h0I : ((d.length : Int) == 0) = false := by rw [beq_eq_false_iff_ne]; omega
  rw [h1] at hc0a
  have hwn : IntKind.i64.wrap (n : Int) = (n : Int) := IntWalk.i64_in _ (by omega)
  go_enter Try.func24, Try.ntmps24
  have BZ := Lib.hid (Blk.new w 43 (zeroC.cells (.slice none 0 0)))
  go_wp2_with (first | (go_at_call 55; refine (inS n _ hin _).mono ?_; rintro e w' ⟨rfl, rfl⟩) | (refine wpl_buildN rfl rfl built_zeroC ?_) | (refine wpl_storeB BZ.out aggCommitI HZS.out rfl rfl _ _ rfl rfl rfl rfl ?_))
  refine bodyPost_ret (results_bt' rfl _ rfl aggCommitI hzs (BZ.out.setRow _) rfl) rfl ?_
  exact ⟨_, rfl, OwnX.nil _ _ _ (by decide), (ext_alloc _ _).setRow (Nat.le_refl _) _⟩
set_option maxHeartbeats 8000000 in
set_option maxRecDepth 100000 in
theorem scShort (v : Value) (d : List Int) (w : World) (S : Nat → Prop) (h : RdL tByte w S v d) (n : Nat) (h1 : gI d 0 = (n : Int)) (h3 : n ≤ 255) (h0 : d.length ≠ 0) (hin : (decide (1 ≤ (n : Int)) && decide ((n : Int) ≤ 4)) = true) (h4 : d.length < 2 + 32 * n) :
    Calls Try.prog 24 #[v] w fun e w' => ∃ v', e = .returned (.tuple #[.agg (Cm.cells zeroC v'), .int .i64 5]) ∧ OwnX tKey w' w.heap.size v' (Cm.par zeroC) ∧ Ext w w' := by
  obtain ⟨A, cap, rfl, hcap, hlen, hrd, hok⟩ := h
  have Hrd := Lib.hid (show Rd w S 1 A d.length (nums .u8 d) by rw [← flat_bytes]; exact hrd)
  have Hok := Lib.hid (show B8 d from hok)
  have HZS := Lib.hid zeroC_st
  have hzs := HZS.out.size
  clear hrd hok
  obtain ⟨g, o, rfl, hs, hc0⟩ := (Hrd.out).byte 0 (by omega)
  have hc0a : ∀ z, (w.alloc z).cell? ⟨g, o, none⟩ = some (.int .u8 (gI d 0)) := fun z => (ext_alloc w z).cell hc0
  clear hc0
  have h0I : ((d.length : Int) == 0) = false := by rw [beq_eq_false_iff_ne]; omega
  rw [h1] at hc0a
  have hwn : IntKind.i64.wrap (n : Int) = (n : Int) := IntWalk.i64_in _ (by omega)
  have h4I : decide ((d.length : Int) < 32 * (n : Int) + 2) = true := by rw [decide_eq_true_iff]; omega
  go_enter Try.func24, Try.ntmps24
  have BZ := Lib.hid (Blk.new w 43 (zeroC.cells (.slice none 0 0)))
  go_wp2_with (first | (go_at_call 55; refine (inS n _ hin _).mono ?_; rintro e w' ⟨rfl, rfl⟩) | (refine wpl_buildN rfl rfl built_zeroC ?_) | (refine wpl_storeB BZ.out aggCommitI HZS.out rfl rfl _ _ rfl rfl rfl rfl ?_))
  refine bodyPost_ret (results_bt' rfl _ rfl aggCommitI hzs (BZ.out.setRow _) rfl) rfl ?_
  exact ⟨_, rfl, OwnX.nil _ _ _ (by decide), (ext_alloc _ _).setRow (Nat.le_refl _) _⟩
set_option maxHeartbeats 8000000 in
set_option maxRecDepth 100000 in
theorem scMain (v : Value) (d : List Int) (w : World) (S : Nat → Prop) (h : RdL tByte w S v d) (n : Nat) (h1 : gI d 0 = (n : Int)) (h2 : 1 ≤ n) (h3 : n ≤ 4) (h0 : d.length ≠ 0) (hin : (decide (1 ≤ (n : Int)) && decide ((n : Int) ≤ 4)) = true) (h4 : ¬ d.length < 2 + 32 * n) (hdl : d.length ≤ 1048576) (ok : Bool) (hc : okCm (rcC d) = ok) :
    Calls Try.prog 24 #[v] w fun e w' => ∃ v', e = .returned (.tuple #[.agg (Cm.cells (if ok then rcC d else zeroC) v'), .int .i64 (if ok then 0 else 5)]) ∧ OwnX tKey w' w.heap.size v' (Cm.par (if ok then rcC d else zeroC)) ∧ Ext w w' := by
  obtain ⟨A, cap, rfl, hcap, hlen, hrd, hok⟩ := h
  have Hrd := Lib.hid (show Rd w S 1 A d.length (nums .u8 d) by rw [← flat_bytes]; exact hrd)
  have Hok := Lib.hid (show B8 d from hok)
  have HZS := Lib.hid zeroC_st
  have hzs := HZS.out.size
  clear hrd hok
  obtain ⟨g, o, rfl, hs, hc0⟩ := (Hrd.out).byte 0 (by omega)
  have hc0a : ∀ z, (w.alloc z).cell? ⟨g, o, none⟩ = some (.int .u8 (gI d 0)) := fun z => (ext_alloc w z).cell hc0
  clear hc0
  have h0I : ((d.length : Int) == 0) = false := by rw [beq_eq_false_iff_ne]; omega
  rw [h1] at hc0a
  have hwn : IntKind.i64.wrap (n : Int) = (n : Int) := IntWalk.i64_in _ (by omega)
  have h4I : decide ((d.length : Int) < 32 * (n : Int) + 2) = false := by rw [decide_eq_false_iff_not]; omega
  have hk1 : ¬ cap = 1 := by omega
  have hBd : B8 (d.drop 1) := fun x hx => Hok.out x (List.mem_of_mem_drop hx)
  have HBD := Lib.hid hBd
  clear hBd
  have BZ0 := Lib.hid (Blk.new w 43 (zeroC.cells (.slice none 0 0)))
  have h1' := h1
  clear h1
  go_enter Try.func24, Try.ntmps24
  go_wp2_with (first | (go_at_call 55; refine (inS n _ hin _).mono ?_; rintro e w' ⟨rfl, rfl⟩))
  go_loopw [4, 5] (fun a i wr => ∃ k : Nat, k ≤ n ∧ i = .int .i64 k ∧ Own tKey 40 wr (w.heap.size + 1) a (blocksL (d.drop 1) k) ∧ Blk wr w.heap.size 43 (zeroC.cells (.slice none 0 0)) ∧ Ext w wr) (fun _ i _ => n - (intOf i).toNat)
  case atStart => exact ⟨0, by omega, rfl, Own.of_blk tKey (xs := []) (g := w.heap.size + 1) (Blk.new' (g := w.heap.size + 1) (w := w.alloc _) (by simp) 40 #[]) (Nat.le_refl _) (by simp) (by simp), BZ0.out.alloc _, (ext_alloc _ _).alloc _⟩
  case round =>
    obtain ⟨k, hk, rfl, ho, hbz, hx⟩ := hrel
    obtain ⟨wo, hwo⟩ : ∃ wo, wo = wr := ⟨_, rfl⟩
    subst hwo
    obtain ⟨C, cn, cc, rfl⟩ := ho.shape3
    have HO := Lib.hid ho
    have BZ := Lib.hid hbz
    have HX := Lib.hid hx
    have hc0b : wo.cell? ⟨g, o, none⟩ = some (.int .u8 (n : Int)) := by
      obtain ⟨g6, o6, e6, _, h6⟩ := Hrd.out.byte 0 (by omega)
      injection e6 with e6
      injection e6 with e5 e4
      subst e5 e4
      rw [← h1']
      exact HX.out.cell h6
    clear ho hbz hx BZ0
    by_cases hlt : k < n
    · have hkI : (k : Int) < (n : Int) := by omega
      have HKB := Lib.hid (blockL_ok (d.drop 1) k HBD.out (by rw [List.length_drop]; omega))
      have HBS := Lib.hid (blocksL_succ (d.drop 1) k)
      have HBC := Lib.hid (show ∀ j, j < 32 → ∀ W, Ext w W → W.cell? ⟨g, o + (1 + 32 * k + j), none⟩ = some (.int .u8 (gI (blockL (d.drop 1) k) j)) from fun j hj W hW => by
        obtain ⟨g6, o6, e6, _, h6⟩ := Hrd.out.byte (1 + 32 * k + j) (by omega)
        injection e6 with e6
        injection e6 with e5 e4
        subst e5 e4
        have e9 : gI (blockL (d.drop 1) k) j = gI d (1 + 32 * k + j) := by
          rw [blockL_eq]
          unfold gI
          rw [List.getD_eq_getElem?_getD, List.getElem?_take, if_pos hj, List.getElem?_drop, List.getElem?_drop, List.getD_eq_getElem?_getD]
          congr 2
          omega
        rw [e9]
        exact hW.cell h6)
      generalize blockL (d.drop 1) k = blk at HKB HBS HBC
      have hbl := HKB.out.1
      have HZK := Lib.hid (show (List.replicate 32 (0 : Int)).length = 32 from by simp)
      have BQ0 := Lib.hid (Blk.new wo 40 (numsA .u8 (List.replicate 32 0)))
      go_wp2_with (first
        | (refine wpl_buildN rfl rfl built_zeroK ?_)
        | (refine wpl_storeNew aggKey HZK.out rfl rfl _ _ rfl rfl rfl rfl ?_))
      go_loopw [7] (fun i w3 => ∃ j : Nat, j ≤ 32 ∧ i = .int .i64 j ∧ Blk w3 wo.heap.size 40 (numsA .u8 (blk.take j ++ List.replicate (32 - j) 0)) ∧ wo.grownBy w3 (some wo.heap.size)) (fun i _ => 32 - (intOf i).toNat)
      case atStart => exact ⟨0, by omega, rfl, by simpa using BQ0.out, ext_grown _ (ext_alloc _ _)⟩
      case round =>
        obtain ⟨j, hj, rfl, hb, hg⟩ := hrel
        have HB := Lib.hid hb
        have HG := Lib.hid hg
        have HX3 := Lib.hid (HX.out.grown hg (fun q e => by injection e with e; have := HX.out.size; omega))
        clear hb hg BQ0
        by_cases hlj : j < 32
        · have hjI : (j : Int) < 32 := by omega
          have hcj := HBC.out j hlj _ HX3.out
          have hfl : (blk.take j ++ List.replicate (32 - j) (0 : Int)).length = 32 := by simp [hbl]; omega
          have d3 := HB.out.num j (by rw [hfl]; exact hlj)
          have f3 := HB.out.free j
          have et : (1 + 32 * (k : Int) + (j : Int)).toNat = 1 + 32 * k + j := by omega
          have p0 : (0 : Int) ≤ 1 + 32 * (k : Int) + (j : Int) := by omega
          have p1 : 1 + 32 * (k : Int) + (j : Int) < (d.length : Int) := by omega
          have HB2 := Lib.hid (show Blk (wr.setCell ⟨wo.heap.size, j, none⟩ (.int .u8 (gI blk j))) wo.heap.size 40 (numsA .u8 (blk.take (j + 1) ++ List.replicate (32 - (j + 1)) 0)) by
            have := HB.out.set j (.int .u8 (gI blk j))
            rw [numsA_set, fill_step blk 32 j hlj hbl] at this
            exact this)
          go_wp2
          go_roundw
          case rel => exact ⟨j + 1, by omega, by go_num, HB2.out, grown_set HG.out _⟩
          case measure => simp [intOf]; omega
        · obtain rfl : j = 32 := by omega
          have hb2 := HB.out
          rw [List.take_of_length_le (by omega), Nat.sub_self, List.replicate_zero, List.append_nil] at hb2
          have HB2 := Lib.hid hb2
          have HO3 := Lib.hid (HO.out.kept HG.out (by
            cases hq : (Value.slice C cn cc).ownBlock with
            | none => exact .inl rfl
            | some q => exact .inr (fun e => by injection e with e; have := (HO.out.base_le q hq).2; omega)))
          have BZ3 := Lib.hid (BZ.out.grown HG.out (fun e => by injection e with e; have := BZ.out.lt; omega))
          have hbn : (blocksL (d.drop 1) k).length = k := by simp [blocksL]
          have hsz := sizeN (k := .u8) hbl
          clear hb2 HB HG
          go_wp2_with (first
            | (refine wpl_loadB HB2.out aggKey hsz rfl _ rfl rfl ?_)
            | (at_builtin; rw [fold_fillA (numsA .u8 blk) _ _ hsz rfl]; refine wpl_append rowKeyC rfl _ _ rfl (v := .slice C cn cc) rfl (HO3.out.alloc _) _ _ rfl (A := some ⟨wr.heap.size, 0, none⟩) (ys := [blk]) rfl (rd_one (T := tKey) wr blk HKB.out _) (by intro y hy; obtain rfl := List.mem_singleton.1 hy; exact HKB.out) (by rw [hbn]; simp; omega) (by have := HO3.out; have := HX3.out.size; have := BZ3.out.lt; simp; omega) ?_; intro v9 w9 ho1 hg1 hat1; have BZ9 := Lib.hid ((BZ3.out.alloc _).grown hg1 (fun e => by have := ((HO3.out.alloc (.cells (numsA .u8 blk) 40)).base_le _ e.symm).1; omega)); have HX9 := Lib.hid ((HX3.out.alloc _).grown hg1 (fun q e => by have := ((HO3.out.alloc (.cells (numsA .u8 blk) 40)).base_le _ e).1; omega)); have HO9 := Lib.hid ho1; obtain ⟨C9, n9, c9, rfl⟩ := ho1.shape3; clear ho1 hg1 hat1))
          go_roundw
          case rel => exact ⟨k + 1, by omega, by go_num, by rw [HBS.out]; exact HO9.out, BZ9.out, HX9.out⟩
          case measure => simp [intOf]; omega
    · obtain rfl : n = k := by omega
      have hkI : ¬ (n : Int) < (n : Int) := by omega
      have e1 : (1 + 32 * (n : Int)).toNat = 1 + 32 * n := by omega
      have i0 : (0 : Int) ≤ 1 + 32 * (n : Int) := by omega
      have i3 : 1 + 32 * (n : Int) < (d.length : Int) := by omega
      have hbl : (blocksL (d.drop 1) n).length = n := by simp [blocksL]
      obtain ⟨gk, ck, e0⟩ := HO.out.head (by omega)
      injection e0 with e0 e00 e000
      subst e0 e00 e000
      obtain ⟨ck, hck⟩ : ∃ ck, ck = cc := ⟨_, rfl⟩
      subst hck
      have XW := HX
      have HKX := Lib.hid (HO.out.x (by decide))
      have hcc : n ≤ ck := by
        obtain ⟨A9, c9, e9, h9, _⟩ := HO.out.rd
        injection e9 with _ _ e9
        omega
      obtain ⟨g9, o9, e9, hk0⟩ : ∃ g9 o9, (some ⟨gk, 0, none⟩ : Option Addr) = some ⟨g9, o9, none⟩ ∧ ∀ j u, (nums .u8 (blockL (d.drop 1) 0))[j]? = some u → wo.cell? ⟨g9, o9 + j, none⟩ = some u := by
        obtain ⟨A9, c9, e9, _, _, h9, h8⟩ := HO.out.rd
        injection e9 with e9
        obtain ⟨g9, o9, e7, _, h7⟩ := h9.elem h8 0 (by omega)
        refine ⟨g9, o9, e9.trans e7, fun j u hu => ?_⟩
        have := h7 j u (by simpa [blocksL, tKey] using hu)
        simpa using this
      injection e9 with e9
      injection e9 with e8 e7
      subst e8 e7
      have HK0 := Lib.hid hk0
      have hr0 := HKX.out.cut1 (by omega)
      obtain ⟨Y, hY⟩ : ∃ Y, (if ck = 1 then (some ⟨gk, 0, none⟩ : Option Addr) else some ⟨gk, 32, none⟩) = Y := ⟨_, rfl⟩
      rw [show tKey.sz = 32 from rfl, hY] at hr0
      rw [hbl] at hr0
      have HR0 := Lib.hid hr0
      rw [hbl]
      clear hk0 hr0 HKX hc0a
      have hcB : ∀ W, Ext wo W → W.cell? ⟨g, o + (1 + 32 * n), none⟩ = some (.int .u8 (gI d (1 + 32 * n))) := fun W hW => by
        obtain ⟨g6, o6, e6, _, h6⟩ := Hrd.out.byte (1 + 32 * n) (by omega)
        injection e6 with e6
        injection e6 with e5 e4
        subst e5 e4
        exact (XW.out.trans hW).cell h6
      have hB8 := B8.get Hok.out (1 + 32 * n)
      have w1 : IntKind.i64.wrap (1 + 32 * (n : Int) + 1) = 1 + 32 * (n : Int) + 1 := IntWalk.i64_in _ (by omega)
      have e2 : (1 + 32 * (n : Int) + 1).toNat = 2 + 32 * n := by omega
      have j0 : (0 : Int) ≤ 1 + 32 * (n : Int) + 1 := by omega
      have j1 : 1 + 32 * (n : Int) + 1 ≤ (cap : Int) := by omega
      have j2 : 1 + 32 * (n : Int) + 1 ≤ (d.length : Int) := by omega
      have j3 : (1 : Int) ≤ (n : Int) := by omega
      have j5 : (0 : Int) < (n : Int) := by omega
      have j6 : 0 < n := by omega
      have j4 : (1 : Int) ≤ (ck : Int) := by omega
      obtain ⟨Z, hZ, hcv⟩ : ∃ Z, (if cap = 2 + 32 * n then (some ⟨g, o, none⟩ : Option Addr) else some ⟨g, o + (2 + 32 * n), none⟩) = Z ∧ ∀ W, Ext wo W → (convert 22 9 (.slice Z (d.length - (2 + 32 * n)) (cap - (2 + 32 * n)))).run Try.prog W = .ok (.string (strOfNums (d.drop (2 + 32 * n)))) W := by
        refine ⟨_, rfl, fun W hW => ?_⟩
        have h7 := Hrd.out.cut8 (2 + 32 * n) cap (by omega) hcap
        have h8 : RdL tByte w S (.slice (if cap = 2 + 32 * n then (some ⟨g, o, none⟩ : Option Addr) else some ⟨g, o + (2 + 32 * n), none⟩) (d.length - (2 + 32 * n)) (cap - (2 + 32 * n))) (d.drop (2 + 32 * n)) := ⟨_, cap - (2 + 32 * n), by rw [List.length_drop], by rw [List.length_drop]; omega, by rw [List.length_drop]; omega, by rw [flat_bytes]; exact h7, fun x hx => Hok.out x (List.mem_of_mem_drop hx)⟩
        exact conv_str (h8.ext (by decide) (XW.out.trans hW))
      have HCX := Lib.hid (show rcC d = ⟨blockL (d.drop 1) 0, (blocksL (d.drop 1) n).drop 1, gI d (1 + 32 * n), strOfNums (d.drop (2 + 32 * n))⟩ by rw [rcC, rcN, h1', Int.toNat_natCast])
      have HKZ := Lib.hid (blockL_ok (d.drop 1) 0 (fun x hx => Hok.out x (List.mem_of_mem_drop hx)) (by simp; omega))
      have hkz := HKZ.out.1
      generalize gI d (1 + 32 * n) = num at hcB hB8 HCX
      have hwn : IntKind.i64.wrap num = num := IntWalk.i64_in _ (by omega)
      generalize strOfNums (d.drop (2 + 32 * n)) = note at hcv HCX
      generalize blockL (d.drop 1) 0 = root at HK0 HCX HKZ hkz
      generalize blocksL (d.drop 1) n = KL at HR0 HCX hbl
      go_wp2_with fail
      refine wp_region_held_drew (S := fun W => Ext wo W) (by kernel_rfl) (Ext.refl _).drew (fun hHeld => ?_)
      refine wpAnyH_take (i := 0) (oi := ?oiz1) (v := ?vz1) ?hiz1 (by kernel_rfl) (by kernel_rfl) (by kernel_rfl) ?hQz1 ?hyz1 (by assumption) ?restz1
      case hiz1 => simp only [List.getElem?_toArray, List.getElem?_cons_zero, List.getElem?_cons_succ]; rfl
      case hQz1 => exact fun _ _ _ h => h
      case hyz1 => exact Or.inl ⟨by rfl, by intro w hSw; (try dsimp only at hSw); go_simp; with_reducible rfl⟩
      try simp only [Act.put, List.setIfInBounds_toArray, List.set_cons_zero, List.set_cons_succ]
      refine wpAnyH_take (i := 1) (oi := ?oiz2) (v := ?vz2) ?hiz2 (by kernel_rfl) (by kernel_rfl) (by kernel_rfl) ?hQz2 ?hyz2 (by assumption) ?restz2
      case hiz2 => simp only [List.getElem?_toArray, List.getElem?_cons_zero, List.getElem?_cons_succ]; rfl
      case hQz2 => exact fun _ _ _ h => h
      case hyz2 => exact Or.inl ⟨by rfl, by intro w hSw; (try dsimp only at hSw); go_simp; with_reducible rfl⟩
      try simp only [Act.put, List.setIfInBounds_toArray, List.set_cons_zero, List.set_cons_succ]
      refine wpAnyH_take (i := 2) (oi := ?oiz3) (v := (.agg (nums .u8 root).toArray)) ?hiz3 (by kernel_rfl) (by kernel_rfl) (by kernel_rfl) ?hQz3 ?hyz3 (by assumption) ?restz3
      case hiz3 => simp only [List.getElem?_toArray, List.getElem?_cons_zero, List.getElem?_cons_succ]; rfl
      case hQz3 => exact fun _ _ _ h => h
      case hyz3 => refine yields_loadR' gk 0 (nums .u8 root) (by rw [nums_length, hkz]; exact aggKey) HK0.out ?_ _ rfl rfl; rfl
      try simp only [Act.put, List.setIfInBounds_toArray, List.set_cons_zero, List.set_cons_succ]
      refine wpAnyH_take (i := 3) (oi := ?oiz4) (v := ?vz4) ?hiz4 (by kernel_rfl) (by kernel_rfl) (by kernel_rfl) ?hQz4 ?hyz4 (by assumption) ?restz4
      case hiz4 => simp only [List.getElem?_toArray, List.getElem?_cons_zero, List.getElem?_cons_succ]; rfl
      case hQz4 => exact fun _ _ _ h => h
      case hyz4 => exact Or.inl ⟨by rfl, by intro w hSw; (try dsimp only at hSw); go_simp; with_reducible rfl⟩
      try simp only [Act.put, List.setIfInBounds_toArray, List.set_cons_zero, List.set_cons_succ]
      refine wpAnyH_take (i := 4) (oi := ?oiz5) (v := ?vz5) ?hiz5 (by kernel_rfl) (by kernel_rfl) (by kernel_rfl) ?hQz5 ?hyz5 (by assumption) ?restz5
      case hiz5 => simp only [List.getElem?_toArray, List.getElem?_cons_zero, List.getElem?_cons_succ]; rfl
      case hQz5 => exact fun _ _ _ h => h
      case hyz5 => exact Or.inl ⟨by rfl, by intro w hSw; (try dsimp only at hSw); go_simp; with_reducible rfl⟩
      try simp only [Act.put, List.setIfInBounds_toArray, List.set_cons_zero, List.set_cons_succ]
      refine wpAnyH_take (i := 5) (oi := ?oiz6) (v := ?vz6) ?hiz6 (by kernel_rfl) (by kernel_rfl) (by kernel_rfl) ?hQz6 ?hyz6 (by assumption) ?restz6
      case hiz6 => simp only [List.getElem?_toArray, List.getElem?_cons_zero, List.getElem?_cons_succ]; rfl
      case hQz6 => exact fun _ _ _ h => h
      case hyz6 => exact Or.inl ⟨by rfl, by intro w hSw; (try dsimp only at hSw); go_simp; with_reducible rfl⟩
      try simp only [Act.put, List.setIfInBounds_toArray, List.set_cons_zero, List.set_cons_succ]
      refine wpAnyH_take (i := 6) (oi := ?oiz7) (v := ?vz7) ?hiz7 (by kernel_rfl) (by kernel_rfl) (by kernel_rfl) ?hQz7 ?hyz7 (by assumption) ?restz7
      case hiz7 => simp only [List.getElem?_toArray, List.getElem?_cons_zero, List.getElem?_cons_succ]; rfl
      case hQz7 => exact fun _ _ _ h => h
      case hyz7 => exact Or.inl ⟨by rfl, by intro w hSw; (try dsimp only at hSw); go_simp; with_reducible rfl⟩
      try simp only [Act.put, List.setIfInBounds_toArray, List.set_cons_zero, List.set_cons_succ]
      refine wpAnyH_take (i := 7) (oi := ?oiz8) (v := ?vz8) ?hiz8 (by kernel_rfl) (by kernel_rfl) (by kernel_rfl) ?hQz8 ?hyz8 (by assumption) ?restz8
      case hiz8 => simp only [List.getElem?_toArray, List.getElem?_cons_zero, List.getElem?_cons_succ]; rfl
      case hQz8 => exact fun _ _ _ h => h
      case hyz8 => exact Or.inl ⟨by rfl, by intro w hSw; (try dsimp only at hSw); go_simp; with_reducible rfl⟩
      try simp only [Act.put, List.setIfInBounds_toArray, List.set_cons_zero, List.set_cons_succ]
      refine wpAnyH_take (i := 8) (oi := ?oiz9) (v := ?vz9) ?hiz9 (by kernel_rfl) (by kernel_rfl) (by kernel_rfl) ?hQz9 ?hyz9 (by assumption) ?restz9
      case hiz9 => simp only [List.getElem?_toArray, List.getElem?_cons_zero, List.getElem?_cons_succ]; rfl
      case hQz9 => exact fun _ _ _ h => h
      case hyz9 => exact Or.inl ⟨by rfl, by intro w9 hSw; have p0 := hcB _ hSw; go_simp; with_reducible rfl⟩
      try simp only [Act.put, List.setIfInBounds_toArray, List.set_cons_zero, List.set_cons_succ]
      refine wpAnyH_take (i := 9) (oi := ?oiz10) (v := (.int .i64 num)) ?hiz10 (by kernel_rfl) (by kernel_rfl) (by kernel_rfl) ?hQz10 ?hyz10 (by assumption) ?restz10
      case hiz10 => simp only [List.getElem?_toArray, List.getElem?_cons_zero, List.getElem?_cons_succ]; rfl
      case hQz10 => exact fun _ _ _ h => h
      case hyz10 => exact Or.inl ⟨by rfl, by intro w9 hSw; go_simp; first | done | (simp only [hwn]; done) | (rw [hwn]; done) | with_reducible rfl⟩
      try simp only [Act.put, List.setIfInBounds_toArray, List.set_cons_zero, List.set_cons_succ]
      refine wpAnyH_take (i := 10) (oi := ?oiz11) (v := ?vz11) ?hiz11 (by kernel_rfl) (by kernel_rfl) (by kernel_rfl) ?hQz11 ?hyz11 (by assumption) ?restz11
      case hiz11 => simp only [List.getElem?_toArray, List.getElem?_cons_zero, List.getElem?_cons_succ]; rfl
      case hQz11 => exact fun _ _ _ h => h
      case hyz11 => exact Or.inl ⟨by rfl, by intro w hSw; (try dsimp only at hSw); go_simp; with_reducible rfl⟩
      try simp only [Act.put, List.setIfInBounds_toArray, List.set_cons_zero, List.set_cons_succ]
      refine wpAnyH_take (i := 11) (oi := ?oiz12) (v := ?vz12) ?hiz12 (by kernel_rfl) (by kernel_rfl) (by kernel_rfl) ?hQz12 ?hyz12 (by assumption) ?restz12
      case hiz12 => simp only [List.getElem?_toArray, List.getElem?_cons_zero, List.getElem?_cons_succ]; rfl
      case hQz12 => exact fun _ _ _ h => h
      case hyz12 => exact Or.inl ⟨by rfl, by intro w hSw; (try dsimp only at hSw); go_simp; with_reducible rfl⟩
      try simp only [Act.put, List.setIfInBounds_toArray, List.set_cons_zero, List.set_cons_succ]
      refine wpAnyH_take (i := 12) (oi := ?oiz13) (v := ?vz13) ?hiz13 (by kernel_rfl) (by kernel_rfl) (by kernel_rfl) ?hQz13 ?hyz13 (by assumption) ?restz13
      case hiz13 => simp only [List.getElem?_toArray, List.getElem?_cons_zero, List.getElem?_cons_succ]; rfl
      case hQz13 => exact fun _ _ _ h => h
      case hyz13 => exact Or.inl ⟨by rfl, by intro w hSw; (try dsimp only at hSw); go_simp; with_reducible rfl⟩
      try simp only [Act.put, List.setIfInBounds_toArray, List.set_cons_zero, List.set_cons_succ]
      refine wpAnyH_take (i := 13) (oi := ?oiz14) (v := ?vz14) ?hiz14 (by kernel_rfl) (by kernel_rfl) (by kernel_rfl) ?hQz14 ?hyz14 (by assumption) ?restz14
      case hiz14 => simp only [List.getElem?_toArray, List.getElem?_cons_zero, List.getElem?_cons_succ]; rfl
      case hQz14 => exact fun _ _ _ h => h
      case hyz14 => exact Or.inl ⟨by rfl, by intro w hSw; (try dsimp only at hSw); go_simp; with_reducible rfl⟩
      try simp only [Act.put, List.setIfInBounds_toArray, List.set_cons_zero, List.set_cons_succ]
      refine wpAnyH_take (i := 14) (oi := ?oiz15) (v := (.string note)) ?hiz15 (by kernel_rfl) (by kernel_rfl) (by kernel_rfl) ?hQz15 ?hyz15 (by assumption) ?restz15
      case hiz15 => simp only [List.getElem?_toArray, List.getElem?_cons_zero, List.getElem?_cons_succ]; rfl
      case hQz15 => exact fun _ _ _ h => h
      case hyz15 => exact Or.inl ⟨by rfl, by intro w9 hSw; have p0 := hcv _ hSw; go_simp; (try with_reducible rfl)⟩
      try simp only [Act.put, List.setIfInBounds_toArray, List.set_cons_zero, List.set_cons_succ]
      refine wpAnyH_take (i := 15) (oi := ?oiz16) (v := (.agg (Cm.cells ⟨root, KL.drop 1, num, note⟩ (.slice Y (n - 1) (ck - 1))))) ?hiz16 (by kernel_rfl) (by kernel_rfl) (by kernel_rfl) ?hQz16 ?hyz16 (by assumption) ?restz16
      case hiz16 => simp only [List.getElem?_toArray, List.getElem?_cons_zero, List.getElem?_cons_succ]; rfl
      case hQz16 => exact fun _ _ _ h => h
      case hyz16 => refine yields_build ?_ rfl (built_commit root hkz Y (n - 1) (ck - 1) num note (KL.drop 1)); rfl
      try simp only [Act.put, List.setIfInBounds_toArray, List.set_cons_zero, List.set_cons_succ]
      have HWF := Lib.hid (rcC_ok d Hok.out (by omega) (by rw [rcN, h1', Int.toNat_natCast]; exact h2) (by rw [rcN, h1', Int.toNat_natCast]; omega))
      rw [HCX.out] at HWF hc
      generalize hx9 : (⟨root, KL.drop 1, num, note⟩ : Cm) = X at HWF hc HCX ⊢
      have HPX := Lib.hid (show X.par = KL.drop 1 by rw [← hx9])
      have HST := Lib.hid (Cm.st (x := X) HWF.out.1 Y (n - 1) (ck - 1))
      have hss := HST.out.size
      clear hx9
      generalize hw9 : wo.drew = w9 at hHeld ⊢
      have HX9 := Lib.hid (show Ext wo w9 by rw [← hw9]; exact (Ext.refl _).drew)
      clear hw9
      refine wpAnyH_ready (rs := [16]) (by kernel_rfl) (by simp) (AllReadyH.cons (o := ?oy1716) ?hy1716 (fun K hK => ?sy1716) AllReadyH.nil)
      case hy1716 => simp only [List.getElem?_toArray, List.getElem?_cons_zero, List.getElem?_cons_succ]; rfl
      refine stp_alloc' zCm.toArray (by kernel_rfl) rfl rfl ?_
      have hH2 := hHeld.alloc (.cells zCm.toArray 43)
      refine hK.out _ _ hH2 (fun _ => ?_)
      clear hK K hH2
      try simp only [Act.put, List.setIfInBounds_toArray, List.set_cons_zero, List.set_cons_succ]
      refine wpAnyH_ready (rs := [17]) (by kernel_rfl) (by simp) (AllReadyH.cons (o := ?oy1817) ?hy1817 (fun K hK => ?sy1817) AllReadyH.nil)
      case hy1817 => simp only [List.getElem?_toArray, List.getElem?_cons_zero, List.getElem?_cons_succ]; rfl
      refine stp_storeP (Blk.new w9 43 _) aggCommitI HST.out (by simp [zCm]) rfl _ _ rfl rfl rfl rfl ?_
      have hH3 := hHeld.alloc (.cells (X.cells (.slice Y (n - 1) (ck - 1))) 43)
      rw [splice_all _ _ (by rw [Array.length_toList, HST.out.size]; rfl), setRow_alloc, Array.toArray_toList]
      refine hK.out _ _ hH3 (fun _ => ?_)
      clear hK K hH3 hHeld
      try simp only [Act.put, List.setIfInBounds_toArray, List.set_cons_zero, List.set_cons_succ]
      refine wpAnyH_done (by kernel_rfl) ?_ _
      have B5 := Lib.hid (Blk.new w9 43 (X.cells (.slice Y (n - 1) (ck - 1))))
      have XW2 := Lib.hid ((XW.out.trans HX9.out).alloc (.cells (X.cells (.slice Y (n - 1) (ck - 1))) 43))
      have B2 := Lib.hid ((BZ.out.ext HX9.out).alloc (.cells (X.cells (.slice Y (n - 1) (ck - 1))) 43))
      have HR1 := Lib.hid (HR0.out.ext (HX9.out.alloc (.cells (X.cells (.slice Y (n - 1) (ck - 1))) 43)))
      generalize w9.alloc (.cells (X.cells (.slice Y (n - 1) (ck - 1))) 43) = w10 at B5 B2 XW2 HR1 ⊢
      rw [← HPX.out] at HR1
      have hvc := fun W (hW : Ext w10 W) => l07Ok_any (X.cells (.slice Y (n - 1) (ck - 1))) X W _ ⟨_, rfl, (HR1.out.ext hW).rd, HWF.out⟩ w9.heap.size (B5.out.ext hW)
      rw [hc] at hvc
      have HVC := Lib.hid hvc
      clear hvc hcB hcv HK0 HR0 XW hbl HX9 BZ hY hZ
      go_wp2_with (refine wpl_loadB B5.out aggCommitI hss rfl _ rfl rfl ?_)
      refine (HVC.out _ (Ext.refl _)).mono ?_
      rintro e w11 ⟨rfl, hx⟩
      replace B5 := Lib.hid (B5.out.ext hx)
      replace B2 := Lib.hid (B2.out.ext hx)
      replace XW2 := Lib.hid (XW2.out.trans hx)
      replace HR1 := Lib.hid (HR1.out.ext hx)
      clear hx HVC
      cases ok with
      | true =>
        go_wp2_with (first | (refine wpl_loadB B5.out aggCommitI hss rfl _ rfl rfl ?_) | (refine wpl_storeB B2.out aggCommitI HST.out rfl rfl _ _ rfl rfl rfl rfl ?_))
        refine bodyPost_ret (results_bt' rfl _ rfl aggCommitI hss (B2.out.setRow _) rfl) rfl ?_
        simp only [if_true]
        rw [HCX.out]
        exact ⟨_, rfl, (HR1.out.kept (setRow_grown9 _ _ _) (.inr fun e => HR1.out.far_of_lt (Nat.lt_succ_self _) e.symm)).le (Nat.le_succ _), XW2.out.setRow (Nat.le_refl _) _⟩
      | false =>
        go_wp2_with (first | (refine wpl_buildN rfl rfl built_zeroC ?_) | (refine wpl_storeB B2.out aggCommitI HZS.out rfl rfl _ _ rfl rfl rfl rfl ?_))
        refine bodyPost_ret (results_bt' rfl _ rfl aggCommitI hzs (B2.out.setRow _) rfl) rfl ?_
        exact ⟨_, rfl, OwnX.nil _ _ _ (by decide), XW2.out.setRow (Nat.le_refl _) _⟩
theorem rcR_par (d : List Int) : (rcR d).1.par.length ≤ 3 := by
  unfold rcR
  split
  · simp [zeroC]
  · split
    · rename_i h
      exact (okCm_le h).1
    · simp [zeroC]
theorem specReadCommit_any (v : Value) (d : List Int) (w : World) (S : Nat → Prop) (h : RdL tByte w S v d) (hdl : d.length ≤ 1048576) :
    Calls Try.prog 24 #[v] w fun e w' => ∃ v', e = .returned (.tuple #[.agg (Cm.cells (rcR d).1 v'), .int .i64 (rcR d).2]) ∧ OwnX tKey w' w.heap.size v' (Cm.par (rcR d).1) ∧ Ext w w' := by
  by_cases h0 : d.length = 0
  · rw [rcR, if_pos (.inl h0)]
    exact scEmpty v d w S h h0
  have hB : B8 d := h.choose_spec.choose_spec.2.2.2.2
  have hb := hB.get 0
  obtain ⟨n, hn⟩ : ∃ n : Nat, gI d 0 = (n : Int) := Int.eq_ofNat_of_zero_le hb.1
  have e : rcN d = n := by rw [rcN, hn, Int.toNat_natCast]
  cases hin : (decide (1 ≤ (n : Int)) && decide ((n : Int) ≤ 4)) with
  | false =>
    have : rcR d = (zeroC, 5) := by
      unfold rcR
      by_cases h1 : n = 0
      · rw [if_pos (.inr (.inl (by rw [hn, h1]; rfl)))]
      · have h5 : 4 < n := by
          simp only [Bool.and_eq_false_iff, decide_eq_false_iff_not] at hin
          omega
        rw [rcC_many d (by rw [e]; exact h5)]
        split <;> rfl
    rw [this]
    exact scMany v d w S h n hn (by omega) h0 hin
  | true =>
    have h5 : 1 ≤ n ∧ n ≤ 4 := by
      simp only [Bool.and_eq_true, decide_eq_true_eq] at hin
      omega
    by_cases h4 : d.length < 2 + 32 * n
    · rw [rcR, if_pos (.inr (.inr (by rw [e]; exact h4)))]
      exact scShort v d w S h n hn (by omega) h0 hin h4
    · rw [rcR_main hn h5.1 h4]
      have := scMain v d w S h n hn h5.1 h5.2 h0 hin h4 hdl (okCm (rcC d)) rfl
      cases hc : okCm (rcC d) <;> (rw [hc] at this; exact this)
end Go.Proofs.Yteegnbdgfedajaa
/- Two variables of a struct's type, made and filled at once. No condition. -/
namespace Go.Proofs.Yteegnbdgfedajaa
open Go.RowKit Go.BigFrame
set_option linter.unusedVariables false
set_option linter.unusedSimpArgs false

theorem setRow_alloc2 (w : World) (cs cs' : Array Value) (t : TypeId) (o : Obj) : ((w.alloc (.cells cs t)).alloc o).setRow w.heap.size cs' = (w.alloc (.cells cs' t)).alloc o := by
  unfold World.setRow World.alloc
  congr 1
  apply Array.ext
  · simp
  · intro i h1 h2
    simp only [Array.getElem_modify, Array.getElem_push, Array.size_push]
    by_cases h : i < w.heap.size
    · have hne : w.heap.size ≠ i := by omega
      simp [h, hne, Nat.lt_succ_of_lt h]
    · by_cases h3 : w.heap.size = i
      · subst h3
        simp
      · simp [h3, h]
        split
        · omega
        · rfl
theorem wpl_two {P : Program} {ops : Array Oper} {rest : List Oper} {o1 o2 o3 o4 : Oper} {a : Act} {w : World} {Q : Exit → Act → World → Prop} {t n : Nat} {Z cs1 cs2 : Array Value} (ht : Agg P t n) (hs1 : St n cs1) (hs2 : St n cs2) (hz : (P.info? t).map (·.zero) = some (some (.agg Z))) (hZ : Z.size = n)
    (g1 : o1.guard = none) (p1 : o1.op = .alloc t) (g2 : o2.guard = none) (p2 : o2.op = .alloc t) (g3 : o3.guard = none) (x3 y3 : Operand) (p3 : o3.op = .store t x3 y3) (d3 : o3.dst = none) (g4 : o4.guard = none) (x4 y4 : Operand) (p4 : o4.op = .store t x4 y4) (d4 : o4.dst = none)
    (e3 : ((a.put o1.dst (.pointer (some ⟨w.heap.size, 0, none⟩))).put o2.dst (.pointer (some ⟨w.heap.size + 1, 0, none⟩))).eval x3 = .pointer (some ⟨w.heap.size, 0, none⟩))
    (f3 : ((a.put o1.dst (.pointer (some ⟨w.heap.size, 0, none⟩))).put o2.dst (.pointer (some ⟨w.heap.size + 1, 0, none⟩))).eval y3 = .agg cs1)
    (e4 : ((a.put o1.dst (.pointer (some ⟨w.heap.size, 0, none⟩))).put o2.dst (.pointer (some ⟨w.heap.size + 1, 0, none⟩))).eval x4 = .pointer (some ⟨w.heap.size + 1, 0, none⟩))
    (f4 : ((a.put o1.dst (.pointer (some ⟨w.heap.size, 0, none⟩))).put o2.dst (.pointer (some ⟨w.heap.size + 1, 0, none⟩))).eval y4 = .agg cs2)
    (h : wpList P ops Q rest ((a.put o1.dst (.pointer (some ⟨w.heap.size, 0, none⟩))).put o2.dst (.pointer (some ⟨w.heap.size + 1, 0, none⟩))) ((w.alloc (.cells cs1 t)).alloc (.cells cs2 t))) :
    wpList P ops Q (o1 :: o2 :: o3 :: o4 :: rest) a w := by
  have hsz : (w.alloc (.cells Z t)).heap.size = w.heap.size + 1 := by simp
  have hsz1 : (w.alloc (.cells cs1 t)).heap.size = w.heap.size + 1 := by simp
  refine wpl_alloc Z hz g1 p1 ?_
  refine wpl_alloc Z hz g2 p2 ?_
  rw [hsz]
  refine wpl_storeB ((Blk.new w t Z).alloc _) ht hs1 hZ g3 x3 y3 p3 e3 f3 d3 ?_
  rw [setRow_alloc2]
  refine wpl_storeB (g := w.heap.size + 1) (e := t) (cur := Z) (by have := Blk.new (w.alloc (.cells cs1 t)) t Z; rwa [hsz1] at this) ht hs2 hZ g4 x4 y4 p4 e4 f4 d4 ?_
  have := setRow_alloc (w.alloc (.cells cs1 t)) Z cs2 t
  rw [hsz1] at this
  rw [this]
  exact h
/-- the same load where a guard lets it by -/
theorem wpl_loadBW {P : Program} {ops : Array Oper} {rest : List Oper} {o : Oper} {a : Act} {w : World} {Q : Exit → Act → World → Prop} {t g e n : Nat} {cs : Array Value} (hb : Blk w g e cs) (ht : Agg P t n) (hn : cs.size = n) (hw : Region.wanted o (yielded ops a.tmps) = true) (x : Operand) (ho : o.op = .load t x) (hx : a.eval x = .pointer (some ⟨g, 0, none⟩))
    (h : wpList P ops Q rest (a.put o.dst (.agg cs)) w) : wpList P ops Q (o :: rest) a w := by
  refine wpList_want hw fun K hK => ?_
  unfold Oper.wp execOp
  simp only [ho, hx, Instr.loadAt, Instr.sureAddr, Sem.run_bind, Sem.run_pure, Result.andThen_ok, run_loadB hb ht hn]
  exact hK _ _ h
end Go.Proofs.Yteegnbdgfedajaa
/- The walk of the law FnExactReadCommit. No condition. -/
namespace Go.Proofs.Yteegnbdgfedajaa
open Go.RowKit
set_option linter.unusedVariables false
set_option linter.unusedSimpArgs false

set_option maxHeartbeats 1000000 in
set_option maxRecDepth 100000 in
theorem FnExactReadCommit_any (w : World) (v0 : Value) (x0 : List Int) (S0 : Nat → Prop) (h0 : RdL tByte w S0 v0 x0) :
    Calls Try.prog 6 #[v0] w fun e w' => e = .returned (.bool true) ∧ Ext w w' := by
  obtain ⟨A0, cap0, rfl, _, hlen0, _⟩ := id h0
  have H0 := Lib.hid h0
  clear h0
  by_cases hl0 : (1048576 : Int) < (x0.length : Int)
  · go_enter Try.func6, Try.ntmps6
    go_wp2_with fail
    go_ret
    exact ⟨rfl, (Ext.refl _)⟩
  have hm0 : x0.length ≤ 1048576 := by omega
  obtain ⟨X, c, hR⟩ : ∃ X c, rcR x0 = (X, c) := ⟨_, _, rfl⟩
  have HXO := Lib.hid (rcR_ok x0 H0.out.choose_spec.choose_spec.2.2.2.2 (by omega))
  have hRl := rcR_par x0
  rw [hR] at HXO hRl
  dsimp only at HXO hRl
  have HR1 := Lib.hid (congrArg Prod.fst hR)
  have HR2 := Lib.hid (congrArg Prod.snd hR)
  clear hR
  have hq : (c != c) = false := by simp
  go_enter Try.func6, Try.ntmps6
  go_wp2_with fail
  refine (toByteS_any _ x0 _ _ (H0.out.ext (by decide) (Ext.refl _))).mono ?_
  rintro e w1 ⟨vs0, rfl, ho, hx⟩
  try replace ho := ho.x (by decide)
  replace ho := ho.le (base' := w.heap.size) (by simp)
  have XW := Lib.hid hx
  obtain ⟨As0, qs0, rfl⟩ := ho.shape
  have Os0 := Lib.hid ho
  clear ho
  clear hx
  go_wp2_with fail
  refine (specReadCommit_any _ x0 _ _ Os0.out.rd (by omega)).mono ?_
  rintro e w2 ⟨vW, he, ho, hx⟩
  rw [HR2.out, HR1.out] at he
  subst he
  rw [HR1.out] at ho
  try replace ho := ho.x (by decide)
  have NOs0_OW := Lib.hid (Os0.out.apart ho (by first | exact Nat.le_refl _ | simp))
  have NOW_Os0 := Lib.hid (Os0.out.apart' ho (by first | exact Nat.le_refl _ | simp))
  replace ho := ho.le (base' := w.heap.size) XW.out.size
  replace Os0 := Lib.hid (Os0.out.ext hx)
  replace XW := Lib.hid (XW.out.trans hx)
  obtain ⟨AW, qW, rfl⟩ := ho.shape
  have OW := Lib.hid ho
  clear ho
  clear hx
  have ZsW := Lib.hid (Cm.st (x := X) HXO.out.1 AW X.par.length qW)
  have ZnW := ZsW.out.size
  go_wp2_with (first | (refine wpl_storeNewB aggCommitI ZsW.out rfl rfl _ _ rfl rfl rfl rfl ?_) | (refine wpl_loadB (Blk.new w2 43 (X.cells (.slice AW X.par.length qW))) aggCommitI ZnW rfl _ rfl rfl ?_))
  have BVW_Os0 := Lib.hid (Os0.out.far_of_ge (Nat.le_refl _))
  have BVW_OW := Lib.hid (OW.out.far_of_ge (Nat.le_refl _))
  have hE : Ext w2 (w2.alloc (.cells (X.cells (.slice AW X.par.length qW)) 43)) := ext_alloc _ _
  replace Os0 := Lib.hid (Os0.out.ext hE)
  replace OW := Lib.hid (OW.out.ext hE)
  replace XW := Lib.hid (XW.out.trans hE)
  clear hE
  have VW := Lib.hid (Blk.new w2 43 (X.cells (.slice AW X.par.length qW)))
  generalize w2.alloc (.cells (X.cells (.slice AW X.par.length qW)) 43) = w3 at Os0 OW VW XW ⊢
  clear Os0
  go_wp2_with (first | (refine wpl_loadB VW.out aggCommitI ZnW rfl _ rfl rfl ?_))
  refine (toByteS_any _ x0 _ _ (H0.out.ext (by decide) XW.out)).mono ?_
  rintro e w4 ⟨vx0, rfl, ho, hx⟩
  try replace ho := ho.x (by decide)
  have NOW_Ox0 := Lib.hid (OW.out.apart ho (by first | exact Nat.le_refl _ | simp))
  have NOx0_OW := Lib.hid (OW.out.apart' ho (by first | exact Nat.le_refl _ | simp))
  have BVW_Ox0 := Lib.hid (ho.far_of_lt (Nat.lt_of_lt_of_le VW.out.lt (by first | exact Nat.le_refl _ | simp)))
  replace ho := ho.le (base' := w.heap.size) XW.out.size
  replace OW := Lib.hid (OW.out.ext hx)
  replace VW := Lib.hid (VW.out.ext hx)
  replace XW := Lib.hid (XW.out.trans hx)
  obtain ⟨Ax0, qx0, rfl⟩ := ho.shape
  have Ox0 := Lib.hid ho
  clear ho
  clear hx
  go_wp2_with (first | (refine wpl_loadB VW.out aggCommitI ZnW rfl _ rfl rfl ?_))
  refine (implReadCommit_any _ x0 _ _ Ox0.out.rd (by omega)).mono ?_
  rintro e w5 ⟨vG, he, ho, hx⟩
  rw [HR2.out, HR1.out] at he
  subst he
  rw [HR1.out] at ho
  try replace ho := ho.x (by decide)
  have NOW_OG := Lib.hid (OW.out.apart ho (by first | exact Nat.le_refl _ | simp))
  have NOG_OW := Lib.hid (OW.out.apart' ho (by first | exact Nat.le_refl _ | simp))
  have NOx0_OG := Lib.hid (Ox0.out.apart ho (by first | exact Nat.le_refl _ | simp))
  have NOG_Ox0 := Lib.hid (Ox0.out.apart' ho (by first | exact Nat.le_refl _ | simp))
  have BVW_OG := Lib.hid (ho.far_of_lt (Nat.lt_of_lt_of_le VW.out.lt (by first | exact Nat.le_refl _ | simp)))
  replace ho := ho.le (base' := w.heap.size) XW.out.size
  replace OW := Lib.hid (OW.out.ext hx)
  replace Ox0 := Lib.hid (Ox0.out.ext hx)
  replace VW := Lib.hid (VW.out.ext hx)
  replace XW := Lib.hid (XW.out.trans hx)
  obtain ⟨AG, qG, rfl⟩ := ho.shape
  have OG := Lib.hid ho
  clear ho
  clear hx
  have ZsG := Lib.hid (Cm.st (x := X) HXO.out.1 AG X.par.length qG)
  have ZnG := ZsG.out.size
  go_wp2_with (first | (refine wpl_storeNewB aggCommitI ZsG.out rfl rfl _ _ rfl rfl rfl rfl ?_) | (refine wpl_loadB (Blk.new w5 43 (X.cells (.slice AG X.par.length qG))) aggCommitI ZnG rfl _ rfl rfl ?_) | (refine wpl_loadB VW.out aggCommitI ZnW rfl _ rfl rfl ?_) | (refine wpl_loadB (VW.out.alloc _) aggCommitI ZnW rfl _ rfl rfl ?_))
  have BVG_OW := Lib.hid (OW.out.far_of_ge (Nat.le_refl _))
  have BVG_Ox0 := Lib.hid (Ox0.out.far_of_ge (Nat.le_refl _))
  have BVG_OG := Lib.hid (OG.out.far_of_ge (Nat.le_refl _))
  have hE : Ext w5 (w5.alloc (.cells (X.cells (.slice AG X.par.length qG)) 43)) := ext_alloc _ _
  replace OW := Lib.hid (OW.out.ext hE)
  replace Ox0 := Lib.hid (Ox0.out.ext hE)
  replace OG := Lib.hid (OG.out.ext hE)
  replace VW := Lib.hid (VW.out.ext hE)
  replace XW := Lib.hid (XW.out.trans hE)
  clear hE
  have VG := Lib.hid (Blk.new w5 43 (X.cells (.slice AG X.par.length qG)))
  generalize w5.alloc (.cells (X.cells (.slice AG X.par.length qG)) 43) = w6 at OW Ox0 OG VW VG XW ⊢
  go_wp2_with (first | (refine wpl_loadB VW.out aggCommitI ZnW rfl _ rfl rfl ?_) | (refine wpl_loadB VG.out aggCommitI ZnG rfl _ rfl rfl ?_))
  refine (eqCommit_u _ _ X _ _ _ ⟨_, rfl, OG.out.rd, HXO.out⟩ ⟨_, rfl, OW.out.rd, HXO.out⟩).mono ?_
  rintro e w7 ⟨rfl, hx⟩
  replace OW := Lib.hid (OW.out.ext hx)
  replace Ox0 := Lib.hid (Ox0.out.ext hx)
  replace OG := Lib.hid (OG.out.ext hx)
  replace VW := Lib.hid (VW.out.ext hx)
  replace VG := Lib.hid (VG.out.ext hx)
  replace XW := Lib.hid (XW.out.trans hx)
  clear hx
  go_wp2_with (first | (refine wpl_loadB VW.out aggCommitI ZnW rfl _ rfl rfl ?_) | (refine wpl_loadB VG.out aggCommitI ZnG rfl _ rfl rfl ?_))
  refine (toByteS_any _ x0 _ _ (H0.out.ext (by decide) XW.out)).mono ?_
  rintro e w8 ⟨vy0, rfl, ho, hx⟩
  try replace ho := ho.x (by decide)
  have NOW_Oy0 := Lib.hid (OW.out.apart ho (by first | exact Nat.le_refl _ | simp))
  have NOy0_OW := Lib.hid (OW.out.apart' ho (by first | exact Nat.le_refl _ | simp))
  have NOx0_Oy0 := Lib.hid (Ox0.out.apart ho (by first | exact Nat.le_refl _ | simp))
  have NOy0_Ox0 := Lib.hid (Ox0.out.apart' ho (by first | exact Nat.le_refl _ | simp))
  have NOG_Oy0 := Lib.hid (OG.out.apart ho (by first | exact Nat.le_refl _ | simp))
  have NOy0_OG := Lib.hid (OG.out.apart' ho (by first | exact Nat.le_refl _ | simp))
  have BVW_Oy0 := Lib.hid (ho.far_of_lt (Nat.lt_of_lt_of_le VW.out.lt (by first | exact Nat.le_refl _ | simp)))
  have BVG_Oy0 := Lib.hid (ho.far_of_lt (Nat.lt_of_lt_of_le VG.out.lt (by first | exact Nat.le_refl _ | simp)))
  replace ho := ho.le (base' := w.heap.size) XW.out.size
  replace OW := Lib.hid (OW.out.ext hx)
  replace Ox0 := Lib.hid (Ox0.out.ext hx)
  replace OG := Lib.hid (OG.out.ext hx)
  replace VW := Lib.hid (VW.out.ext hx)
  replace VG := Lib.hid (VG.out.ext hx)
  replace XW := Lib.hid (XW.out.trans hx)
  obtain ⟨Ay0, qy0, rfl⟩ := ho.shape
  have Oy0 := Lib.hid ho
  clear ho
  clear hx
  go_wp2_with (first | (refine wpl_loadB VW.out aggCommitI ZnW rfl _ rfl rfl ?_) | (refine wpl_loadB VG.out aggCommitI ZnG rfl _ rfl rfl ?_))
  refine (eqByteS_any _ _ x0 x0 _ _ _ Ox0.out.rd Oy0.out.rd).mono ?_
  rintro e w9 ⟨rfl, hD⟩
  rw [beq_self_eq_true]
  have hx := hD.ext
  replace OW := Lib.hid (OW.out.ext hx)
  replace Ox0 := Lib.hid (Ox0.out.ext hx)
  replace OG := Lib.hid (OG.out.ext hx)
  replace Oy0 := Lib.hid (Oy0.out.ext hx)
  replace VW := Lib.hid (VW.out.ext hx)
  replace VG := Lib.hid (VG.out.ext hx)
  replace XW := Lib.hid (XW.out.trans hx)
  clear hx
  clear Oy0
  go_wp2_with (first | (refine wpl_loadB VW.out aggCommitI ZnW rfl _ rfl rfl ?_) | (refine wpl_loadB VG.out aggCommitI ZnG rfl _ rfl rfl ?_))
  refine (markByteS_any _ _ 1 _ _ Ox0.out.wr (by omega) (by omega)).mono ?_
  rintro e w10 ⟨rfl, hr, hg⟩
  replace XW := Lib.hid (XW.out.grown hg (fun k hk => (Ox0.out.base_le k hk).1))
  replace OW := Lib.hid (OW.out.kept hg NOW_Ox0.out)
  replace OG := Lib.hid (OG.out.kept hg NOG_Ox0.out)
  replace VW := Lib.hid (VW.out.grown hg BVW_Ox0.out)
  replace VG := Lib.hid (VG.out.grown hg BVG_Ox0.out)
  clear Ox0 hg
  clear hr
  go_wp2_with (first | (refine wpl_loadB VW.out aggCommitI ZnW rfl _ rfl rfl ?_) | (refine wpl_loadB VG.out aggCommitI ZnG rfl _ rfl rfl ?_) | (refine wpl_loadBW VW.out aggCommitI ZnW rfl _ rfl rfl ?_) | (refine wpl_loadBW VG.out aggCommitI ZnG rfl _ rfl rfl ?_))
  refine (eqCommit_u _ _ X _ _ _ ⟨_, rfl, OG.out.rd, HXO.out⟩ ⟨_, rfl, OW.out.rd, HXO.out⟩).mono ?_
  rintro e w11 ⟨rfl, hx⟩
  replace OW := Lib.hid (OW.out.ext hx)
  replace OG := Lib.hid (OG.out.ext hx)
  replace VW := Lib.hid (VW.out.ext hx)
  replace VG := Lib.hid (VG.out.ext hx)
  replace XW := Lib.hid (XW.out.trans hx)
  clear hx
  go_wp2_with (first | (refine wpl_loadB VW.out aggCommitI ZnW rfl _ rfl rfl ?_) | (refine wpl_loadB VG.out aggCommitI ZnG rfl _ rfl rfl ?_))
  refine (markCommit_any X _ _ 1 _ _ HXO.out.1 OG.out.wr (by omega) (by omega)).mono ?_
  rintro e w12 ⟨rfl, hr, hg⟩
  replace XW := Lib.hid (XW.out.grown hg (fun k hk => (OG.out.base_le k hk).1))
  replace OW := Lib.hid (OW.out.kept hg NOW_OG.out)
  replace VW := Lib.hid (VW.out.grown hg BVW_OG.out)
  replace VG := Lib.hid (VG.out.grown hg BVG_OG.out)
  clear OG hg
  have M := Lib.hid hr
  clear hr
  go_wp2_with (first | (refine wpl_loadB VW.out aggCommitI ZnW rfl _ rfl rfl ?_) | (refine wpl_loadB VG.out aggCommitI ZnG rfl _ rfl rfl ?_))
  refine (heldCommit_any X _ _ 1 _ _ HXO.out.1 M.out (by omega) (by omega)).mono ?_
  rintro e w13 ⟨rfl, hx⟩
  replace OW := Lib.hid (OW.out.ext hx)
  replace M := Lib.hid (M.out.ext hx)
  replace VW := Lib.hid (VW.out.ext hx)
  replace VG := Lib.hid (VG.out.ext hx)
  replace XW := Lib.hid (XW.out.trans hx)
  clear hx
  have hqm : ((1 + (X.par.length : Int) * 32) != 1 + (X.par.length : Int) * 32) = false := by simp
  go_wp2_with (first | (refine wpl_loadB VW.out aggCommitI ZnW rfl _ rfl rfl ?_) | (refine wpl_loadB VG.out aggCommitI ZnG rfl _ rfl rfl ?_))
  refine (toByteS_any _ x0 _ _ (H0.out.ext (by decide) XW.out)).mono ?_
  rintro e w14 ⟨vz0, rfl, ho, hx⟩
  try replace ho := ho.x (by decide)
  have NOW_Oz0 := Lib.hid (OW.out.apart ho (by first | exact Nat.le_refl _ | simp))
  have NOz0_OW := Lib.hid (OW.out.apart' ho (by first | exact Nat.le_refl _ | simp))
  have BVW_Oz0 := Lib.hid (ho.far_of_lt (Nat.lt_of_lt_of_le VW.out.lt (by first | exact Nat.le_refl _ | simp)))
  have BVG_Oz0 := Lib.hid (ho.far_of_lt (Nat.lt_of_lt_of_le VG.out.lt (by first | exact Nat.le_refl _ | simp)))
  replace ho := ho.le (base' := w.heap.size) XW.out.size
  replace OW := Lib.hid (OW.out.ext hx)
  replace M := Lib.hid (M.out.ext hx)
  replace VW := Lib.hid (VW.out.ext hx)
  replace VG := Lib.hid (VG.out.ext hx)
  replace XW := Lib.hid (XW.out.trans hx)
  obtain ⟨Az0, qz0, rfl⟩ := ho.shape
  have Oz0 := Lib.hid ho
  clear ho
  clear hx
  go_wp2_with (first | (refine wpl_loadB VW.out aggCommitI ZnW rfl _ rfl rfl ?_) | (refine wpl_loadB VG.out aggCommitI ZnG rfl _ rfl rfl ?_))
  refine (implReadCommit_any _ x0 _ _ Oz0.out.rd (by omega)).mono ?_
  rintro e w15 ⟨vH, he, ho, hx⟩
  rw [HR2.out, HR1.out] at he
  subst he
  rw [HR1.out] at ho
  try replace ho := ho.x (by decide)
  have NOW_OH := Lib.hid (OW.out.apart ho (by first | exact Nat.le_refl _ | simp))
  have NOH_OW := Lib.hid (OW.out.apart' ho (by first | exact Nat.le_refl _ | simp))
  have NOz0_OH := Lib.hid (Oz0.out.apart ho (by first | exact Nat.le_refl _ | simp))
  have NOH_Oz0 := Lib.hid (Oz0.out.apart' ho (by first | exact Nat.le_refl _ | simp))
  have BVW_OH := Lib.hid (ho.far_of_lt (Nat.lt_of_lt_of_le VW.out.lt (by first | exact Nat.le_refl _ | simp)))
  have BVG_OH := Lib.hid (ho.far_of_lt (Nat.lt_of_lt_of_le VG.out.lt (by first | exact Nat.le_refl _ | simp)))
  replace ho := ho.le (base' := w.heap.size) XW.out.size
  replace OW := Lib.hid (OW.out.ext hx)
  replace M := Lib.hid (M.out.ext hx)
  replace Oz0 := Lib.hid (Oz0.out.ext hx)
  replace VW := Lib.hid (VW.out.ext hx)
  replace VG := Lib.hid (VG.out.ext hx)
  replace XW := Lib.hid (XW.out.trans hx)
  obtain ⟨AH, qH, rfl⟩ := ho.shape
  have OH := Lib.hid ho
  clear ho
  clear hx
  have ZsH := Lib.hid (Cm.st (x := X) HXO.out.1 AH X.par.length qH)
  have ZnH := ZsH.out.size
  go_wp2_with (first | (refine wpl_storeNewB aggCommitI ZsH.out rfl rfl _ _ rfl rfl rfl rfl ?_) | (refine wpl_loadB (Blk.new w15 43 (X.cells (.slice AH X.par.length qH))) aggCommitI ZnH rfl _ rfl rfl ?_) | (refine wpl_loadB VW.out aggCommitI ZnW rfl _ rfl rfl ?_) | (refine wpl_loadB (VW.out.alloc _) aggCommitI ZnW rfl _ rfl rfl ?_) | (refine wpl_loadB VG.out aggCommitI ZnG rfl _ rfl rfl ?_) | (refine wpl_loadB (VG.out.alloc _) aggCommitI ZnG rfl _ rfl rfl ?_))
  have BVH_OW := Lib.hid (OW.out.far_of_ge (Nat.le_refl _))
  have BVH_Oz0 := Lib.hid (Oz0.out.far_of_ge (Nat.le_refl _))
  have BVH_OH := Lib.hid (OH.out.far_of_ge (Nat.le_refl _))
  have hE : Ext w15 (w15.alloc (.cells (X.cells (.slice AH X.par.length qH)) 43)) := ext_alloc _ _
  replace OW := Lib.hid (OW.out.ext hE)
  replace M := Lib.hid (M.out.ext hE)
  replace Oz0 := Lib.hid (Oz0.out.ext hE)
  replace OH := Lib.hid (OH.out.ext hE)
  replace VW := Lib.hid (VW.out.ext hE)
  replace VG := Lib.hid (VG.out.ext hE)
  replace XW := Lib.hid (XW.out.trans hE)
  clear hE
  have VH := Lib.hid (Blk.new w15 43 (X.cells (.slice AH X.par.length qH)))
  generalize w15.alloc (.cells (X.cells (.slice AH X.par.length qH)) 43) = w16 at OW M Oz0 OH VW VG VH XW ⊢
  go_wp2_with (first | (refine wpl_loadB VW.out aggCommitI ZnW rfl _ rfl rfl ?_) | (refine wpl_loadB VG.out aggCommitI ZnG rfl _ rfl rfl ?_) | (refine wpl_loadB VH.out aggCommitI ZnH rfl _ rfl rfl ?_))
  refine (eqCommit_u _ _ X _ _ _ ⟨_, rfl, OH.out.rd, HXO.out⟩ ⟨_, rfl, OW.out.rd, HXO.out⟩).mono ?_
  rintro e w17 ⟨rfl, hx⟩
  replace OW := Lib.hid (OW.out.ext hx)
  replace M := Lib.hid (M.out.ext hx)
  replace Oz0 := Lib.hid (Oz0.out.ext hx)
  replace OH := Lib.hid (OH.out.ext hx)
  replace VW := Lib.hid (VW.out.ext hx)
  replace VG := Lib.hid (VG.out.ext hx)
  replace VH := Lib.hid (VH.out.ext hx)
  replace XW := Lib.hid (XW.out.trans hx)
  clear hx
  go_wp2_with (first | (refine wpl_loadB VW.out aggCommitI ZnW rfl _ rfl rfl ?_) | (refine wpl_loadB VG.out aggCommitI ZnG rfl _ rfl rfl ?_) | (refine wpl_loadB VH.out aggCommitI ZnH rfl _ rfl rfl ?_))
  refine (heldCommit_any X _ _ 1 _ _ HXO.out.1 M.out (by omega) (by omega)).mono ?_
  rintro e w18 ⟨rfl, hx⟩
  replace OW := Lib.hid (OW.out.ext hx)
  replace M := Lib.hid (M.out.ext hx)
  replace Oz0 := Lib.hid (Oz0.out.ext hx)
  replace OH := Lib.hid (OH.out.ext hx)
  replace VW := Lib.hid (VW.out.ext hx)
  replace VG := Lib.hid (VG.out.ext hx)
  replace VH := Lib.hid (VH.out.ext hx)
  replace XW := Lib.hid (XW.out.trans hx)
  clear hx
  go_wp2_with (first | (refine wpl_loadB VW.out aggCommitI ZnW rfl _ rfl rfl ?_) | (refine wpl_loadB VG.out aggCommitI ZnG rfl _ rfl rfl ?_) | (refine wpl_loadB VH.out aggCommitI ZnH rfl _ rfl rfl ?_))
  go_ret
  exact ⟨rfl, XW.out⟩
end Go.Proofs.Yteegnbdgfedajaa
