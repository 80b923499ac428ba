/- How deep a name lies. No condition. -/
import Derived.Test.YtikpakhccmdmcaaPathS
import Derived.Test.YtikpakhccmdmcaaGetE
namespace Go.Proofs.Ytikpakhccmdmcaa
open Go.RowKit
set_option linter.unusedVariables false
set_option linter.unusedSimpArgs false

/-- how deep a name lies, and the code -/
def depR (L : List En) (s : ByteArray) : Int × Int := if okE L && nameB s then (if hasE L s then ((((trF L.length L).sel (fun o => ltB s o) (fun o => ltB o s)).length : Nat), 0) else (0, 6)) else (0, 1)
theorem sizeNd_any (A : Option Addr) (n c : Nat) (w : World) : Calls Try.prog 47 #[.slice A n c] w fun e w' => e = .returned (.int .i64 n) ∧ w = w' := by
  go_enter Try.func47, Try.ntmps47
  go_wp2
  go_ret
  exact ⟨rfl, rfl⟩
set_option maxHeartbeats 1000000 in
set_option maxRecDepth 100000 in
theorem specDepth_any (v : Value) (L : List En) (s : ByteArray) (hsz : s.size ≤ 140737488351232) (w : World) (S : Nat → Prop) (h : RdL tEnt w S v L) :
    Calls Try.prog 11 #[v, .string s] w fun e w' => e = .returned (.tuple #[.int .i64 (depR L s).1, .int .i64 (depR L s).2]) ∧ Ext w w' := by
  have H := Lib.hid h
  have hokL := h.choose_spec.choose_spec.2.2.2.2
  have hc := l04Ok_any v L w S h
  have hn := l04Name_any s hsz
  have hp := fun (hb : okE L = true) W hW => l04Path_any v L s (okE_incs' hb).2 (good_of hb hokL) W S hW
  obtain ⟨A, cap, rfl, hcap, hlen, _⟩ := h
  cases hb : okE L with
  | false =>
    simp only [depR, hb, Bool.false_and, Bool.false_eq_true, if_false]
    simp only [hb] at hc
    clear hb hp
    go_enter Try.func11, Try.ntmps11
    go_wp2_with fail
    refine hc.mono ?_
    rintro e w1 ⟨rfl, hx⟩
    have HX := Lib.hid hx
    clear hx
    go_wp2
    go_ret2
    exact ⟨rfl, HX.out⟩
  | true =>
    have HI := Lib.hid (okE_incs' hb).1
    simp only [hb] at hc
    replace hp := hp hb
    cases hb2 : nameB s with
    | false =>
      simp only [depR, hb, hb2, Bool.and_false, Bool.false_eq_true, if_false]
      simp only [hb2] at hn
      clear hb hb2 hp
      go_enter Try.func11, Try.ntmps11
      go_wp2_with fail
      refine hc.mono ?_
      rintro e w1 ⟨rfl, hx⟩
      have HX := Lib.hid hx
      clear hx
      go_wp2_with fail
      refine (hn _).mono ?_
      rintro e w' ⟨rfl, rfl⟩
      go_wp2
      go_ret2
      exact ⟨rfl, HX.out⟩
    | true =>
      simp only [hb2] at hn
      have HF := Lib.hid (findI_eq L s)
      have hf := fun W hW => l04Find_any (.slice A L.length cap) L HI.out s W S hW
      cases hb3 : hasE L s with
      | false =>
        simp only [depR, hb, hb2, hb3, Bool.and_true, if_true, Bool.false_eq_true, if_false]
        have e : findI L s = -1 := by rw [HF.out, hb3]; rfl
        simp only [e] at hf
        clear hb hb2 hb3 e hp
        go_enter Try.func11, Try.ntmps11
        go_wp2_with fail
        refine hc.mono ?_
        rintro e w1 ⟨rfl, hx⟩
        have HX := Lib.hid hx
        clear hx
        go_wp2_with fail
        refine (hn _).mono ?_
        rintro e w' ⟨rfl, rfl⟩
        go_wp2_with fail
        refine (hf _ (H.out.ext (by decide) HX.out)).mono ?_
        rintro e w' ⟨rfl, rfl⟩
        go_wp2
        go_ret2
        exact ⟨rfl, HX.out⟩
      | true =>
        simp only [depR, hb, hb2, hb3, Bool.and_true, if_true]
        have hlt := hasE_lt hb3
        obtain ⟨k, hk⟩ : ∃ k, posE L s = k := ⟨_, rfl⟩
        have e : findI L s = k := by rw [HF.out, hb3, hk]; rfl
        rw [hk] at hlt
        simp only [e] at hf
        obtain ⟨R, hR⟩ : ∃ R, (trF L.length L).sel (fun o => ltB s o) (fun o => ltB o s) = R := ⟨_, rfl⟩
        simp only [hR] at hp ⊢
        clear hb hb2 hb3 e hk hR
        have hi : ¬ (k : Int) < 0 := by omega
        go_enter Try.func11, Try.ntmps11
        go_wp2_with fail
        refine hc.mono ?_
        rintro e w1 ⟨rfl, hx⟩
        have HX := Lib.hid hx
        clear hx
        go_wp2_with fail
        refine (hn _).mono ?_
        rintro e w' ⟨rfl, rfl⟩
        go_wp2_with fail
        refine (hf _ (H.out.ext (by decide) HX.out)).mono ?_
        rintro e w' ⟨rfl, rfl⟩
        go_wp2_with fail
        refine (hp _ (H.out.ext (by decide) HX.out)).mono ?_
        rintro e w2 ⟨v2, rfl, ho, hx⟩
        have HX2 := Lib.hid (HX.out.trans hx)
        have hl := ho.2.1
        obtain ⟨A2, c2, rfl⟩ := ho.shape
        have W1 : IntKind.i64.wrap (R.length : Int) = (R.length : Int) := by rw [IntKind.wrap_i64]; omega
        clear ho hx
        go_wp2
        go_ret2
        exact ⟨rfl, HX2.out⟩
set_option maxHeartbeats 1000000 in
set_option maxRecDepth 100000 in
theorem implDepth_any (v : Value) (L : List En) (s : ByteArray) (hsz : s.size ≤ 140737488351232) (w : World) (S : Nat → Prop) (h : RdL tEnt w S v L) :
    Calls Try.prog 13 #[v, .string s] w fun e w' => e = .returned (.tuple #[.int .i64 (depR L s).1, .int .i64 (depR L s).2]) ∧ Ext w w' := by
  have H := Lib.hid h
  have hokL := h.choose_spec.choose_spec.2.2.2.2
  have hg := implGetEntry_any v L s hsz w S h
  have hp := fun (hb : okE L = true) W hW => path_any v L s (okE_incs' hb).2 (good_of hb hokL) W S hW
  obtain ⟨A, cap, rfl, hcap, hlen, _⟩ := h
  cases hb : (okE L && nameB s && hasE L s) with
  | false =>
    obtain ⟨c, hc0, e1, e2⟩ : ∃ c : Int, (c != 0) = true ∧ depR L s = (0, c) ∧ (getR L s).2 = c := by
      cases h1 : (okE L && nameB s) with
      | false => exact ⟨1, rfl, by rw [depR, h1]; rfl, by rw [getR, h1]; rfl⟩
      | true =>
        rw [h1, Bool.true_and] at hb
        exact ⟨6, rfl, by rw [depR, h1, hb]; rfl, by rw [getR, h1, hb]; rfl⟩
    rw [e1]
    simp only [e2] at hg
    clear e1 e2 hb hp
    go_enter Try.func13, Try.ntmps13
    go_wp2_with fail
    refine hg.mono ?_
    rintro e w1 ⟨rfl, hx⟩
    have HX := Lib.hid hx
    clear hx
    go_wp2
    go_ret2
    exact ⟨rfl, HX.out⟩
  | true =>
    simp only [Bool.and_eq_true] at hb
    obtain ⟨⟨h1, h2⟩, h3⟩ := hb
    replace hp := hp h1
    obtain ⟨R, hR⟩ : ∃ R, (trF L.length L).sel (fun o => ltB s o) (fun o => ltB o s) = R := ⟨_, rfl⟩
    simp only [hR] at hp
    have e1 : depR L s = (((R.length : Nat) : Int), 0) := by rw [depR, h1, h2, h3, hR]; rfl
    have e2 : (getR L s).2 = 0 := by rw [getR, h1, h2, h3]; rfl
    rw [e1]
    simp only [e2] at hg
    clear e1 e2 h1 h2 h3 hR
    go_enter Try.func13, Try.ntmps13
    go_wp2_with fail
    refine hg.mono ?_
    rintro e w1 ⟨rfl, hx⟩
    have HX := Lib.hid hx
    clear hx
    go_wp2_with fail
    refine (hp _ (H.out.ext (by decide) HX.out)).mono ?_
    rintro e w2 ⟨v2, rfl, ho, hx⟩
    have HX2 := Lib.hid (HX.out.trans hx)
    obtain ⟨A2, c2, rfl⟩ := ho.shape
    clear ho hx hg hp
    go_wp2_with fail
    refine (sizeNd_any _ _ _ _).mono ?_
    rintro e w' ⟨rfl, rfl⟩
    go_wp2
    go_ret2
    exact ⟨rfl, HX2.out⟩
end Go.Proofs.Ytikpakhccmdmcaa
