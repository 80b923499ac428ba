/- The value of a name in a map: the reference and the program. No condition. -/
import Derived.Test.YtikpakhccmdmcaaFindE
namespace Go.Proofs.Ytikpakhccmdmcaa
open Go.RowKit
set_option linter.unusedVariables false
set_option linter.unusedSimpArgs false

def getR (L : List En) (s : ByteArray) : ByteArray × Int := if okE L && nameB s then (if hasE L s then ((gE L (posE L s)).2, 0) else (⟨#[]⟩, 6)) else (⟨#[]⟩, 1)
theorem okE_incs {L : List En} (h : okE L = true) : incs L L.length = true ∧ L.length ≤ 64 := by
  rw [okE_eq] at h
  simpa using h
theorem hasE_lt {L : List En} {s : ByteArray} (h : hasE L s = true) : posE L s < L.length := by
  rw [hasE_eq] at h
  simp at h
  exact h.1
set_option maxHeartbeats 1000000 in
set_option maxRecDepth 100000 in
theorem implGetEntry_any (v : Value) (L : List En) (s : ByteArray) (hsz : s.size ≤ 140737488351232) (w : World) (S : Nat → Prop) (h : RdL tEnt w S v L) :
    Calls Try.prog 46 #[v, .string s] w fun e w' => e = .returned (.tuple #[.string (getR L s).1, .int .i64 (getR L s).2]) ∧ Ext w w' := by
  have H := Lib.hid h
  have hc := validEntries_any v L w S h
  have hn := isName_any s hsz
  obtain ⟨A, cap, rfl, hcap, hlen, _⟩ := h
  cases hb : okE L with
  | false =>
    simp only [getR, hb, Bool.false_and, Bool.false_eq_true, if_false]
    simp only [hb] at hc
    clear hb
    go_enter Try.func46, Try.ntmps46
    go_wp2_with fail
    refine hc.mono ?_
    rintro e w1 ⟨rfl, hx⟩
    have HX := Lib.hid hx
    clear hx
    go_wp2
    go_ret2
    exact ⟨rfl, HX.out⟩
  | true =>
    obtain ⟨hinc, h64⟩ := okE_incs hb
    have HI := Lib.hid hinc
    simp only [hb] at hc
    cases hb2 : nameB s with
    | false =>
      simp only [getR, hb, hb2, Bool.and_false, Bool.false_eq_true, if_false]
      simp only [hb2] at hn
      clear hb hb2 hinc
      go_enter Try.func46, Try.ntmps46
      go_wp2_with fail
      refine hc.mono ?_
      rintro e w1 ⟨rfl, hx⟩
      have HX := Lib.hid hx
      clear hx
      go_wp2_with fail
      refine (hn _).mono ?_
      rintro e w' ⟨rfl, rfl⟩
      go_wp2
      go_ret2
      exact ⟨rfl, HX.out⟩
    | true =>
      simp only [hb2] at hn
      have hf := fun W hW => find_any (.slice A L.length cap) L HI.out s W S hW
      cases hb3 : hasE L s with
      | false =>
        simp only [getR, hb, hb2, hb3, Bool.and_true, if_true, Bool.false_eq_true, if_false]
        simp only [hb3] at hf
        clear hb hb2 hb3 hinc
        go_enter Try.func46, Try.ntmps46
        go_wp2_with fail
        refine hc.mono ?_
        rintro e w1 ⟨rfl, hx⟩
        have HX := Lib.hid hx
        clear hx
        go_wp2_with fail
        refine (hn _).mono ?_
        rintro e w' ⟨rfl, rfl⟩
        go_wp2_with fail
        refine (hf _ (H.out.ext (by decide) HX.out)).mono ?_
        rintro e w2 ⟨rfl, hx⟩
        have HX2 := Lib.hid (HX.out.trans hx)
        clear hx
        go_wp2
        go_ret2
        exact ⟨rfl, HX2.out⟩
      | true =>
        simp only [getR, hb, hb2, hb3, Bool.and_true, if_true]
        have hlt := hasE_lt hb3
        simp only [hb3] at hf
        obtain ⟨k, hk⟩ : ∃ k, posE L s = k := ⟨_, rfl⟩
        rw [hk] at hlt ⊢
        simp only [hk] at hf
        rw [gE_lt hlt]
        clear hb hb2 hb3 hinc hk
        have hi : (0 : Int) ≤ (k : Int) := by omega
        have hi2 : (k : Int) < (L.length : Int) := by omega
        go_enter Try.func46, Try.ntmps46
        go_wp2_with fail
        refine hc.mono ?_
        rintro e w1 ⟨rfl, hx⟩
        have HX := Lib.hid hx
        clear hx
        go_wp2_with fail
        refine (hn _).mono ?_
        rintro e w' ⟨rfl, rfl⟩
        go_wp2_with fail
        refine (hf _ (H.out.ext (by decide) HX.out)).mono ?_
        rintro e w2 ⟨rfl, hx⟩
        have HX2 := Lib.hid (HX.out.trans hx)
        clear hx
        obtain ⟨A2, cap2, e, _, _, hrd, hok⟩ := H.out
        injection e with e1 e2 e3
        subst e1 e3
        obtain ⟨g, o, rfl, hs0, hc2⟩ := hrd.elem hok k hlt
        have d1 : w2.cell? ⟨g, o + k * 2 + 1, none⟩ = some (.string L[k].2) := HX2.out.cell (hc2 1 _ rfl)
        clear hrd hok hc2
        go_wp2
        go_ret2
        exact ⟨rfl, HX2.out⟩

end Go.Proofs.Ytikpakhccmdmcaa
