/- What the walk of the law FnExactCheckRangeOfMap needs, part 9 of 9. No condition. -/
import Derived.Test.YtipeaoanhcjnjaaPFnExactCheckRangeOfMap8
/- The program's sweep over nodes that tell a range: whole. No condition. -/
namespace Go.Proofs.Ytipeaoanhcjnjaa
open Go.RowKit
set_option linter.unusedVariables false
set_option linter.unusedSimpArgs false

theorem ent_pos {x : Nd} (h : entB x.n x.v = true) : ltB ⟨#[]⟩ x.n = true := name_pos (entB_name (e := (x.n, x.v)) h)
theorem look_any (f : Nat) : LookC f := by
  induction f with
  | zero =>
    intro fr to w0 S0 K lo hi R O hl h64 hok hK w g A c vO vl vh hr hC hpl hph
    obtain rfl : R = [] := List.eq_nil_of_length_eq_zero (by omega)
    by_cases hKe : K = emptyL
    · exact look_idle fr to w0 S0 K hK O [] hKe w g A _ c vO vl vh hr hC _ rfl (tr_idle _ _ _ _ _ _ _ _ (by simp [hKe])).symm
    · exact look_none fr to w0 S0 K hK O hKe w g A 0 c vO vl vh hr hC _ (by rw [tr_none _ _ _ _ _ _ _ _ hKe])
  | succ f ih =>
    intro fr to w0 S0 K lo hi R O hl h64 hok hK w g A c vO vl vh hr hC hpl hph
    by_cases hKe : K = emptyL
    · exact look_idle fr to w0 S0 K hK O R hKe w g A _ c vO vl vh hr hC _ rfl (tr_idle _ _ _ _ _ _ _ _ (by simp [hKe])).symm
    match R, hl, h64, hok, hr, hC with
    | [], hl, h64, hok, hr, hC => exact look_none fr to w0 S0 K hK O hKe w g A 0 c vO vl vh hr hC _ (by rw [tr_none _ _ _ _ _ _ _ _ hKe])
    | x :: R', hl, h64, hok, hr, hC =>
      have hlen : R'.length ≤ f := by simpa using hl
      have h64' : O.length + (R'.length + 1) ≤ 64 := h64
      have hx := hok x (by simp)
      have hok' : ∀ y ∈ R', y.ok ∧ entB y.n y.v = true := fun y hy => hok y (by simp [hy])
      have htr := tr_cons fr to f K (lo.getD ⟨#[]⟩) (hi.getD ⟨#[]⟩) hi.isSome x R' O hKe
      obtain ⟨t9, ht9⟩ : ∃ t9, tr fr to (f + 1) K (lo.getD ⟨#[]⟩) (hi.getD ⟨#[]⟩) hi.isSome ⟨x :: R', O, false⟩ = t9 := ⟨_, rfl⟩
      rw [ht9] at htr ⊢
      by_cases h1 : kN x = K
      rotate_left
      · rw [if_pos (by simp [h1])] at htr
        exact look_key fr to w0 S0 K hK O x R' hx.1 hx.2 hKe h1 _ rfl w g A c vO vl vh hr hC t9 (by rw [htr])
      by_cases h2 : ltB (lo.getD ⟨#[]⟩) x.n = true
      rotate_left
      · rw [if_pos (by simp [h2])] at htr
        cases lo with
        | none => exact absurd (ent_pos hx.2) h2
        | some lo =>
          by_cases h2' : ltB x.n lo = true
          · exact look_low1 fr to w0 S0 K hK O x R' hx.1 hx.2 hKe h1 _ rfl lo hi h2' w g A c vO vl vh hr hC t9 hpl hph (by rw [htr])
          · exact look_low2 fr to w0 S0 K hK O x R' hx.1 hx.2 hKe h1 _ rfl lo hi (ltB_total (Bool.eq_false_iff.2 h2') (Bool.eq_false_iff.2 h2)) w g A c vO vl vh hr hC t9 hpl hph (by rw [htr])
      by_cases h3 : hi.isSome = true ∧ ltB x.n (hi.getD ⟨#[]⟩) = false
      · rw [if_pos (by simp [h3.1, h3.2])] at htr
        cases hi with
        | none => exact absurd h3.1 (by simp)
        | some hi =>
          cases lo with
          | none => exact look_high0 fr to w0 S0 K hK O x R' hx.1 hx.2 hKe h1 _ rfl hi h3.2 w g A c vO vl vh hr hC t9 hpl hph (by rw [htr])
          | some lo => exact look_high1 fr to w0 S0 K hK O x R' hx.1 hx.2 hKe h1 _ rfl lo hi h2 h3.2 w g A c vO vl vh hr hC t9 hpl hph (by rw [htr])
      have h3' : (hi.isSome && !ltB x.n (hi.getD ⟨#[]⟩)) = false := by
        cases hq : hi.isSome
        · rfl
        · cases hq2 : ltB x.n (hi.getD ⟨#[]⟩)
          · exact absurd ⟨hq, hq2⟩ h3
          · rfl
      rw [if_neg (by simp [h1, h2, h3'])] at htr
      rcases lo with _ | lo <;> rcases hi with _ | hi
      · by_cases h4 : ltB fr x.n = true
        · rw [if_pos h4] at htr
          obtain ⟨s1, hs1⟩ : ∃ s1, tr fr to f x.l (⟨#[]⟩ : ByteArray) x.n true ⟨R', O, false⟩ = s1 := ⟨_, rfl⟩
          have hle : SwLe s1 ⟨R', O, false⟩ := by rw [← hs1]; exact tr_le _ _ _ _ _ _ _ _
          simp only [Option.getD_some, Option.getD_none, hs1] at htr
          cases hb1 : s1.bad with
          | true =>
            have hbad : t9.bad = true := by
              rw [htr]
              split
              · exact tr_amiss _ _ _ _ _ _ _ _ (by rw [trPut_bad]; exact hb1)
              · rw [trPut_bad]; exact hb1
            exact look_nn_mid_amiss fr to w0 S0 K hK O x R' hx.1 hx.2 hKe h1 _ rfl f ih hlen h64' hok' ⟨#[]⟩ ⟨#[]⟩ h4 s1 hs1 hle hb1 w g A c vO vl vh hr hC t9 hpl hph hbad
          | false =>
            have hs : s1 = ⟨s1.R, s1.O, false⟩ := by rw [← hb1]
            by_cases h6 : ltB x.n to = true
            · rw [if_pos h6, trPut_yes (ltB_asymm h4) h6, hb1] at htr
              exact look_nn_mid_in fr to w0 S0 K hK O x R' hx.1 hx.2 hKe h1 _ rfl f ih hlen h64' hok' ⟨#[]⟩ ⟨#[]⟩ h4 h6 s1 hs1 hle hb1 w g A c vO vl vh hr hC t9 hpl hph htr.symm
            · rw [if_neg h6, trPut_no2 (Bool.eq_false_iff.2 h6)] at htr
              exact look_nn_mid_out fr to w0 S0 K hK O x R' hx.1 hx.2 hKe h1 _ rfl f ih hlen h64' hok' ⟨#[]⟩ ⟨#[]⟩ h4 (Bool.eq_false_iff.2 h6) s1 hs1 hle hb1 w g A c vO vl vh hr hC t9 hpl hph (hs.symm.trans htr.symm)
        · rw [if_neg h4] at htr
          have h4' := Bool.eq_false_iff.2 h4
          by_cases h5 : ltB x.n fr = true
          · rw [trPut_no1 h5] at htr
            by_cases h6 : ltB x.n to = true
            · rw [if_pos h6] at htr
              exact look_nn_low_in fr to w0 S0 K hK O x R' hx.1 hx.2 hKe h1 _ rfl f ih hlen h64' hok' ⟨#[]⟩ ⟨#[]⟩ h5 h6 _ rfl (SwLe.refl _) w g A c vO vl vh hr hC t9 hpl hph htr.symm
            · rw [if_neg h6] at htr
              exact look_nn_low_out fr to w0 S0 K hK O x R' hx.1 hx.2 hKe h1 _ rfl f ih hlen h64' hok' ⟨#[]⟩ ⟨#[]⟩ h5 (Bool.eq_false_iff.2 h6) _ rfl (SwLe.refl _) w g A c vO vl vh hr hC t9 hpl hph htr.symm
          · have h5' := Bool.eq_false_iff.2 h5
            by_cases h6 : ltB x.n to = true
            · rw [if_pos h6, trPut_yes h5' h6] at htr
              exact look_nn_eq_in fr to w0 S0 K hK O x R' hx.1 hx.2 hKe h1 _ rfl f ih hlen h64' hok' ⟨#[]⟩ ⟨#[]⟩ h4' h5' h6 _ rfl (SwLe.refl _) w g A c vO vl vh hr hC t9 hpl hph htr.symm
            · rw [if_neg h6, trPut_no2 (Bool.eq_false_iff.2 h6)] at htr
              exact look_nn_eq_out fr to w0 S0 K hK O x R' hx.1 hx.2 hKe h1 _ rfl f ih hlen h64' hok' ⟨#[]⟩ ⟨#[]⟩ h4' h5' (Bool.eq_false_iff.2 h6) _ rfl (SwLe.refl _) w g A c vO vl vh hr hC t9 hpl hph htr.symm
      · by_cases h4 : ltB fr x.n = true
        · rw [if_pos h4] at htr
          obtain ⟨s1, hs1⟩ : ∃ s1, tr fr to f x.l (⟨#[]⟩ : ByteArray) x.n true ⟨R', O, false⟩ = s1 := ⟨_, rfl⟩
          have hle : SwLe s1 ⟨R', O, false⟩ := by rw [← hs1]; exact tr_le _ _ _ _ _ _ _ _
          simp only [Option.getD_some, Option.getD_none, hs1] at htr
          cases hb1 : s1.bad with
          | true =>
            have hbad : t9.bad = true := by
              rw [htr]
              split
              · exact tr_amiss _ _ _ _ _ _ _ _ (by rw [trPut_bad]; exact hb1)
              · rw [trPut_bad]; exact hb1
            exact look_nh_mid_amiss fr to w0 S0 K hK O x R' hx.1 hx.2 hKe h1 _ rfl f ih hlen h64' hok' ⟨#[]⟩ hi (by simpa using h3') h4 s1 hs1 hle hb1 w g A c vO vl vh hr hC t9 hpl hph hbad
          | false =>
            have hs : s1 = ⟨s1.R, s1.O, false⟩ := by rw [← hb1]
            by_cases h6 : ltB x.n to = true
            · rw [if_pos h6, trPut_yes (ltB_asymm h4) h6, hb1] at htr
              exact look_nh_mid_in fr to w0 S0 K hK O x R' hx.1 hx.2 hKe h1 _ rfl f ih hlen h64' hok' ⟨#[]⟩ hi (by simpa using h3') h4 h6 s1 hs1 hle hb1 w g A c vO vl vh hr hC t9 hpl hph htr.symm
            · rw [if_neg h6, trPut_no2 (Bool.eq_false_iff.2 h6)] at htr
              exact look_nh_mid_out fr to w0 S0 K hK O x R' hx.1 hx.2 hKe h1 _ rfl f ih hlen h64' hok' ⟨#[]⟩ hi (by simpa using h3') h4 (Bool.eq_false_iff.2 h6) s1 hs1 hle hb1 w g A c vO vl vh hr hC t9 hpl hph (hs.symm.trans htr.symm)
        · rw [if_neg h4] at htr
          have h4' := Bool.eq_false_iff.2 h4
          by_cases h5 : ltB x.n fr = true
          · rw [trPut_no1 h5] at htr
            by_cases h6 : ltB x.n to = true
            · rw [if_pos h6] at htr
              exact look_nh_low_in fr to w0 S0 K hK O x R' hx.1 hx.2 hKe h1 _ rfl f ih hlen h64' hok' ⟨#[]⟩ hi (by simpa using h3') h5 h6 _ rfl (SwLe.refl _) w g A c vO vl vh hr hC t9 hpl hph htr.symm
            · rw [if_neg h6] at htr
              exact look_nh_low_out fr to w0 S0 K hK O x R' hx.1 hx.2 hKe h1 _ rfl f ih hlen h64' hok' ⟨#[]⟩ hi (by simpa using h3') h5 (Bool.eq_false_iff.2 h6) _ rfl (SwLe.refl _) w g A c vO vl vh hr hC t9 hpl hph htr.symm
          · have h5' := Bool.eq_false_iff.2 h5
            by_cases h6 : ltB x.n to = true
            · rw [if_pos h6, trPut_yes h5' h6] at htr
              exact look_nh_eq_in fr to w0 S0 K hK O x R' hx.1 hx.2 hKe h1 _ rfl f ih hlen h64' hok' ⟨#[]⟩ hi (by simpa using h3') h4' h5' h6 _ rfl (SwLe.refl _) w g A c vO vl vh hr hC t9 hpl hph htr.symm
            · rw [if_neg h6, trPut_no2 (Bool.eq_false_iff.2 h6)] at htr
              exact look_nh_eq_out fr to w0 S0 K hK O x R' hx.1 hx.2 hKe h1 _ rfl f ih hlen h64' hok' ⟨#[]⟩ hi (by simpa using h3') h4' h5' (Bool.eq_false_iff.2 h6) _ rfl (SwLe.refl _) w g A c vO vl vh hr hC t9 hpl hph htr.symm
      · by_cases h4 : ltB fr x.n = true
        · rw [if_pos h4] at htr
          obtain ⟨s1, hs1⟩ : ∃ s1, tr fr to f x.l (lo : ByteArray) x.n true ⟨R', O, false⟩ = s1 := ⟨_, rfl⟩
          have hle : SwLe s1 ⟨R', O, false⟩ := by rw [← hs1]; exact tr_le _ _ _ _ _ _ _ _
          simp only [Option.getD_some, Option.getD_none, hs1] at htr
          cases hb1 : s1.bad with
          | true =>
            have hbad : t9.bad = true := by
              rw [htr]
              split
              · exact tr_amiss _ _ _ _ _ _ _ _ (by rw [trPut_bad]; exact hb1)
              · rw [trPut_bad]; exact hb1
            exact look_ln_mid_amiss fr to w0 S0 K hK O x R' hx.1 hx.2 hKe h1 _ rfl f ih hlen h64' hok' lo ⟨#[]⟩ h2 h4 s1 hs1 hle hb1 w g A c vO vl vh hr hC t9 hpl hph hbad
          | false =>
            have hs : s1 = ⟨s1.R, s1.O, false⟩ := by rw [← hb1]
            by_cases h6 : ltB x.n to = true
            · rw [if_pos h6, trPut_yes (ltB_asymm h4) h6, hb1] at htr
              exact look_ln_mid_in fr to w0 S0 K hK O x R' hx.1 hx.2 hKe h1 _ rfl f ih hlen h64' hok' lo ⟨#[]⟩ h2 h4 h6 s1 hs1 hle hb1 w g A c vO vl vh hr hC t9 hpl hph htr.symm
            · rw [if_neg h6, trPut_no2 (Bool.eq_false_iff.2 h6)] at htr
              exact look_ln_mid_out fr to w0 S0 K hK O x R' hx.1 hx.2 hKe h1 _ rfl f ih hlen h64' hok' lo ⟨#[]⟩ h2 h4 (Bool.eq_false_iff.2 h6) s1 hs1 hle hb1 w g A c vO vl vh hr hC t9 hpl hph (hs.symm.trans htr.symm)
        · rw [if_neg h4] at htr
          have h4' := Bool.eq_false_iff.2 h4
          by_cases h5 : ltB x.n fr = true
          · rw [trPut_no1 h5] at htr
            by_cases h6 : ltB x.n to = true
            · rw [if_pos h6] at htr
              exact look_ln_low_in fr to w0 S0 K hK O x R' hx.1 hx.2 hKe h1 _ rfl f ih hlen h64' hok' lo ⟨#[]⟩ h2 h5 h6 _ rfl (SwLe.refl _) w g A c vO vl vh hr hC t9 hpl hph htr.symm
            · rw [if_neg h6] at htr
              exact look_ln_low_out fr to w0 S0 K hK O x R' hx.1 hx.2 hKe h1 _ rfl f ih hlen h64' hok' lo ⟨#[]⟩ h2 h5 (Bool.eq_false_iff.2 h6) _ rfl (SwLe.refl _) w g A c vO vl vh hr hC t9 hpl hph htr.symm
          · have h5' := Bool.eq_false_iff.2 h5
            by_cases h6 : ltB x.n to = true
            · rw [if_pos h6, trPut_yes h5' h6] at htr
              exact look_ln_eq_in fr to w0 S0 K hK O x R' hx.1 hx.2 hKe h1 _ rfl f ih hlen h64' hok' lo ⟨#[]⟩ h2 h4' h5' h6 _ rfl (SwLe.refl _) w g A c vO vl vh hr hC t9 hpl hph htr.symm
            · rw [if_neg h6, trPut_no2 (Bool.eq_false_iff.2 h6)] at htr
              exact look_ln_eq_out fr to w0 S0 K hK O x R' hx.1 hx.2 hKe h1 _ rfl f ih hlen h64' hok' lo ⟨#[]⟩ h2 h4' h5' (Bool.eq_false_iff.2 h6) _ rfl (SwLe.refl _) w g A c vO vl vh hr hC t9 hpl hph htr.symm
      · by_cases h4 : ltB fr x.n = true
        · rw [if_pos h4] at htr
          obtain ⟨s1, hs1⟩ : ∃ s1, tr fr to f x.l (lo : ByteArray) x.n true ⟨R', O, false⟩ = s1 := ⟨_, rfl⟩
          have hle : SwLe s1 ⟨R', O, false⟩ := by rw [← hs1]; exact tr_le _ _ _ _ _ _ _ _
          simp only [Option.getD_some, Option.getD_none, hs1] at htr
          cases hb1 : s1.bad with
          | true =>
            have hbad : t9.bad = true := by
              rw [htr]
              split
              · exact tr_amiss _ _ _ _ _ _ _ _ (by rw [trPut_bad]; exact hb1)
              · rw [trPut_bad]; exact hb1
            exact look_lh_mid_amiss fr to w0 S0 K hK O x R' hx.1 hx.2 hKe h1 _ rfl f ih hlen h64' hok' lo hi h2 (by simpa using h3') h4 s1 hs1 hle hb1 w g A c vO vl vh hr hC t9 hpl hph hbad
          | false =>
            have hs : s1 = ⟨s1.R, s1.O, false⟩ := by rw [← hb1]
            by_cases h6 : ltB x.n to = true
            · rw [if_pos h6, trPut_yes (ltB_asymm h4) h6, hb1] at htr
              exact look_lh_mid_in fr to w0 S0 K hK O x R' hx.1 hx.2 hKe h1 _ rfl f ih hlen h64' hok' lo hi h2 (by simpa using h3') h4 h6 s1 hs1 hle hb1 w g A c vO vl vh hr hC t9 hpl hph htr.symm
            · rw [if_neg h6, trPut_no2 (Bool.eq_false_iff.2 h6)] at htr
              exact look_lh_mid_out fr to w0 S0 K hK O x R' hx.1 hx.2 hKe h1 _ rfl f ih hlen h64' hok' lo hi h2 (by simpa using h3') h4 (Bool.eq_false_iff.2 h6) s1 hs1 hle hb1 w g A c vO vl vh hr hC t9 hpl hph (hs.symm.trans htr.symm)
        · rw [if_neg h4] at htr
          have h4' := Bool.eq_false_iff.2 h4
          by_cases h5 : ltB x.n fr = true
          · rw [trPut_no1 h5] at htr
            by_cases h6 : ltB x.n to = true
            · rw [if_pos h6] at htr
              exact look_lh_low_in fr to w0 S0 K hK O x R' hx.1 hx.2 hKe h1 _ rfl f ih hlen h64' hok' lo hi h2 (by simpa using h3') h5 h6 _ rfl (SwLe.refl _) w g A c vO vl vh hr hC t9 hpl hph htr.symm
            · rw [if_neg h6] at htr
              exact look_lh_low_out fr to w0 S0 K hK O x R' hx.1 hx.2 hKe h1 _ rfl f ih hlen h64' hok' lo hi h2 (by simpa using h3') h5 (Bool.eq_false_iff.2 h6) _ rfl (SwLe.refl _) w g A c vO vl vh hr hC t9 hpl hph htr.symm
          · have h5' := Bool.eq_false_iff.2 h5
            by_cases h6 : ltB x.n to = true
            · rw [if_pos h6, trPut_yes h5' h6] at htr
              exact look_lh_eq_in fr to w0 S0 K hK O x R' hx.1 hx.2 hKe h1 _ rfl f ih hlen h64' hok' lo hi h2 (by simpa using h3') h4' h5' h6 _ rfl (SwLe.refl _) w g A c vO vl vh hr hC t9 hpl hph htr.symm
            · rw [if_neg h6, trPut_no2 (Bool.eq_false_iff.2 h6)] at htr
              exact look_lh_eq_out fr to w0 S0 K hK O x R' hx.1 hx.2 hKe h1 _ rfl f ih hlen h64' hok' lo hi h2 (by simpa using h3') h4' h5' (Bool.eq_false_iff.2 h6) _ rfl (SwLe.refl _) w g A c vO vl vh hr hC t9 hpl hph htr.symm
end Go.Proofs.Ytipeaoanhcjnjaa
/- The range of a map that nodes tell: the program. No condition. -/
namespace Go.Proofs.Ytipeaoanhcjnjaa
open Go.RowKit
set_option linter.unusedVariables false
set_option linter.unusedSimpArgs false

def zSw : List Value := [.string ⟨#[]⟩, .string ⟨#[]⟩, .slice none 0 0] ++ List.replicate 32 (Value.int .u8 0) ++ [.slice none 0 0]
theorem built_sweep (fr to : ByteArray) (A : Option Addr) (n c : Nat) : Try.prog.built 68 [(0, .string fr), (1, .string to), (2, .slice A n c), (3, .agg (numsA .u8 emptyL))] = some (swCs fr to (.slice A n c) (.slice none 0 0)) := by
  have hb : ∀ parts, Try.prog.built 68 parts = Instr.fill (fun i => #[(0, 1), (1, 1), (2, 1), (3, 32), (35, 1)][i]?) zSw.toArray parts := fun parts => by kernel_rfl
  have hne := emptyL_len
  have e0 : splice zSw.toArray 0 [Value.string fr] = ([Value.string fr, Value.string ⟨#[]⟩, Value.slice none 0 0] ++ List.replicate 32 (Value.int .u8 0) ++ [Value.slice none 0 0]).toArray := rfl
  have e1 : splice ([Value.string fr, Value.string ⟨#[]⟩, Value.slice none 0 0] ++ List.replicate 32 (Value.int .u8 0) ++ [Value.slice none 0 0]).toArray 1 [Value.string to] = ([Value.string fr, Value.string to, Value.slice none 0 0] ++ List.replicate 32 (Value.int .u8 0) ++ [Value.slice none 0 0]).toArray := rfl
  have e2 : splice ([Value.string fr, Value.string to, Value.slice none 0 0] ++ List.replicate 32 (Value.int .u8 0) ++ [Value.slice none 0 0]).toArray 2 [Value.slice A n c] = ([Value.string fr, Value.string to, Value.slice A n c] ++ (List.replicate 32 (Value.int .u8 0) ++ [Value.slice none 0 0])).toArray := rfl
  have e3 : splice ([Value.string fr, Value.string to, Value.slice A n c] ++ (List.replicate 32 (Value.int .u8 0) ++ [Value.slice none 0 0])).toArray 3 (nums .u8 emptyL) = swCs fr to (Value.slice A n c) (Value.slice none 0 0) := by
    have := splice_next [Value.string fr, Value.string to, Value.slice A n c] (List.replicate 32 (Value.int .u8 0) ++ [Value.slice none 0 0]) (nums .u8 emptyL) (o := 3) rfl
    rw [hne, show (List.replicate 32 (Value.int .u8 0) ++ [Value.slice none 0 0]).drop 32 = [Value.slice none 0 0] from rfl] at this
    rw [this, swCs, List.append_assoc]
  have c3 : (Value.agg (numsA .u8 emptyL)).cells.toList = nums .u8 emptyL := rfl
  rw [hb, fill_one _ _ 0 0 1 _ _ rfl rfl (by decide), show (Value.string fr).cells.toList = [.string fr] from rfl, e0,
    fill_one _ _ 1 1 1 _ _ rfl rfl (by simp), show (Value.string to).cells.toList = [.string to] from rfl, e1,
    fill_one _ _ 2 2 1 _ _ rfl rfl (by simp), show (Value.slice A n c).cells.toList = [.slice A n c] from rfl, e2,
    fill_one _ _ 3 3 32 _ _ rfl (by rw [← Array.length_toList, c3, hne]) (by simp), c3, e3, Instr.fill]
theorem givenR_bad {L : List Nd} (h : okNs L = false) : givenR L = 1 := by unfold givenR; rw [if_neg (by simp [h])]
theorem givenR_long {L : List Nd} (h : okNs L = true) (h2 : 64 < L.length) : givenR L = 3 := by unfold givenR; rw [if_pos h, if_pos h2]
theorem givenR_ok {L : List Nd} (h : okNs L = true) (h2 : ¬ 64 < L.length) : givenR L = 0 := by unfold givenR; rw [if_pos h, if_neg h2]
set_option maxHeartbeats 4000000 in
set_option maxRecDepth 100000 in
theorem ciBad (K : List Int) (hK : K32 K) (fr to : ByteArray) (v : Value) (L : List Nd) (w : World) (S : Nat → Prop) (h : RdL tNd w S v L) (hok : okNs L = false) :
    Calls Try.prog 9 #[.agg (numsA .u8 K), .string fr, .string to, v] w fun e w' => ∃ v', e = .returned (.tuple #[v', .int .i64 1]) ∧ Own tEnt 50 w' w.heap.size v' [] ∧ Ext w w' := by
  have hg := fun W hW => areNodes_any v L W S hW
  have hkl := hK.1
  have H := Lib.hid h
  obtain ⟨A, cap, rfl, _⟩ := id h
  clear h
  rw [hok] at hg
  clear hok
  go_enter Try.func9, Try.ntmps9
  go_wp2_with fail
  refine (hg _ (H.out.ext (by decide) (ext_alloc _ _))).mono ?_
  rintro e w1 ⟨rfl, hx⟩
  have HX := Lib.hid ((ext_alloc _ _).trans hx)
  have HKB := Lib.hid ((Blk.new w 28 (numsA .u8 K)).ext hx)
  clear hx hg
  go_wp2
  go_ret2
  exact ⟨_, rfl, Own.nil _ _ _ _, HX.out⟩
set_option maxHeartbeats 4000000 in
set_option maxRecDepth 100000 in
theorem ciLong (K : List Int) (hK : K32 K) (fr to : ByteArray) (v : Value) (L : List Nd) (w : World) (S : Nat → Prop) (h : RdL tNd w S v L) (hok : okNs L = true) (h64 : 64 < L.length) :
    Calls Try.prog 9 #[.agg (numsA .u8 K), .string fr, .string to, v] w fun e w' => ∃ v', e = .returned (.tuple #[v', .int .i64 3]) ∧ Own tEnt 50 w' w.heap.size v' [] ∧ Ext w w' := by
  have hg := fun W hW => areNodes_any v L W S hW
  have hkl := hK.1
  have H := Lib.hid h
  obtain ⟨A, cap, rfl, _⟩ := id h
  clear h
  rw [hok] at hg
  have hl64 : (64 : Int) < (L.length : Int) := by omega
  clear hok h64
  go_enter Try.func9, Try.ntmps9
  go_wp2_with fail
  refine (hg _ (H.out.ext (by decide) (ext_alloc _ _))).mono ?_
  rintro e w1 ⟨rfl, hx⟩
  have HX := Lib.hid ((ext_alloc _ _).trans hx)
  have HKB := Lib.hid ((Blk.new w 28 (numsA .u8 K)).ext hx)
  clear hx hg
  go_wp2
  go_ret2
  exact ⟨_, rfl, Own.nil _ _ _ _, HX.out⟩
set_option maxHeartbeats 4000000 in
set_option maxRecDepth 100000 in
theorem ciLost (K : List Int) (hK : K32 K) (fr to : ByteArray) (v : Value) (L : List Nd) (w : World) (S : Nat → Prop) (h : RdL tNd w S v L) (hok : okNs L = true) (h64 : ¬ 64 < L.length) (s : Sw) (hs : rgSt K fr to L = s) (hb : s.bad = true) :
    Calls Try.prog 9 #[.agg (numsA .u8 K), .string fr, .string to, v] w fun e w' => ∃ v', e = .returned (.tuple #[v', .int .i64 8]) ∧ Own tEnt 50 w' w.heap.size v' [] ∧ Ext w w' := by
  have hg := fun W hW => areNodes_any v L W S hW
  have hkl := hK.1
  have H := Lib.hid h
  obtain ⟨A, cap, rfl, _⟩ := id h
  clear h
  have hnd := H.out.choose_spec.choose_spec.2.2.2.2
  have htr := fun W g vO hC hp hp2 => look_any L.length fr to w S K none none L [] (Nat.le_refl _) (by simpa using Nat.le_of_not_lt h64) (fun x hx => ⟨hnd x hx, by obtain ⟨i, hi, rfl⟩ := List.getElem_of_mem hx; exact okNs_at hok hi⟩) hK W g A cap vO (.pointer none) (.pointer none) H.out hC hp hp2
  unfold rgSt at hs
  simp only [Option.getD_none, Option.isSome_none, hs] at htr
  rw [hok] at hg
  have hl64 : ¬ (64 : Int) < (L.length : Int) := by omega
  simp only [hb] at htr
  clear hb
  clear hok h64 hnd hs
  go_enter Try.func9, Try.ntmps9
  go_wp2_with fail
  refine (hg _ (H.out.ext (by decide) (ext_alloc _ _))).mono ?_
  rintro e w1 ⟨rfl, hx⟩
  have HX := Lib.hid ((ext_alloc _ _).trans hx)
  have HKB := Lib.hid ((Blk.new w 28 (numsA .u8 K)).ext hx)
  clear hx hg
  go_wp2_with fail
  refine (implEmptyMapKey_any _).mono ?_
  rintro e w2 ⟨rfl, hx⟩
  replace HX := Lib.hid (HX.out.trans hx)
  have HKC := Lib.hid ((HKB.out.ext hx).alloc (.cells (swCs fr to (.slice A L.length cap) (.slice none 0 0)) 68))
  have HC2 := Lib.hid (Cx.start (t := 68) (w0 := w) (g := w2.heap.size) (vO := .slice none 0 0) (O := []) (Blk.new w2 68 (swCs fr to (.slice A L.length cap) (.slice none 0 0))) (Own.nil _ _ _ _) (HX.out.alloc _) (fun e => by cases e) HX.out.size)
  clear hx HKB
  go_wp2_with (first
    | (refine wpl_buildN rfl rfl (built_sweep fr to A L.length cap) ?_)
    | (refine wpl_loadB HKC.out aggKey (sizeN hkl) rfl _ rfl rfl ?_))
  refine (htr _ _ _ HC2.out rfl rfl).mono ?_
  rintro e w3 ⟨A3, n3, c3, v3, O3, rfl, hc3, hr3⟩
  obtain ⟨B3, m3, k3, rfl⟩ := hc3.own.shape3
  clear hr3
  have HC3 := Lib.hid hc3
  clear hc3 htr HC2 HKC
  have d2 := HC3.out.blk.at_ 2 (sw2 _ _ _ _)
  have d4 := HC3.out.blk.at_ 35 (sw35 _ _ _ _)
  go_wp2
  go_ret2
  exact ⟨_, rfl, Own.nil _ _ _ _, HC3.out.ext⟩
set_option maxHeartbeats 4000000 in
set_option maxRecDepth 100000 in
theorem ciLeft (K : List Int) (hK : K32 K) (fr to : ByteArray) (v : Value) (L : List Nd) (w : World) (S : Nat → Prop) (h : RdL tNd w S v L) (hok : okNs L = true) (h64 : ¬ 64 < L.length) (s : Sw) (hs : rgSt K fr to L = s) (hb : s.bad = false) (h0 : ¬ s.R.length = 0) :
    Calls Try.prog 9 #[.agg (numsA .u8 K), .string fr, .string to, v] w fun e w' => ∃ v', e = .returned (.tuple #[v', .int .i64 8]) ∧ Own tEnt 50 w' w.heap.size v' [] ∧ Ext w w' := by
  have hg := fun W hW => areNodes_any v L W S hW
  have hkl := hK.1
  have H := Lib.hid h
  obtain ⟨A, cap, rfl, _⟩ := id h
  clear h
  have hnd := H.out.choose_spec.choose_spec.2.2.2.2
  have htr := fun W g vO hC hp hp2 => look_any L.length fr to w S K none none L [] (Nat.le_refl _) (by simpa using Nat.le_of_not_lt h64) (fun x hx => ⟨hnd x hx, by obtain ⟨i, hi, rfl⟩ := List.getElem_of_mem hx; exact okNs_at hok hi⟩) hK W g A cap vO (.pointer none) (.pointer none) H.out hC hp hp2
  unfold rgSt at hs
  simp only [Option.getD_none, Option.isSome_none, hs] at htr
  rw [hok] at hg
  have hl64 : ¬ (64 : Int) < (L.length : Int) := by omega
  simp only [hb] at htr
  have hq : (0 : Int) < (s.R.length : Int) := by omega
  clear hb h0
  clear hok h64 hnd hs
  go_enter Try.func9, Try.ntmps9
  go_wp2_with fail
  refine (hg _ (H.out.ext (by decide) (ext_alloc _ _))).mono ?_
  rintro e w1 ⟨rfl, hx⟩
  have HX := Lib.hid ((ext_alloc _ _).trans hx)
  have HKB := Lib.hid ((Blk.new w 28 (numsA .u8 K)).ext hx)
  clear hx hg
  go_wp2_with fail
  refine (implEmptyMapKey_any _).mono ?_
  rintro e w2 ⟨rfl, hx⟩
  replace HX := Lib.hid (HX.out.trans hx)
  have HKC := Lib.hid ((HKB.out.ext hx).alloc (.cells (swCs fr to (.slice A L.length cap) (.slice none 0 0)) 68))
  have HC2 := Lib.hid (Cx.start (t := 68) (w0 := w) (g := w2.heap.size) (vO := .slice none 0 0) (O := []) (Blk.new w2 68 (swCs fr to (.slice A L.length cap) (.slice none 0 0))) (Own.nil _ _ _ _) (HX.out.alloc _) (fun e => by cases e) HX.out.size)
  clear hx HKB
  go_wp2_with (first
    | (refine wpl_buildN rfl rfl (built_sweep fr to A L.length cap) ?_)
    | (refine wpl_loadB HKC.out aggKey (sizeN hkl) rfl _ rfl rfl ?_))
  refine (htr _ _ _ HC2.out rfl rfl).mono ?_
  rintro e w3 ⟨A3, n3, c3, v3, O3, rfl, hc3, hr3⟩
  obtain ⟨B3, m3, k3, rfl⟩ := hc3.own.shape3
  obtain ⟨e1, e2, _⟩ : n3 = s.R.length ∧ O3 = s.O ∧ RdL tNd w S (.slice A3 n3 c3) s.R := by first | exact hr3 | exact hr3 trivial
  subst e1 e2
  clear hr3
  have HC3 := Lib.hid hc3
  clear hc3 htr HC2 HKC
  have d2 := HC3.out.blk.at_ 2 (sw2 _ _ _ _)
  have d4 := HC3.out.blk.at_ 35 (sw35 _ _ _ _)
  go_wp2
  go_ret2
  exact ⟨_, rfl, Own.nil _ _ _ _, HC3.out.ext⟩
set_option maxHeartbeats 4000000 in
set_option maxRecDepth 100000 in
theorem ciOk (K : List Int) (hK : K32 K) (fr to : ByteArray) (v : Value) (L : List Nd) (w : World) (S : Nat → Prop) (h : RdL tNd w S v L) (hok : okNs L = true) (h64 : ¬ 64 < L.length) (s : Sw) (hs : rgSt K fr to L = s) (hb : s.bad = false) (h0 : s.R.length = 0) :
    Calls Try.prog 9 #[.agg (numsA .u8 K), .string fr, .string to, v] w fun e w' => ∃ v', e = .returned (.tuple #[v', .int .i64 0]) ∧ Own tEnt 50 w' w.heap.size v' s.O ∧ Ext w w' := by
  have hg := fun W hW => areNodes_any v L W S hW
  have hkl := hK.1
  have H := Lib.hid h
  obtain ⟨A, cap, rfl, _⟩ := id h
  clear h
  have hnd := H.out.choose_spec.choose_spec.2.2.2.2
  have htr := fun W g vO hC hp hp2 => look_any L.length fr to w S K none none L [] (Nat.le_refl _) (by simpa using Nat.le_of_not_lt h64) (fun x hx => ⟨hnd x hx, by obtain ⟨i, hi, rfl⟩ := List.getElem_of_mem hx; exact okNs_at hok hi⟩) hK W g A cap vO (.pointer none) (.pointer none) H.out hC hp hp2
  unfold rgSt at hs
  simp only [Option.getD_none, Option.isSome_none, hs] at htr
  rw [hok] at hg
  have hl64 : ¬ (64 : Int) < (L.length : Int) := by omega
  simp only [hb] at htr
  have hq : ¬ (0 : Int) < (s.R.length : Int) := by omega
  clear hb h0
  clear hok h64 hnd hs
  go_enter Try.func9, Try.ntmps9
  go_wp2_with fail
  refine (hg _ (H.out.ext (by decide) (ext_alloc _ _))).mono ?_
  rintro e w1 ⟨rfl, hx⟩
  have HX := Lib.hid ((ext_alloc _ _).trans hx)
  have HKB := Lib.hid ((Blk.new w 28 (numsA .u8 K)).ext hx)
  clear hx hg
  go_wp2_with fail
  refine (implEmptyMapKey_any _).mono ?_
  rintro e w2 ⟨rfl, hx⟩
  replace HX := Lib.hid (HX.out.trans hx)
  have HKC := Lib.hid ((HKB.out.ext hx).alloc (.cells (swCs fr to (.slice A L.length cap) (.slice none 0 0)) 68))
  have HC2 := Lib.hid (Cx.start (t := 68) (w0 := w) (g := w2.heap.size) (vO := .slice none 0 0) (O := []) (Blk.new w2 68 (swCs fr to (.slice A L.length cap) (.slice none 0 0))) (Own.nil _ _ _ _) (HX.out.alloc _) (fun e => by cases e) HX.out.size)
  clear hx HKB
  go_wp2_with (first
    | (refine wpl_buildN rfl rfl (built_sweep fr to A L.length cap) ?_)
    | (refine wpl_loadB HKC.out aggKey (sizeN hkl) rfl _ rfl rfl ?_))
  refine (htr _ _ _ HC2.out rfl rfl).mono ?_
  rintro e w3 ⟨A3, n3, c3, v3, O3, rfl, hc3, hr3⟩
  obtain ⟨B3, m3, k3, rfl⟩ := hc3.own.shape3
  obtain ⟨e1, e2, _⟩ : n3 = s.R.length ∧ O3 = s.O ∧ RdL tNd w S (.slice A3 n3 c3) s.R := by first | exact hr3 | exact hr3 trivial
  subst e1 e2
  clear hr3
  have HC3 := Lib.hid hc3
  clear hc3 htr HC2 HKC
  have d2 := HC3.out.blk.at_ 2 (sw2 _ _ _ _)
  have d4 := HC3.out.blk.at_ 35 (sw35 _ _ _ _)
  go_wp2
  go_ret2
  exact ⟨_, rfl, HC3.out.own, HC3.out.ext⟩
set_option maxHeartbeats 1000000 in
set_option maxRecDepth 100000 in
theorem implCheckRange_any (K : List Int) (hK : K32 K) (fr to : ByteArray) (v : Value) (L : List Nd) (w : World) (S : Nat → Prop) (h : RdL tNd w S v L) :
    Calls Try.prog 9 #[.agg (numsA .u8 K), .string fr, .string to, v] w fun e w' => ∃ v', e = .returned (.tuple #[v', .int .i64 (crR K fr to L).2]) ∧ Own tEnt 50 w' w.heap.size v' (crR K fr to L).1 ∧ Ext w w' := by
  cases hok : okNs L with
  | false =>
    have hg := givenR_bad hok
    rw [crR, if_neg (by rw [hg]; decide), hg]
    exact ciBad K hK fr to v L w S h hok
  | true =>
    by_cases h64 : 64 < L.length
    · have hg := givenR_long hok h64
      rw [crR, if_neg (by rw [hg]; decide), hg]
      exact ciLong K hK fr to v L w S h hok h64
    · have hg := givenR_ok hok h64
      obtain ⟨s, hs⟩ : ∃ s, rgSt K fr to L = s := ⟨_, rfl⟩
      rw [crR, if_pos hg, hs]
      cases hb : s.bad with
      | true =>
        rw [if_pos (by rw [Bool.true_or])]
        exact ciLost K hK fr to v L w S h hok h64 s hs hb
      | false =>
        by_cases h0 : s.R.length = 0
        · rw [if_neg (by simp [List.eq_nil_of_length_eq_zero h0])]
          exact ciOk K hK fr to v L w S h hok h64 s hs hb h0
        · rw [if_pos (by cases hR : s.R with | nil => rw [hR] at h0; exact absurd rfl h0 | cons x r => rfl)]
          exact ciLeft K hK fr to v L w S h hok h64 s hs hb h0
end Go.Proofs.Ytipeaoanhcjnjaa
/- Marks laid on lists of keys, and read. No condition. -/
namespace Go.Proofs.Ytipeaoanhcjnjaa
open Go.RowKit
set_option linter.unusedVariables false
set_option linter.unusedSimpArgs false

/-- the keys of v hold the marks m, m + 1, .. -/
def MarkedK (w : World) (S : Nat → Prop) (v : Value) (n : Nat) (m : Int) : Prop :=
  ∃ A cap, v = .slice A n cap ∧ n ≤ 140737488355328 ∧ (0 < n → ∃ g o, A = some ⟨g, o, none⟩ ∧ S g ∧ ∀ j, j < n * 32 → w.cell? ⟨g, o + j, none⟩ = some (.int .u8 ((m + j) % 256)))
theorem MarkedK.ext {w w' : World} {S : Nat → Prop} {v : Value} {n : Nat} {m : Int} (h : MarkedK w S v n m) (e : Ext w w') : MarkedK w' S v n m := by
  obtain ⟨A, cap, h1, h2, h3⟩ := h
  refine ⟨A, cap, h1, h2, fun hn => ?_⟩
  obtain ⟨g, o, h4, h5, h6⟩ := h3 hn
  exact ⟨g, o, h4, h5, fun j hj => e.cell (h6 j hj)⟩
theorem Own.far_of_lt {α : Type} {T : Ty α} {e : TypeId} {w : World} {base g : Nat} {v : Value} {xs : List α} (h : Own T e w base v xs) (hg : g < base) : some g ≠ v.ownBlock := fun e => by have := (h.base_le _ e.symm).1; omega
end Go.Proofs.Ytipeaoanhcjnjaa
/- Marks laid on lists of nodes, and read. No condition. -/
namespace Go.Proofs.Ytipeaoanhcjnjaa
open Go.RowKit
set_option linter.unusedVariables false
set_option linter.unusedSimpArgs false

/-- the mark in cell p of a row of nodes -/
@[irreducible] def mkN (m : Int) (p : Nat) : Value := if p % 66 < 64 then .int .u8 ((m + p) % 256) else .string (mtxt (m + p))
theorem mkN_lo (m : Int) (p : Nat) (h : p % 66 < 64) : mkN m p = .int .u8 ((m + p) % 256) := by rw [mkN, if_pos h]
theorem mkN_hi (m : Int) (p : Nat) (h : ¬ p % 66 < 64) : mkN m p = .string (mtxt (m + p)) := by rw [mkN, if_neg h]
def MkR (cur : Array Value) (o : Nat) (m : Int) (t : Nat) : Prop := ∀ p, p < t → cur[o + p]? = some (mkN m p)
theorem MkR.step {cur : Array Value} {o : Nat} {m : Int} {t q : Nat} {v : Value} (h : MkR cur o m t) (hq : q = o + t) (hin : q < cur.size) (hv : v = mkN m t) : MkR (cur.setIfInBounds q v) o m (t + 1) := by
  subst hq hv
  intro p hp
  by_cases e : p = t
  · subst e
    rw [Array.getElem?_setIfInBounds_self_of_lt hin]
  · rw [Array.getElem?_setIfInBounds_ne (by omega)]
    exact h p (by omega)
/-- the nodes of v hold the marks m, m + 1, .. -/
def MarkedN (w : World) (S : Nat → Prop) (v : Value) (n : Nat) (m : Int) : Prop :=
  ∃ A cap, v = .slice A n cap ∧ n ≤ 140737488355328 ∧ (0 < n → ∃ g o, A = some ⟨g, o, none⟩ ∧ S g ∧ ∀ j, j < n * 66 → w.cell? ⟨g, o + j, none⟩ = some (mkN m j))
theorem MarkedN.ext {w w' : World} {S : Nat → Prop} {v : Value} {n : Nat} {m : Int} (h : MarkedN w S v n m) (e : Ext w w') : MarkedN w' S v n m := by
  obtain ⟨A, cap, h1, h2, h3⟩ := h
  refine ⟨A, cap, h1, h2, fun hn => ?_⟩
  obtain ⟨g, o, h4, h5, h6⟩ := h3 hn
  exact ⟨g, o, h4, h5, fun j hj => e.cell (h6 j hj)⟩
set_option maxHeartbeats 4000000 in
set_option maxRecDepth 100000 in
theorem markMapNodeS_any (v : Value) (n : Nat) (m : Int) (w : World) (lo : Nat) (h : Wr w lo 66 v n) (hm : 0 < m) (hmn : m + n * 66 ≤ 1000000000000000) :
    Calls Try.prog 12 #[v, .int .i64 m] w fun e w' => e = .returned (.int .i64 (m + n * 66)) ∧ MarkedN w' (fun g => lo ≤ g ∧ some g = v.ownBlock) v n m ∧ w.grownBy w' v.ownBlock := by
  obtain ⟨A, cap, rfl, hcap, hlen, hw⟩ := h
  have HW := Lib.hid hw
  clear hw
  by_cases h0 : n = 0
  · subst h0
    go_enter Try.func12, Try.ntmps12
    go_wp2
    go_loopw [1, 5] (fun q i wr => q = .int .i64 m ∧ i = .int .i64 0 ∧ wr = w) (fun _ _ _ => 0)
    case atStart => exact ⟨rfl, rfl, rfl⟩
    case round =>
      obtain ⟨rfl, rfl, rfl⟩ := hrel
      go_wp2
      go_ret
      exact ⟨ret_int (by simp), ⟨A, cap, rfl, by omega, fun h => by omega⟩, grown_refl _ _⟩
  · obtain ⟨g, o, cur, t, rfl, hlo, hB, hsz⟩ := HW.out (by omega)
    have HB := Lib.hid hB
    clear hB
    go_enter Try.func12, Try.ntmps12
    go_wp2
    go_loopw [1, 5, 6, 7] (fun q i _ _ wr => ∃ k : Nat, k ≤ n ∧ q = .int .i64 (m + (k : Int) * 66) ∧ i = .int .i64 k ∧ (∃ cur', Blk wr g t cur' ∧ cur'.size = cur.size ∧ MkR cur' o m (k * 66)) ∧ w.grownBy wr (some g))
      (fun _ i _ _ _ => n - (intOf i).toNat)
    case atStart => exact ⟨0, by omega, by simp, rfl, ⟨cur, HB.out, rfl, fun j hj => by omega⟩, grown_refl _ _⟩
    case round =>
      obtain ⟨k, hk, rfl, rfl, ⟨cur', hB', hs', hc'⟩, hg⟩ := hrel
      have HG := Lib.hid hg
      have HC := Lib.hid hc'
      have HS := Lib.hid hs'
      have HB' := Lib.hid hB'
      clear hg hc' hs' hB'
      obtain ⟨wo, rfl⟩ : ∃ wo : World, wo = wr := ⟨_, rfl⟩
      by_cases hlt : k < n
      · go_wp2
        go_loopw [1, 6] (fun q i wr => ∃ j : Nat, j ≤ 32 ∧ q = .int .i64 (m + (k : Int) * 66 + j) ∧ i = .int .i64 j ∧ (∃ cur', Blk wr g t cur' ∧ cur'.size = cur.size ∧ MkR cur' o m (k * 66 + j)) ∧ w.grownBy wr (some g))
          (fun _ i _ => 32 - (intOf i).toNat)
        case atStart => exact ⟨0, by omega, by simp, rfl, ⟨cur', HB'.out, HS.out, HC.out⟩, HG.out⟩
        case round =>
          clear HB' HS HC HG
          obtain ⟨j, hj, rfl, rfl, ⟨cur2, hB2, hs2, hc2⟩, hg2⟩ := hrel
          have HG := Lib.hid hg2
          have HC := Lib.hid hc2
          have HS := Lib.hid hs2
          clear hg2 hc2 hs2
          by_cases hlj : j < 32
          · have hin : o + k * 66 + j < cur2.size := by rw [HS.out]; omega
            have hcell : wr.cell? ⟨g, o + k * 66 + j, none⟩ = some cur2[o + k * 66 + j] := hB2.at_ _ (Array.getElem?_eq_getElem hin)
            have hfr := hB2.free (o + k * 66 + j)
            have HB2 := Lib.hid hB2
            clear hB2
            go_wp2
            go_roundw
            case rel => exact ⟨j + 1, by omega, by go_num, by go_num, ⟨_, HB2.out.set (o + k * 66 + j) _, by simp [HS.out], by
              have := HC.out.step (q := o + k * 66 + j) (by omega) hin (v := .int .u8 ((m + (k : Int) * 66 + j) % 256)) (by rw [mkN_lo _ _ (by omega)]; congr 2; push_cast; omega)
              simpa [Nat.add_assoc] using this⟩, grown_set HG.out _⟩
            case measure => simp [intOf]; omega
          · obtain rfl : j = 32 := by omega
            have HB2 := Lib.hid hB2
            clear hB2
            simp only [Int.cast_ofNat_Int]
            go_wp2
            obtain ⟨wo2, rfl⟩ : ∃ wo2 : World, wo2 = wr := ⟨_, rfl⟩
            go_loopw [1, 7] (fun q i wr => ∃ j : Nat, j ≤ 32 ∧ q = .int .i64 (m + (k : Int) * 66 + 32 + j) ∧ i = .int .i64 j ∧ (∃ cur', Blk wr g t cur' ∧ cur'.size = cur.size ∧ MkR cur' o m (k * 66 + 32 + j)) ∧ w.grownBy wr (some g))
              (fun _ i _ => 32 - (intOf i).toNat)
            case atStart => exact ⟨0, by omega, by simp, rfl, ⟨cur2, HB2.out, HS.out, HC.out⟩, HG.out⟩
            case round =>
              clear HB2 HS HC HG hlj hj
              obtain ⟨j, hj, rfl, rfl, ⟨cur2, hB2, hs2, hc2⟩, hg2⟩ := hrel
              have HG := Lib.hid hg2
              have HC := Lib.hid hc2
              have HS := Lib.hid hs2
              clear hg2 hc2 hs2
              by_cases hlj : j < 32
              · have hin : o + k * 66 + 32 + j < cur2.size := by rw [HS.out]; omega
                have hcell : wr.cell? ⟨g, o + k * 66 + 32 + j, none⟩ = some cur2[o + k * 66 + 32 + j] := hB2.at_ _ (Array.getElem?_eq_getElem hin)
                have hfr := hB2.free (o + k * 66 + 32 + j)
                have HB2 := Lib.hid hB2
                clear hB2
                go_wp2
                go_roundw
                case rel => exact ⟨j + 1, by omega, by go_num, by go_num, ⟨_, HB2.out.set (o + k * 66 + 32 + j) _, by simp [HS.out], by
                  have := HC.out.step (q := o + k * 66 + 32 + j) (by omega) hin (v := .int .u8 ((m + (k : Int) * 66 + 32 + j) % 256)) (by rw [mkN_lo _ _ (by omega)]; congr 2; push_cast; omega)
                  simpa [Nat.add_assoc] using this⟩, grown_set HG.out _⟩
                case measure => simp [intOf]; omega
              · obtain rfl : j = 32 := by omega
                have HB2 := Lib.hid hB2
                clear hB2
                simp only [Int.cast_ofNat_Int]
                have e64 : m + (k : Int) * 66 + 32 + 32 = m + (k : Int) * 66 + 64 := by omega
                rw [e64]
                have hmt0 := markText_any (m + (k : Int) * 66 + 64) (by omega) (by omega)
                have hmt1 := markText_any (m + (k : Int) * 66 + 64 + 1) (by omega) (by omega)
                have hi : (0 : Int) ≤ (k : Int) := by omega
                have hi2 : (k : Int) < (n : Int) := by omega
                clear e64
                go_wp2_with fail
                refine (hmt0 _).mono ?_
                rintro e w1 ⟨rfl, hx⟩
                have HB3 := Lib.hid (HB2.out.ext hx)
                have HG3 := Lib.hid (grown_ext HG.out hx)
                clear hx HB2 HG
                have hin : o + k * 66 + 64 < cur2.size := by rw [HS.out]; omega
                have hcell : w1.cell? ⟨g, o + k * 66 + 64, none⟩ = some cur2[o + k * 66 + 64] := HB3.out.at_ _ (Array.getElem?_eq_getElem hin)
                have hfr := HB3.out.free (o + k * 66 + 64)
                go_wp2_with fail
                refine (hmt1 _).mono ?_
                rintro e w2 ⟨rfl, hx⟩
                have HB4 := Lib.hid ((HB3.out.set (o + k * 66 + 64) (.string (mtxt (m + (k : Int) * 66 + 64)))).ext hx)
                have HG4 := Lib.hid (grown_ext (grown_set HG3.out (i := o + k * 66 + 64) (.string (mtxt (m + (k : Int) * 66 + 64)))) hx)
                have HC4 := Lib.hid (HC.out.step (q := o + k * 66 + 64) (by omega) hin (v := .string (mtxt (m + (k : Int) * 66 + 64))) (by rw [mkN_hi _ _ (by omega)]; congr 2; push_cast; omega))
                clear hx HB3 HG3 hcell hfr HC
                obtain ⟨c2, hc2⟩ : ∃ c2, cur2.setIfInBounds (o + k * 66 + 64) (.string (mtxt (m + (k : Int) * 66 + 64))) = c2 := ⟨_, rfl⟩
                rw [hc2] at HB4 HC4
                have hs2 : c2.size = cur.size := by rw [← hc2, Array.size_setIfInBounds, HS.out]
                clear hc2
                have hin2 : o + k * 66 + 64 + 1 < c2.size := by rw [hs2]; omega
                have hcell : w2.cell? ⟨g, o + k * 66 + 64 + 1, none⟩ = some c2[o + k * 66 + 64 + 1] := HB4.out.at_ _ (Array.getElem?_eq_getElem hin2)
                have hfr := HB4.out.free (o + k * 66 + 64 + 1)
                go_wp2
                go_roundw
                case rel => exact ⟨k + 1, by omega, by go_num, by go_num, ⟨_, HB4.out.set (o + k * 66 + 64 + 1) _, by rw [Array.size_setIfInBounds, hs2], by
                  have := HC4.out.step (q := o + k * 66 + 64 + 1) (by omega) hin2 (v := .string (mtxt (m + (k : Int) * 66 + 64 + 1))) (by rw [mkN_hi _ _ (by omega)]; congr 2; push_cast; omega)
                  rw [show (k + 1) * 66 = k * 66 + 32 + 32 + 1 + 1 by omega]
                  exact this⟩, grown_set HG4.out _⟩
                case measure => simp [intOf]; omega
      · obtain rfl : k = n := by omega
        go_wp2
        go_ret
        refine ⟨rfl, ⟨_, cap, rfl, hlen, fun _ => ⟨g, o, rfl, ⟨hlo, rfl⟩, fun j hj => by rw [HB'.out.cell, HC.out j hj]⟩⟩, HG.out⟩
end Go.Proofs.Ytipeaoanhcjnjaa
/- Marks laid on lists of entries, and read. No condition. -/
namespace Go.Proofs.Ytipeaoanhcjnjaa
open Go.RowKit
set_option linter.unusedVariables false
set_option linter.unusedSimpArgs false

/-- the entries of v hold the marks m, m + 1, .. -/
def MarkedE (w : World) (S : Nat → Prop) (v : Value) (n : Nat) (m : Int) : Prop :=
  ∃ A cap, v = .slice A n cap ∧ n ≤ 140737488355328 ∧ (0 < n → ∃ g o, A = some ⟨g, o, none⟩ ∧ S g ∧ ∀ j : Nat, j < n * 2 → w.cell? ⟨g, o + j, none⟩ = some (.string (mtxt (m + j))))
theorem MarkedE.ext {w w' : World} {S : Nat → Prop} {v : Value} {n : Nat} {m : Int} (h : MarkedE w S v n m) (e : Ext w w') : MarkedE w' S v n m := by
  obtain ⟨A, cap, h1, h2, h3⟩ := h
  refine ⟨A, cap, h1, h2, fun hn => ?_⟩
  obtain ⟨g, o, h4, h5, h6⟩ := h3 hn
  exact ⟨g, o, h4, h5, fun j hj => e.cell (h6 j hj)⟩
set_option maxHeartbeats 1000000 in
set_option maxRecDepth 100000 in
theorem markEntryS_any (v : Value) (n : Nat) (m : Int) (w : World) (lo : Nat) (h : Wr w lo 2 v n) (hm : 0 < m) (hmn : m + n * 2 ≤ 1000000000000000) :
    Calls Try.prog 13 #[v, .int .i64 m] w fun e w' => e = .returned (.int .i64 (m + n * 2)) ∧ MarkedE w' (fun g => lo ≤ g ∧ some g = v.ownBlock) v n m ∧ w.grownBy w' v.ownBlock := by
  obtain ⟨A, cap, rfl, hcap, hlen, hw⟩ := h
  have HW := Lib.hid hw
  clear hw
  by_cases h0 : n = 0
  · subst h0
    go_enter Try.func13, Try.ntmps13
    go_wp2
    go_loopw [1, 5] (fun q i wr => q = .int .i64 m ∧ i = .int .i64 0 ∧ wr = w) (fun _ _ _ => 0)
    case atStart => exact ⟨rfl, rfl, rfl⟩
    case round =>
      obtain ⟨rfl, rfl, rfl⟩ := hrel
      go_wp2
      go_ret
      exact ⟨ret_int (by simp), ⟨A, cap, rfl, by omega, fun h => by omega⟩, grown_refl _ _⟩
  · obtain ⟨g, o, cur, t, rfl, hlo, hB, hsz⟩ := HW.out (by omega)
    have HB := Lib.hid hB
    clear hB
    go_enter Try.func13, Try.ntmps13
    go_wp2
    go_loopw [1, 5] (fun q i wr => ∃ k : Nat, k ≤ n ∧ q = .int .i64 (m + (k : Int) * 2) ∧ i = .int .i64 k ∧ (∃ cur', Blk wr g t cur' ∧ cur'.size = cur.size ∧ ∀ j : Nat, j < k * 2 → cur'[o + j]? = some (.string (mtxt (m + j)))) ∧ w.grownBy wr (some g))
      (fun _ i _ => n - (intOf i).toNat)
    case atStart => exact ⟨0, by omega, by simp, rfl, ⟨cur, HB.out, rfl, fun j hj => by omega⟩, grown_refl _ _⟩
    case round =>
      obtain ⟨k, hk, rfl, rfl, ⟨cur', hB', hs', hc'⟩, hg⟩ := hrel
      have HG := Lib.hid hg
      have HC := Lib.hid hc'
      have HS := Lib.hid hs'
      have HB' := Lib.hid hB'
      clear hg hc' hs' hB'
      by_cases hlt : k < n
      · have hmt0 := markText_any (m + (k : Int) * 2) (by omega) (by omega)
        have hmt1 := markText_any (m + (k : Int) * 2 + 1) (by omega) (by omega)
        have hi : (0 : Int) ≤ (k : Int) := by omega
        have hi2 : (k : Int) < (n : Int) := by omega
        go_wp2_with fail
        refine (hmt0 _).mono ?_
        rintro e w1 ⟨rfl, hx⟩
        have HB1 := Lib.hid (HB'.out.ext hx)
        have HG1 := Lib.hid (grown_ext HG.out hx)
        clear hx HB' HG
        have hin : o + k * 2 < cur'.size := by rw [HS.out]; omega
        have hcell : w1.cell? ⟨g, o + k * 2, none⟩ = some cur'[o + k * 2] := HB1.out.at_ _ (Array.getElem?_eq_getElem hin)
        have hfr := HB1.out.free (o + k * 2)
        go_wp2_with fail
        refine (hmt1 _).mono ?_
        rintro e w2 ⟨rfl, hx⟩
        have HB2 := Lib.hid ((HB1.out.set (o + k * 2) (.string (mtxt (m + (k : Int) * 2)))).ext hx)
        have HG2 := Lib.hid (grown_ext (grown_set HG1.out (i := o + k * 2) (.string (mtxt (m + (k : Int) * 2)))) hx)
        clear hx HB1 HG1 hcell hfr
        obtain ⟨c2, hc2⟩ : ∃ c2, cur'.setIfInBounds (o + k * 2) (.string (mtxt (m + (k : Int) * 2))) = c2 := ⟨_, rfl⟩
        rw [hc2] at HB2
        have HC2 := Lib.hid hc2
        have hs2 : c2.size = cur.size := by rw [← hc2, Array.size_setIfInBounds, HS.out]
        clear hc2
        have hin2 : o + k * 2 + 1 < c2.size := by rw [hs2]; omega
        have hcell : w2.cell? ⟨g, o + k * 2 + 1, none⟩ = some c2[o + k * 2 + 1] := HB2.out.at_ _ (Array.getElem?_eq_getElem hin2)
        have hfr := HB2.out.free (o + k * 2 + 1)
        go_wp2
        go_roundw
        case rel => exact ⟨k + 1, by omega, by go_num, by go_num, ⟨_, HB2.out.set (o + k * 2 + 1) _, by rw [Array.size_setIfInBounds, hs2], fun p hp => by
          by_cases hp1 : p = k * 2 + 1
          · subst hp1
            rw [← Nat.add_assoc, Array.getElem?_setIfInBounds_self_of_lt hin2]
            congr 3
            push_cast
            omega
          · rw [Array.getElem?_setIfInBounds_ne (by omega), ← HC2.out]
            by_cases hp0 : p = k * 2
            · subst hp0
              rw [Array.getElem?_setIfInBounds_self_of_lt hin]
              congr 3
            · rw [Array.getElem?_setIfInBounds_ne (by omega)]
              exact HC.out p (by omega)⟩, grown_set HG2.out _⟩
        case measure => simp [intOf]; omega
      · obtain rfl : k = n := by omega
        go_wp2
        go_ret
        refine ⟨rfl, ⟨_, cap, rfl, hlen, fun _ => ⟨g, o, rfl, ⟨hlo, rfl⟩, fun j hj => by rw [HB'.out.cell, HC.out j hj]⟩⟩, HG.out⟩
set_option maxHeartbeats 1000000 in
set_option maxRecDepth 100000 in
theorem heldEntryS_any (v : Value) (n : Nat) (m : Int) (w : World) (S : Nat → Prop) (h : MarkedE w S v n m) (hm : 0 < m) (hmn : m + n * 2 ≤ 1000000000000000) :
    Calls Try.prog 14 #[v, .int .i64 m] w fun e w' => e = .returned (.int .i64 (m + n * 2)) ∧ Ext w w' := by
  obtain ⟨A, cap, rfl, hlen, hw⟩ := h
  have HW := Lib.hid hw
  clear hw
  go_enter Try.func14, Try.ntmps14
  go_wp2
  go_loopw [1, 5] (fun q i wr => ∃ k : Nat, k ≤ n ∧ q = .int .i64 (m + (k : Int) * 2) ∧ i = .int .i64 k ∧ Ext w wr) (fun _ i _ => n - (intOf i).toNat)
  case atStart => exact ⟨0, by omega, by simp, rfl, Ext.refl _⟩
  case round =>
    obtain ⟨k, hk, rfl, rfl, hx⟩ := hrel
    have HX := Lib.hid hx
    clear hx
    by_cases hlt : k < n
    · obtain ⟨g, o, rfl, hs, hc⟩ := HW.out (by omega)
      have HC := Lib.hid hc
      clear hc
      have hmt0 := markText_any (m + (k : Int) * 2) (by omega) (by omega)
      have hmt1 := markText_any (m + (k : Int) * 2 + 1) (by omega) (by omega)
      have hi : (0 : Int) ≤ (k : Int) := by omega
      have hi2 : (k : Int) < (n : Int) := by omega
      have d0 : ∀ W, Ext wr W → W.cell? ⟨g, o + k * 2, none⟩ = some (.string (mtxt (m + (k : Int) * 2))) := fun W hW => by
        have := (HX.out.trans hW).cell (HC.out (k * 2) (by omega))
        rw [this]
        congr 3
      have hne : ((mtxt (m + (k : Int) * 2)).toList != (mtxt (m + (k : Int) * 2)).toList) = false := by simp
      have hne1 : ((mtxt (m + (k : Int) * 2 + 1)).toList != (mtxt (m + (k : Int) * 2 + 1)).toList) = false := by simp
      go_wp2_with fail
      refine wp_region_held_drew (S := fun W => Ext wr W) (by kernel_rfl) (Ext.refl _).drew (fun hHeld => ?_)
      iterate 6
        refine tkD 0 (by simp only [List.size_toArray, List.length_cons, List.length_nil]; rfl) (by simp only [List.getElem?_toArray, List.getElem?_cons_zero, List.getElem?_cons_succ]; rfl) (by kernel_rfl) (by exact fun _ _ _ h => h) (by first | (exact Or.inl ⟨by rfl, by intro w hSw; (try dsimp only at hSw); go_simp; with_reducible rfl⟩) | (exact Or.inr ⟨by rfl, by rfl⟩)) (by assumption) ?_
        try simp only [Act.put, List.setIfInBounds_toArray, List.set_cons_zero, List.set_cons_succ]
      refine wpAnyH_ready (rs := [6]) (by kernel_rfl) (by simp) (AllReadyH.cons (o := ?oy76) ?hy76 (fun K hK => ?sy76) AllReadyH.nil)
      case hy76 => simp only [List.getElem?_toArray, List.getElem?_cons_zero, List.getElem?_cons_succ]; rfl
      go_simp
      refine (hmt0 _).mono ?_
      rintro e w9 ⟨rfl, hx⟩
      have hH2 := hHeld.trans hx
      refine hK.out _ _ hH2 (fun _ => ?_)
      clear hHeld hK K
      have hHeld := hH2
      clear hH2
      try simp only [Act.put, List.setIfInBounds_toArray, List.set_cons_zero, List.set_cons_succ]
      refine tkI 7 (by simp only [List.getElem?_toArray, List.getElem?_cons_zero, List.getElem?_cons_succ]; rfl) (by kernel_rfl) (by exact fun _ _ _ h => h) (by first | (exact Or.inl ⟨by rfl, by intro w hSw; (try dsimp only at hSw); go_simp; with_reducible rfl⟩) | (exact Or.inr ⟨by rfl, by rfl⟩)) (by assumption) ?_
      try simp only [Act.put, List.setIfInBounds_toArray, List.set_cons_zero, List.set_cons_succ]
      refine wpAnyH_done (by kernel_rfl) ?_ _
      have HX2 := Lib.hid (HX.out.trans hHeld)
      clear hHeld d0
      go_wp2_with fail
      generalize w9 = w2 at *
      have d1 : ∀ W, Ext w2 W → W.cell? ⟨g, o + k * 2 + 1, none⟩ = some (.string (mtxt (m + (k : Int) * 2 + 1))) := fun W hW => by
        have := (HX2.out.trans hW).cell (HC.out (k * 2 + 1) (by omega))
        rw [Nat.add_assoc, this]
        congr 3
        push_cast
        omega
      refine wp_region_held_drew (S := fun W => Ext w2 W) (by kernel_rfl) (Ext.refl _).drew (fun hHeld => ?_)
      iterate 6
        refine tkD 0 (by simp only [List.size_toArray, List.length_cons, List.length_nil]; rfl) (by simp only [List.getElem?_toArray, List.getElem?_cons_zero, List.getElem?_cons_succ]; rfl) (by kernel_rfl) (by exact fun _ _ _ h => h) (by first | (exact Or.inl ⟨by rfl, by intro w hSw; (try dsimp only at hSw); go_simp; with_reducible rfl⟩) | (exact Or.inr ⟨by rfl, by rfl⟩)) (by assumption) ?_
        try simp only [Act.put, List.setIfInBounds_toArray, List.set_cons_zero, List.set_cons_succ]
      refine wpAnyH_ready (rs := [6]) (by kernel_rfl) (by simp) (AllReadyH.cons (o := ?oy156) ?hy156 (fun K hK => ?sy156) AllReadyH.nil)
      case hy156 => simp only [List.getElem?_toArray, List.getElem?_cons_zero, List.getElem?_cons_succ]; rfl
      go_simp
      refine (hmt1 _).mono ?_
      rintro e w9 ⟨rfl, hx⟩
      have hH2 := hHeld.trans hx
      refine hK.out _ _ hH2 (fun _ => ?_)
      clear hHeld hK K
      have hHeld := hH2
      clear hH2
      try simp only [Act.put, List.setIfInBounds_toArray, List.set_cons_zero, List.set_cons_succ]
      refine tkI 7 (by simp only [List.getElem?_toArray, List.getElem?_cons_zero, List.getElem?_cons_succ]; rfl) (by kernel_rfl) (by exact fun _ _ _ h => h) (by first | (exact Or.inl ⟨by rfl, by intro w hSw; (try dsimp only at hSw); go_simp; with_reducible rfl⟩) | (exact Or.inr ⟨by rfl, by rfl⟩)) (by assumption) ?_
      try simp only [Act.put, List.setIfInBounds_toArray, List.set_cons_zero, List.set_cons_succ]
      refine wpAnyH_done (by kernel_rfl) ?_ _
      have HX3 := Lib.hid (HX2.out.trans hHeld)
      clear hHeld
      go_wp2
      go_roundw
      case rel => exact ⟨k + 1, by omega, by go_num, by go_num, HX3.out⟩
      case measure => simp [intOf]; omega
    · go_wp2
      go_ret
      obtain rfl : k = n := by omega
      exact ⟨rfl, HX.out⟩
end Go.Proofs.Ytipeaoanhcjnjaa
/- An entry as an argument of a law. No condition. -/
namespace Go.Proofs.Ytipeaoanhcjnjaa
open Go.RowKit
set_option linter.unusedVariables false
set_option linter.unusedSimpArgs false

end Go.Proofs.Ytipeaoanhcjnjaa
/- The walk of the law FnExactCheckRangeOfMap. No condition. -/
namespace Go.Proofs.Ytipeaoanhcjnjaa
open Go.RowKit
set_option linter.unusedVariables false
set_option linter.unusedSimpArgs false

set_option maxHeartbeats 1000000 in
set_option maxRecDepth 100000 in
theorem FnExactCheckRangeOfMap_any (w : World) (x0 : List Int) (hk0 : K32 x0) (s1 : ByteArray) (hs1 : s1.size ≤ 140737488351232) (s2 : ByteArray) (hs2 : s2.size ≤ 140737488351232) (v3 : Value) (x3 : List Nd) (S3 : Nat → Prop) (h3 : RdL tNd w S3 v3 x3) :
    Calls Try.prog 3 #[.agg (numsA .u8 x0), .string s1, .string s2, v3] w fun e w' => e = .returned (.bool true) ∧ Ext w w' := by
  obtain ⟨A3, cap3, rfl, _, hlen3, _⟩ := id h3
  have H3 := Lib.hid h3
  clear h3
  have hn0 : ((numsA .u8 x0) : Array Value).size = 32 := sizeN hk0.1
  by_cases hl1 : (1048576 : Int) < (s1.size : Int)
  · go_enter Try.func3, Try.ntmps3
    go_wp2_with fail
    go_ret
    exact ⟨rfl, ((Ext.refl _).alloc _)⟩
  have hm1 : s1.size ≤ 1048576 := by omega
  by_cases hl2 : (1048576 : Int) < (s2.size : Int)
  · go_enter Try.func3, Try.ntmps3
    go_wp2_with fail
    go_ret
    exact ⟨rfl, ((Ext.refl _).alloc _)⟩
  have hm2 : s2.size ≤ 1048576 := by omega
  by_cases hz3 : (1048576 - (ndsN x3 : Nat) : Int) < 0
  · go_enter Try.func3, Try.ntmps3
    go_wp2_with (first | (refine wpl_loadB (Blk.new' (g := w.heap.size) (w := w) (by simp) 22 (numsA .u8 x0)) aggB32 hn0 rfl _ rfl rfl ?_))
    refine (szMapNodeS_u _ x3 (1048576) _ _ (H3.out.ext (by decide) (ext_alloc _ _)) (by omega) (by omega)).mono ?_
    rintro e w1 ⟨rfl, hx⟩
    rw [if_pos (by omega)]
    have B0 := Lib.hid ((Blk.new' (g := w.heap.size) (w := w) (by simp) 22 (numsA .u8 x0)).ext hx)
    have XW := Lib.hid ((ext_alloc _ _).trans hx)
    clear hx
    go_wp2_with (first | (refine wpl_loadB B0.out aggB32 hn0 rfl _ rfl rfl ?_))
    go_ret
    exact ⟨rfl, XW.out⟩
  have hln3 : x3.length ≤ 1048576 := by have := ndsN_eq x3; omega
  obtain ⟨R, c, hR⟩ : ∃ R c, crR x0 s1 s2 x3 = (R, c) := ⟨_, _, rfl⟩
  have HR1 := Lib.hid (congrArg Prod.fst hR)
  have HR2 := Lib.hid (congrArg Prod.snd hR)
  clear hR
  have hq : (c != c) = false := by simp
  go_enter Try.func3, Try.ntmps3
  go_wp2_with (first | (refine wpl_loadB (Blk.new' (g := w.heap.size) (w := w) (by simp) 22 (numsA .u8 x0)) aggB32 hn0 rfl _ rfl rfl ?_))
  refine (szMapNodeS_u _ x3 (1048576) _ _ (H3.out.ext (by decide) (ext_alloc _ _)) (by omega) (by omega)).mono ?_
  rintro e w1 ⟨rfl, hx⟩
  rw [if_neg (by omega)]
  have B0 := Lib.hid ((Blk.new' (g := w.heap.size) (w := w) (by simp) 22 (numsA .u8 x0)).ext hx)
  have XW := Lib.hid ((ext_alloc _ _).trans hx)
  clear hx
  go_wp2_with (first | (refine wpl_loadB B0.out aggB32 hn0 rfl _ rfl rfl ?_))
  refine (toKey_any x0 hk0 _).mono ?_
  rintro e w2 ⟨rfl, hx⟩
  replace B0 := Lib.hid (B0.out.ext hx)
  replace XW := Lib.hid (XW.out.trans hx)
  clear hx
  go_wp2_with (first | (refine wpl_loadB B0.out aggB32 hn0 rfl _ rfl rfl ?_))
  refine (toMapNodeS_u _ x3 _ _ (H3.out.ext (by decide) XW.out) hln3).mono ?_
  rintro e w3 ⟨vs3, rfl, ho, hx⟩
  have BB0_Os3 := Lib.hid (ho.far_of_lt (Nat.lt_of_lt_of_le B0.out.lt (by first | exact Nat.le_refl _ | simp)))
  replace ho := ho.le (base' := w.heap.size) XW.out.size
  replace B0 := Lib.hid (B0.out.ext hx)
  replace XW := Lib.hid (XW.out.trans hx)
  obtain ⟨As3, qs3, rfl⟩ := ho.shape
  have Os3 := Lib.hid ho
  clear ho
  clear hx
  go_wp2_with (first | (refine wpl_loadB B0.out aggB32 hn0 rfl _ rfl rfl ?_))
  refine (specCheckRange_any x0 hk0 s1 s2 _ x3 _ _ Os3.out.rd).mono ?_
  rintro e w4 ⟨vW, he, ho, hx⟩
  rw [HR2.out] at he
  subst he
  rw [HR1.out] at ho
  have NOs3_OW := Lib.hid (Os3.out.apart ho (by first | exact Nat.le_refl _ | simp))
  have NOW_Os3 := Lib.hid (Os3.out.apart' ho (by first | exact Nat.le_refl _ | simp))
  have BB0_OW := Lib.hid (ho.far_of_lt (Nat.lt_of_lt_of_le B0.out.lt (by first | exact Nat.le_refl _ | simp)))
  replace ho := ho.le (base' := w.heap.size) XW.out.size
  replace Os3 := Lib.hid (Os3.out.ext hx)
  replace B0 := Lib.hid (B0.out.ext hx)
  replace XW := Lib.hid (XW.out.trans hx)
  obtain ⟨AW, qW, rfl⟩ := ho.shape
  have OW := Lib.hid ho
  clear ho
  clear hx
  clear Os3
  go_wp2_with (first | (refine wpl_loadB B0.out aggB32 hn0 rfl _ rfl rfl ?_))
  refine (toMapNodeS_u _ x3 _ _ (H3.out.ext (by decide) XW.out) hln3).mono ?_
  rintro e w5 ⟨vx3, rfl, ho, hx⟩
  have NOW_Ox3 := Lib.hid (OW.out.apart ho (by first | exact Nat.le_refl _ | simp))
  have NOx3_OW := Lib.hid (OW.out.apart' ho (by first | exact Nat.le_refl _ | simp))
  have BB0_Ox3 := Lib.hid (ho.far_of_lt (Nat.lt_of_lt_of_le B0.out.lt (by first | exact Nat.le_refl _ | simp)))
  replace ho := ho.le (base' := w.heap.size) XW.out.size
  replace OW := Lib.hid (OW.out.ext hx)
  replace B0 := Lib.hid (B0.out.ext hx)
  replace XW := Lib.hid (XW.out.trans hx)
  obtain ⟨Ax3, qx3, rfl⟩ := ho.shape
  have Ox3 := Lib.hid ho
  clear ho
  clear hx
  go_wp2_with (first | (refine wpl_loadB B0.out aggB32 hn0 rfl _ rfl rfl ?_))
  refine (toKey_any x0 hk0 _).mono ?_
  rintro e w6 ⟨rfl, hx⟩
  replace OW := Lib.hid (OW.out.ext hx)
  replace Ox3 := Lib.hid (Ox3.out.ext hx)
  replace B0 := Lib.hid (B0.out.ext hx)
  replace XW := Lib.hid (XW.out.trans hx)
  clear hx
  go_wp2_with (first | (refine wpl_loadB B0.out aggB32 hn0 rfl _ rfl rfl ?_))
  refine (implCheckRange_any x0 hk0 s1 s2 _ x3 _ _ Ox3.out.rd).mono ?_
  rintro e w7 ⟨vG, he, ho, hx⟩
  rw [HR2.out] at he
  subst he
  rw [HR1.out] at ho
  have NOW_OG := Lib.hid (OW.out.apart ho (by first | exact Nat.le_refl _ | simp))
  have NOG_OW := Lib.hid (OW.out.apart' ho (by first | exact Nat.le_refl _ | simp))
  have NOx3_OG := Lib.hid (Ox3.out.apart ho (by first | exact Nat.le_refl _ | simp))
  have NOG_Ox3 := Lib.hid (Ox3.out.apart' ho (by first | exact Nat.le_refl _ | simp))
  have BB0_OG := Lib.hid (ho.far_of_lt (Nat.lt_of_lt_of_le B0.out.lt (by first | exact Nat.le_refl _ | simp)))
  replace ho := ho.le (base' := w.heap.size) XW.out.size
  replace OW := Lib.hid (OW.out.ext hx)
  replace Ox3 := Lib.hid (Ox3.out.ext hx)
  replace B0 := Lib.hid (B0.out.ext hx)
  replace XW := Lib.hid (XW.out.trans hx)
  obtain ⟨AG, qG, rfl⟩ := ho.shape
  have OG := Lib.hid ho
  clear ho
  clear hx
  go_wp2_with (first | (refine wpl_loadB B0.out aggB32 hn0 rfl _ rfl rfl ?_))
  refine (eqEntryS_u _ _ R _ _ _ OG.out.rd OW.out.rd).mono ?_
  rintro e w8 ⟨rfl, hx⟩
  replace OW := Lib.hid (OW.out.ext hx)
  replace Ox3 := Lib.hid (Ox3.out.ext hx)
  replace OG := Lib.hid (OG.out.ext hx)
  replace B0 := Lib.hid (B0.out.ext hx)
  replace XW := Lib.hid (XW.out.trans hx)
  clear hx
  go_wp2_with (first | (refine wpl_loadB B0.out aggB32 hn0 rfl _ rfl rfl ?_))
  refine (toMapNodeS_u _ x3 _ _ (H3.out.ext (by decide) XW.out) hln3).mono ?_
  rintro e w9 ⟨vy3, rfl, ho, hx⟩
  have NOW_Oy3 := Lib.hid (OW.out.apart ho (by first | exact Nat.le_refl _ | simp))
  have NOy3_OW := Lib.hid (OW.out.apart' ho (by first | exact Nat.le_refl _ | simp))
  have NOx3_Oy3 := Lib.hid (Ox3.out.apart ho (by first | exact Nat.le_refl _ | simp))
  have NOy3_Ox3 := Lib.hid (Ox3.out.apart' ho (by first | exact Nat.le_refl _ | simp))
  have NOG_Oy3 := Lib.hid (OG.out.apart ho (by first | exact Nat.le_refl _ | simp))
  have NOy3_OG := Lib.hid (OG.out.apart' ho (by first | exact Nat.le_refl _ | simp))
  have BB0_Oy3 := Lib.hid (ho.far_of_lt (Nat.lt_of_lt_of_le B0.out.lt (by first | exact Nat.le_refl _ | simp)))
  replace ho := ho.le (base' := w.heap.size) XW.out.size
  replace OW := Lib.hid (OW.out.ext hx)
  replace Ox3 := Lib.hid (Ox3.out.ext hx)
  replace OG := Lib.hid (OG.out.ext hx)
  replace B0 := Lib.hid (B0.out.ext hx)
  replace XW := Lib.hid (XW.out.trans hx)
  obtain ⟨Ay3, qy3, rfl⟩ := ho.shape
  have Oy3 := Lib.hid ho
  clear ho
  clear hx
  go_wp2_with (first | (refine wpl_loadB B0.out aggB32 hn0 rfl _ rfl rfl ?_))
  refine (eqMapNodeS_u _ _ x3 _ _ _ Ox3.out.rd Oy3.out.rd).mono ?_
  rintro e w10 ⟨rfl, hx⟩
  replace OW := Lib.hid (OW.out.ext hx)
  replace Ox3 := Lib.hid (Ox3.out.ext hx)
  replace OG := Lib.hid (OG.out.ext hx)
  replace Oy3 := Lib.hid (Oy3.out.ext hx)
  replace B0 := Lib.hid (B0.out.ext hx)
  replace XW := Lib.hid (XW.out.trans hx)
  clear hx
  clear Oy3
  go_wp2_with (first | (refine wpl_loadB B0.out aggB32 hn0 rfl _ rfl rfl ?_))
  refine (markMapNodeS_any _ _ (1) _ _ Ox3.out.wr (by omega) (by omega)).mono ?_
  rintro e w11 ⟨rfl, hr, hg⟩
  replace XW := Lib.hid (XW.out.grown hg (fun k hk => (Ox3.out.base_le k hk).1))
  replace OW := Lib.hid (OW.out.kept hg NOW_Ox3.out)
  replace OG := Lib.hid (OG.out.kept hg NOG_Ox3.out)
  replace B0 := Lib.hid (B0.out.grown hg BB0_Ox3.out)
  clear Ox3 hg
  clear hr
  go_wp2_with (first | (refine wpl_loadB B0.out aggB32 hn0 rfl _ rfl rfl ?_))
  refine (eqEntryS_u _ _ R _ _ _ OG.out.rd OW.out.rd).mono ?_
  rintro e w12 ⟨rfl, hx⟩
  replace OW := Lib.hid (OW.out.ext hx)
  replace OG := Lib.hid (OG.out.ext hx)
  replace B0 := Lib.hid (B0.out.ext hx)
  replace XW := Lib.hid (XW.out.trans hx)
  clear hx
  have hRl := OG.out.2.1
  go_wp2_with (first | (refine wpl_loadB B0.out aggB32 hn0 rfl _ rfl rfl ?_))
  refine (markEntryS_any _ _ 1 _ _ OG.out.wr (by omega) (by omega)).mono ?_
  rintro e w13 ⟨rfl, hr, hg⟩
  replace XW := Lib.hid (XW.out.grown hg (fun k hk => (OG.out.base_le k hk).1))
  replace OW := Lib.hid (OW.out.kept hg NOW_OG.out)
  replace B0 := Lib.hid (B0.out.grown hg BB0_OG.out)
  clear OG hg
  have M := Lib.hid hr
  clear hr
  go_wp2_with (first | (refine wpl_loadB B0.out aggB32 hn0 rfl _ rfl rfl ?_))
  refine (heldEntryS_any _ _ 1 _ _ M.out (by omega) (by omega)).mono ?_
  rintro e w14 ⟨rfl, hx⟩
  replace OW := Lib.hid (OW.out.ext hx)
  replace M := Lib.hid (M.out.ext hx)
  replace B0 := Lib.hid (B0.out.ext hx)
  replace XW := Lib.hid (XW.out.trans hx)
  clear hx
  have hqm : ((1 + (R.length : Int) * 2) != 1 + (R.length : Int) * 2) = false := by simp
  go_wp2_with (first | (refine wpl_loadB B0.out aggB32 hn0 rfl _ rfl rfl ?_))
  refine (toKey_any x0 hk0 _).mono ?_
  rintro e w15 ⟨rfl, hx⟩
  replace OW := Lib.hid (OW.out.ext hx)
  replace M := Lib.hid (M.out.ext hx)
  replace B0 := Lib.hid (B0.out.ext hx)
  replace XW := Lib.hid (XW.out.trans hx)
  clear hx
  go_wp2_with (first | (refine wpl_loadB B0.out aggB32 hn0 rfl _ rfl rfl ?_))
  refine (toMapNodeS_u _ x3 _ _ (H3.out.ext (by decide) XW.out) hln3).mono ?_
  rintro e w16 ⟨vz3, rfl, ho, hx⟩
  have NOW_Oz3 := Lib.hid (OW.out.apart ho (by first | exact Nat.le_refl _ | simp))
  have NOz3_OW := Lib.hid (OW.out.apart' ho (by first | exact Nat.le_refl _ | simp))
  have BB0_Oz3 := Lib.hid (ho.far_of_lt (Nat.lt_of_lt_of_le B0.out.lt (by first | exact Nat.le_refl _ | simp)))
  replace ho := ho.le (base' := w.heap.size) XW.out.size
  replace OW := Lib.hid (OW.out.ext hx)
  replace M := Lib.hid (M.out.ext hx)
  replace B0 := Lib.hid (B0.out.ext hx)
  replace XW := Lib.hid (XW.out.trans hx)
  obtain ⟨Az3, qz3, rfl⟩ := ho.shape
  have Oz3 := Lib.hid ho
  clear ho
  clear hx
  go_wp2_with (first | (refine wpl_loadB B0.out aggB32 hn0 rfl _ rfl rfl ?_))
  refine (implCheckRange_any x0 hk0 s1 s2 _ x3 _ _ Oz3.out.rd).mono ?_
  rintro e w17 ⟨vH, he, ho, hx⟩
  rw [HR2.out] at he
  subst he
  rw [HR1.out] at ho
  have NOW_OH := Lib.hid (OW.out.apart ho (by first | exact Nat.le_refl _ | simp))
  have NOH_OW := Lib.hid (OW.out.apart' ho (by first | exact Nat.le_refl _ | simp))
  have NOz3_OH := Lib.hid (Oz3.out.apart ho (by first | exact Nat.le_refl _ | simp))
  have NOH_Oz3 := Lib.hid (Oz3.out.apart' ho (by first | exact Nat.le_refl _ | simp))
  have BB0_OH := Lib.hid (ho.far_of_lt (Nat.lt_of_lt_of_le B0.out.lt (by first | exact Nat.le_refl _ | simp)))
  replace ho := ho.le (base' := w.heap.size) XW.out.size
  replace OW := Lib.hid (OW.out.ext hx)
  replace M := Lib.hid (M.out.ext hx)
  replace Oz3 := Lib.hid (Oz3.out.ext hx)
  replace B0 := Lib.hid (B0.out.ext hx)
  replace XW := Lib.hid (XW.out.trans hx)
  obtain ⟨AH, qH, rfl⟩ := ho.shape
  have OH := Lib.hid ho
  clear ho
  clear hx
  go_wp2_with (first | (refine wpl_loadB B0.out aggB32 hn0 rfl _ rfl rfl ?_))
  refine (eqEntryS_u _ _ R _ _ _ OH.out.rd OW.out.rd).mono ?_
  rintro e w18 ⟨rfl, hx⟩
  replace OW := Lib.hid (OW.out.ext hx)
  replace M := Lib.hid (M.out.ext hx)
  replace Oz3 := Lib.hid (Oz3.out.ext hx)
  replace OH := Lib.hid (OH.out.ext hx)
  replace B0 := Lib.hid (B0.out.ext hx)
  replace XW := Lib.hid (XW.out.trans hx)
  clear hx
  go_wp2_with (first | (refine wpl_loadB B0.out aggB32 hn0 rfl _ rfl rfl ?_))
  refine (heldEntryS_any _ _ 1 _ _ M.out (by omega) (by omega)).mono ?_
  rintro e w19 ⟨rfl, hx⟩
  replace OW := Lib.hid (OW.out.ext hx)
  replace M := Lib.hid (M.out.ext hx)
  replace Oz3 := Lib.hid (Oz3.out.ext hx)
  replace OH := Lib.hid (OH.out.ext hx)
  replace B0 := Lib.hid (B0.out.ext hx)
  replace XW := Lib.hid (XW.out.trans hx)
  clear hx
  go_wp2_with (first | (refine wpl_loadB B0.out aggB32 hn0 rfl _ rfl rfl ?_))
  go_ret
  exact ⟨rfl, XW.out⟩
end Go.Proofs.Ytipeaoanhcjnjaa
/- A list of nodes as an argument. No condition. -/
namespace Go.Proofs.Ytipeaoanhcjnjaa
open Go.RowKit
def toNd (x : List Int × List Int × En) : Nd := ⟨x.1, x.2.1, x.2.2.1, x.2.2.2⟩
def tNdT : Ty (List Int × List Int × En) := ⟨66, fun x => (toNd x).enc, fun x => (toNd x).ok, fun _ h => Nd.enc_length h, fun x => Nd.enc_one (toNd x)⟩
theorem c_nd : ∀ {w : World} {S : Nat → Prop} (es : List Value) (x : List Int × List Int × En), cPair (cArr8 32) (cPair (cArr8 32) (cPair cStr cStr)) w S es x → es = tNdT.enc x ∧ tNdT.ok x := by
  rintro w S es x ⟨c1, c2, rfl, ⟨rfl, hl, hlb⟩, c3, c4, rfl, ⟨rfl, hr, hrb⟩, c5, c6, rfl, ⟨rfl, hn⟩, rfl, hs⟩
  exact ⟨by simp [tNdT, toNd, Nd.enc], ⟨⟨hl, hlb⟩, ⟨hr, hrb⟩, hn, hs⟩⟩
theorem rdl_nd {w : World} {S : Nat → Prop} {v : Value} {xs : List (List Int × List Int × En)} (h : RdL tNdT w S v xs) : RdL tNd w S v (xs.map toNd) := by
  obtain ⟨A, cap, e, h1, h2, h3, h4⟩ := h
  have e2 : (xs.map toNd).flatMap tNd.enc = xs.flatMap tNdT.enc := by rw [List.flatMap_map]; rfl
  refine ⟨A, cap, by rw [List.length_map]; exact e, by rw [List.length_map]; exact h1, by rw [List.length_map]; exact h2, by rw [List.length_map, e2]; exact h3, ?_⟩
  intro x hx
  obtain ⟨y, hy, rfl⟩ := List.mem_map.1 hx
  exact h4 y hy
end Go.Proofs.Ytipeaoanhcjnjaa
