/- A name's place in a map: the reference and the program. No condition. -/
import Derived.Test.YtikpakhccmdmcaaEntOk
namespace Go.Proofs.Ytikpakhccmdmcaa
open Go.RowKit
set_option linter.unusedVariables false
set_option linter.unusedSimpArgs false

theorem incs_get {L : List En} {n : Nat} (h : incs L n = true) (k : Nat) (hk : k < n) : incC L k = true := by
  rw [incs, List.all_eq_true] at h
  exact h k (List.mem_range.2 hk)
theorem incs_lt {L : List En} {n : Nat} (h : incs L n = true) (p q : Nat) (hpq : p < q) (hq : q < n) : ltB (gE L p).1 (gE L q).1 = true := by
  induction q with
  | zero => omega
  | succ q ih =>
    have h1 := incs_get h (q + 1) hq
    rw [incC] at h1
    simp only [Bool.and_eq_true, Bool.or_eq_true, Nat.add_sub_cancel] at h1
    have h2 : ltB (gE L q).1 (gE L (q + 1)).1 = true := by
      rcases h1.2 with h | h
      · simp at h
      · exact h
    by_cases e : p = q
    · subst e; exact h2
    · exact ltB_trans (ih (by omega) (by omega)) h2
/-- how many names come ahead -/
@[irreducible] def posE (L : List En) (s : ByteArray) : Nat := (L.takeWhile fun e => ltB e.1 s).length
theorem posE_eq (L : List En) (s : ByteArray) (i : Nat) (hi : i ≤ L.length) (h1 : ∀ p, p < i → ltB (gE L p).1 s = true) (h2 : i < L.length → ltB (gE L i).1 s = false) : posE L s = i := by
  rw [posE]
  induction L generalizing i with
  | nil => simp at hi; simp [hi]
  | cons e r ih =>
    cases i with
    | zero =>
      have := h2 (by simp)
      simp only [gE, List.getD_cons_zero] at this
      simp [List.takeWhile_cons, this]
    | succ i =>
      have h0 := h1 0 (by omega)
      simp only [gE, List.getD_cons_zero] at h0
      rw [List.takeWhile_cons, if_pos h0, List.length_cons, ih i (by simpa using hi) (fun p hp => by have := h1 (p + 1) (by omega); simpa [gE] using this) (fun h => by have := h2 (by simpa using h); simpa [gE] using this)]
theorem posE_of {L : List En} {s : ByteArray} (h : incs L L.length = true) (i : Nat) (hi : i ≤ L.length) (h1 : i = 0 ∨ ltB (gE L (i - 1)).1 s = true) (h2 : i = L.length ∨ ltB (gE L i).1 s = false) : posE L s = i := by
  refine posE_eq L s i hi (fun p hp => ?_) (fun hlt => ?_)
  · rcases h1 with rfl | h1
    · omega
    · by_cases e : p = i - 1
      · rw [e]; exact h1
      · exact ltB_trans (incs_lt h p (i - 1) (by omega) (by omega)) h1
  · rcases h2 with rfl | h2
    · omega
    · exact h2
theorem posE_hit {L : List En} {s : ByteArray} (h : incs L L.length = true) (k : Nat) (hk : k < L.length) (e : (gE L k).1 = s) : posE L s = k := by
  refine posE_eq L s k (by omega) (fun p hp => ?_) (fun _ => by rw [e]; exact ltB_irrefl s)
  rw [← e]
  exact incs_lt h p k hp hk
/-- is the name there? -/
@[irreducible] def hasE (L : List En) (s : ByteArray) : Bool := decide (posE L s < L.length ∧ (gE L (posE L s)).1 = s)
theorem hasE_eq (L : List En) (s : ByteArray) : hasE L s = decide (posE L s < L.length ∧ (gE L (posE L s)).1 = s) := by rw [hasE]
@[irreducible] def findI (L : List En) (s : ByteArray) : Int := if hasE L s then posE L s else -1
theorem findI_eq (L : List En) (s : ByteArray) : findI L s = if hasE L s then (posE L s : Int) else -1 := by rw [findI]
theorem findI_hit {L : List En} {s : ByteArray} (h : incs L L.length = true) (k : Nat) (hk : k < L.length) (e : (gE L k).1 = s) : findI L s = k := by
  have hp := posE_hit h k hk e
  rw [findI, hasE_eq, hp, decide_eq_true ⟨hk, e⟩]; rfl
theorem findI_miss {L : List En} {s : ByteArray} (h : ∀ p, p < L.length → (gE L p).1 ≠ s) : findI L s = -1 := by
  rw [findI, hasE_eq, decide_eq_false (fun q => h _ q.1 q.2)]; rfl
set_option maxHeartbeats 1000000 in
set_option maxRecDepth 100000 in
theorem l04Find_any (v : Value) (L : List En) (hs : incs L L.length = true) (s : ByteArray) (w : World) (S : Nat → Prop) (h : RdL tEnt w S v L) :
    Calls Try.prog 43 #[v, .string s] w fun e w' => e = .returned (.int .i64 (findI L s)) ∧ w = w' := by
  obtain ⟨A, cap, rfl, hcap, hlen, hrd, hok⟩ := h
  have Hrd := Lib.hid hrd
  have Hok := Lib.hid hok
  have HS := Lib.hid hs
  clear hrd hok hs
  go_enter Try.func43, Try.ntmps43
  go_wp2
  go_loop [5] (fun i => ∃ k : Nat, k ≤ L.length ∧ i = .int .i64 k ∧ ∀ p, p < k → (gE L p).1 ≠ s) (fun i => L.length - (intOf i).toNat)
  case atStart => exact ⟨0, by omega, rfl, fun p hp => by omega⟩
  case round =>
    obtain ⟨k, hk, rfl, hm⟩ := hrel
    have HM := Lib.hid hm
    clear hm
    by_cases hlt : k < L.length
    · obtain ⟨g, o, rfl, hs0, hc⟩ := Hrd.out.elem Hok.out k hlt
      have d0 : w.cell? ⟨g, o + k * 2, none⟩ = some (.string L[k].1) := hc 0 _ rfl
      have HG := Lib.hid (gE_lt hlt)
      have hi : (0 : Int) ≤ (k : Int) := by omega
      have hi2 : (k : Int) < (L.length : Int) := by omega
      clear hc
      by_cases he : L[k].1 = s
      · have he2 : (L[k].1.toList == s.toList) = true := by rw [he, beq_self_eq_true]
        have HE := Lib.hid (findI_hit (s := s) HS.out k hlt (by rw [HG.out]; exact he))
        clear he
        go_wp2
        go_ret
        exact ⟨by rw [HE.out]; rfl, rfl⟩
      · have he2 : (L[k].1.toList == s.toList) = false := by rw [beq_eq_false_iff_ne]; exact fun e => he (toList_inj e)
        have HE := Lib.hid he
        clear he
        go_wp2
        go_round
        case rel => exact ⟨k + 1, by omega, by go_num, fun p hp => by
          by_cases e : p = k
          · subst e; rw [HG.out]; exact HE.out
          · exact HM.out p (by omega)⟩
        case measure => simp [intOf]; omega
    · obtain rfl : k = L.length := by omega
      have HE := Lib.hid (findI_miss HM.out)
      go_wp2
      go_ret
      exact ⟨by rw [HE.out]; rfl, rfl⟩
set_option maxHeartbeats 1000000 in
set_option maxRecDepth 100000 in
theorem findFn_any (e : En) (s : ByteArray) (w : World) :
    Calls Try.prog 104 #[.agg (tEnt.enc e).toArray, .string s] w fun q w' => q = .returned (.int .i64 (cmpS e.1 s)) ∧ Ext w w' := by
  show Calls Try.prog 104 #[.agg #[.string e.1, .string e.2], .string s] w _
  go_enter Try.func104, Try.ntmps104
  go_wp2_with fail
  refine (cmpS_any e.1 s _).mono ?_
  rintro q w' ⟨rfl, rfl⟩
  go_wp2
  go_ret
  exact ⟨rfl, ext_alloc _ _⟩
set_option maxHeartbeats 1000000 in
set_option maxRecDepth 100000 in
theorem binSearch_any (v : Value) (L : List En) (hs : incs L L.length = true) (s : ByteArray) (w : World) (S : Nat → Prop) (h : RdL tEnt w S v L) :
    Calls Try.prog 103 #[v, .string s, .func (.func 104) #[] #[]] w fun e w' => e = .returned (.tuple #[.int .i64 (posE L s), .bool (hasE L s)]) ∧ Ext w w' := by
  obtain ⟨A, cap, rfl, hcap, hlen, hrd, hok⟩ := h
  have Hrd := Lib.hid hrd
  have Hok := Lib.hid hok
  have HS := Lib.hid hs
  clear hrd hok hs
  go_enter Try.func103, Try.ntmps103
  go_wp2
  go_loopw [9, 10] (fun i j wr => ∃ p q : Nat, p ≤ q ∧ q ≤ L.length ∧ i = .int .i64 p ∧ j = .int .i64 q ∧ (p = 0 ∨ ltB (gE L (p - 1)).1 s = true) ∧ (q = L.length ∨ ltB (gE L q).1 s = false) ∧ Ext w wr) (fun i j _ => (intOf j).toNat - (intOf i).toNat)
  case atStart => exact ⟨0, L.length, by omega, Nat.le_refl _, rfl, rfl, .inl rfl, .inl rfl, Ext.refl _⟩
  case round =>
    obtain ⟨p, q, hpq, hq, rfl, rfl, h1, h2, hx⟩ := hrel
    have HX := Lib.hid hx
    have H1 := Lib.hid h1
    have H2 := Lib.hid h2
    clear hx h1 h2
    by_cases hlt : p < q
    · obtain ⟨m, hm⟩ : ∃ m, (p + q) / 2 = m := ⟨_, rfl⟩
      have hml : m < L.length := by omega
      obtain ⟨g, o, rfl, hs0, hc⟩ := Hrd.out.elem Hok.out m hml
      have HD := Lib.hid (show ∀ j u, (tEnt.enc L[m])[j]? = some u → wr.cell? ⟨g, o + m * 2 + j, none⟩ = some u from fun j u hu => HX.out.cell (hc j u hu))
      have HG := Lib.hid (gE_lt hml)
      have W1 : IntKind.u64.wrap ((p : Int) + q) = (p : Int) + q := wraps_u64 _ (by omega) (by omega)
      have W2 : ((p : Int) + q) / 2 = m := by omega
      have W3 : IntKind.i64.wrap (m : Int) = m := IntWalk.i64_in _ (by omega)
      have hi : (0 : Int) ≤ (m : Int) := by omega
      have hi2 : (m : Int) < (L.length : Int) := by omega
      have hp2 : p ≤ m := by omega
      have hp3 : m < q := by omega
      have HP := Lib.hid hm
      clear hc hm
      cases hl : ltB L[m].1 s with
      | true =>
        have hneg : cmpS L[m].1 s < 0 := (cmpS_lt _ _).2 hl
        have HL := Lib.hid hl
        clear hl
        go_wp2_with (refine wpl_load ⟨g, o + m * 2, none⟩ (tEnt.enc L[m]) aggEntryI rfl _ rfl rfl (fun j u hu => by rw [Addr.add_lit]; exact HD.out j u hu) ?_)
        refine (findFn_any L[m] s _).mono ?_
        rintro e w1 ⟨rfl, hx⟩
        have HX2 := Lib.hid (HX.out.trans hx)
        clear hx W1 W2
        go_wp2
        go_roundw
        case rel => exact ⟨m + 1, q, by omega, hq, by go_num, rfl, .inr (by rw [Nat.add_sub_cancel, HG.out]; exact HL.out), H2.out, HX2.out⟩
        case measure => simp [intOf]; omega
      | false =>
        have hneg : ¬ cmpS L[m].1 s < 0 := fun h => by rw [(cmpS_lt _ _).1 h] at hl; cases hl
        have HL := Lib.hid hl
        clear hl
        go_wp2_with (refine wpl_load ⟨g, o + m * 2, none⟩ (tEnt.enc L[m]) aggEntryI rfl _ rfl rfl (fun j u hu => by rw [Addr.add_lit]; exact HD.out j u hu) ?_)
        refine (findFn_any L[m] s _).mono ?_
        rintro e w1 ⟨rfl, hx⟩
        have HX2 := Lib.hid (HX.out.trans hx)
        clear hx W1 W2
        go_wp2
        go_roundw
        case rel => exact ⟨p, m, hp2, by omega, rfl, rfl, H1.out, .inr (by rw [HG.out]; exact HL.out), HX2.out⟩
        case measure => simp [intOf]; omega
    · obtain rfl : p = q := by omega
      have HPOS := Lib.hid (posE_of HS.out p hq H1.out H2.out)
      have HH := Lib.hid (hasE_eq L s)
      clear H1 H2
      by_cases hpl : p < L.length
      · obtain ⟨g, o, rfl, hs0, hc⟩ := Hrd.out.elem Hok.out p hpl
        have HD := Lib.hid (show ∀ j u, (tEnt.enc L[p])[j]? = some u → wr.cell? ⟨g, o + p * 2 + j, none⟩ = some u from fun j u hu => HX.out.cell (hc j u hu))
        have HG := Lib.hid (gE_lt hpl)
        have hi : (0 : Int) ≤ (p : Int) := by omega
        have hi2 : (p : Int) < (L.length : Int) := by omega
        clear hc
        have hcf := findFn_any L[p] s
        have d0 : wr.cell? ⟨g, o + p * 2, none⟩ = some (.string L[p].1) := HD.out 0 _ rfl
        have d1 : wr.cell? ⟨g, o + p * 2 + 1, none⟩ = some (.string L[p].2) := HD.out 1 _ rfl
        by_cases he : L[p].1 = s
        · have hz : cmpS L[p].1 s = 0 := (cmpS_zero _ _).2 he
          simp only [hz] at hcf
          have HE := Lib.hid he
          clear he hz
          go_wp2_with fail
          refine (hcf _).mono ?_
          rintro e w1 ⟨rfl, hx⟩
          have HX2 := Lib.hid (HX.out.trans hx)
          clear hx
          go_wp2
          go_ret2
          exact ⟨by rw [HH.out, HPOS.out, decide_eq_true ⟨hpl, by rw [HG.out]; exact HE.out⟩]; rfl, HX2.out⟩
        · have hz : (cmpS L[p].1 s == 0) = false := by rw [beq_eq_false_iff_ne]; exact fun h => he ((cmpS_zero _ _).1 h)
          have HE := Lib.hid he
          clear he
          go_wp2_with fail
          refine (hcf _).mono ?_
          rintro e w1 ⟨rfl, hx⟩
          have HX2 := Lib.hid (HX.out.trans hx)
          clear hx
          go_wp2
          go_ret2
          exact ⟨by rw [HH.out, HPOS.out, decide_eq_false (fun h => HE.out (by rw [← HG.out]; exact h.2))]; rfl, HX2.out⟩
      · go_wp2
        go_ret2
        exact ⟨by rw [HH.out, HPOS.out, decide_eq_false (fun h => hpl h.1)]; rfl, HX.out⟩
set_option maxHeartbeats 1000000 in
set_option maxRecDepth 100000 in
theorem find_any (v : Value) (L : List En) (hs : incs L L.length = true) (s : ByteArray) (w : World) (S : Nat → Prop) (h : RdL tEnt w S v L) :
    Calls Try.prog 75 #[v, .string s] w fun e w' => e = .returned (.tuple #[.int .i64 (posE L s), .bool (hasE L s)]) ∧ Ext w w' := by
  have H := Lib.hid (binSearch_any v L hs s w S h)
  obtain ⟨A, cap, rfl, _⟩ := h
  go_enter Try.func75, Try.ntmps75
  go_wp2_with fail
  refine H.out.mono ?_
  rintro e w1 ⟨rfl, hx⟩
  have HX := Lib.hid hx
  clear hx
  go_wp2
  go_ret2
  exact ⟨rfl, HX.out⟩

end Go.Proofs.Ytikpakhccmdmcaa
