/- A name struck out of a map: the program. No condition. -/
import Derived.Test.YtabeghbobggmjaaDelP
import Derived.Test.YtabeghbobggmjaaGetE
import Derived.Test.YtabeghbobggmjaaRangeI
namespace Go.Proofs.Ytabeghbobggmjaa
open Go.RowKit
set_option linter.unusedVariables false
set_option linter.unusedSimpArgs false

theorem notN_true {s : ByteArray} {e : En} (h : e.1 ≠ s) : notN s e = true := by
  rw [notN_eq, bne_iff_ne]
  exact fun q => h (toList_inj q)
theorem del_filter {L : List En} {s : ByteArray} (hinc : incs L L.length = true) (hh : hasE L s = true) : L.filter (notN s) = L.take (posE L s) ++ L.drop (posE L s + 1) := by
  obtain ⟨k, hk⟩ : ∃ k, posE L s = k := ⟨_, rfl⟩
  have h1 := hh
  rw [hasE_eq, hk] at h1
  simp only [decide_eq_true_eq] at h1
  obtain ⟨hlt, he⟩ := h1
  rw [gE_lt hlt] at he
  have hne : ∀ p (hp : p < L.length), p ≠ k → notN s L[p] = true := fun p hp hpk => notN_true fun e => hpk (by
    have := posE_hit hinc p hp (s := s) (by rw [gE_lt hp]; exact e)
    omega)
  rw [hk]
  conv => lhs; rw [← List.take_append_drop k L, List.drop_eq_getElem_cons hlt, List.filter_append, List.filter_cons]
  have h0 : notN s L[k] = false := by rw [notN_eq, he]; simp
  rw [h0]
  simp only [Bool.false_eq_true, if_false]
  congr 1
  · rw [List.filter_eq_self]
    intro x hx
    obtain ⟨i, hi, rfl⟩ := List.getElem_of_mem hx
    rw [List.length_take] at hi
    rw [List.getElem_take]
    exact hne i (by omega) (by omega)
  · rw [List.filter_eq_self]
    intro x hx
    obtain ⟨i, hi, rfl⟩ := List.getElem_of_mem hx
    rw [List.length_drop] at hi
    rw [List.getElem_drop]
    exact hne _ (by omega) (by omega)
set_option maxHeartbeats 1000000 in
set_option maxRecDepth 100000 in
theorem implDeleteEntry_any (v : Value) (L : List En) (s : ByteArray) (hsz : s.size ≤ 140737488351232) (w : World) (S : Nat → Prop) (h : RdL tEnt w S v L) :
    Calls Try.prog 32 #[v, .string s] w fun e w' => ∃ v', e = .returned (.tuple #[v', .int .i64 (delR L s).2]) ∧ Own tEnt 73 w' w.heap.size v' (delR L s).1 ∧ Ext w w' := by
  have H := Lib.hid h
  have hg := implGetEntry_any v L s hsz w S h
  obtain ⟨A, cap, rfl, hcap, hlen, _⟩ := h
  cases hb : (okE L && nameB s && hasE L s) with
  | false =>
    obtain ⟨c, hc0, e1, e2⟩ : ∃ c : Int, (c != 0) = true ∧ delR L s = ([], c) ∧ (getR L s).2 = c := by
      cases h1 : (okE L && nameB s) with
      | false => exact ⟨1, rfl, by rw [delR, h1]; rfl, by rw [getR, h1]; rfl⟩
      | true =>
        rw [h1, Bool.true_and] at hb
        exact ⟨6, rfl, by rw [delR, h1, hb]; rfl, by rw [getR, h1, hb]; rfl⟩
    rw [e1]
    simp only [e2] at hg
    clear e1 e2 hb
    go_enter Try.func32, Try.ntmps32
    go_wp2_with fail
    refine hg.mono ?_
    rintro e w1 ⟨rfl, hx⟩
    have HX := Lib.hid hx
    clear hx
    go_wp2
    go_ret2
    exact ⟨_, rfl, Own.nil _ _ _ _, HX.out⟩
  | true =>
    simp only [Bool.and_eq_true] at hb
    obtain ⟨⟨h1, h2⟩, h3⟩ := hb
    obtain ⟨hinc, h64⟩ := okE_incs' h1
    have e1 : delR L s = (L.take (posE L s) ++ L.drop (posE L s + 1), 0) := by rw [delR, h1, h2, h3, ← del_filter hinc h3]; rfl
    have e2 : (getR L s).2 = 0 := by rw [getR, h1, h2, h3]; rfl
    have hlt := hasE_lt h3
    obtain ⟨k, hk⟩ : ∃ k, posE L s = k := ⟨_, rfl⟩
    have hf := fun W hW => find_any (.slice A L.length cap) L hinc s W S hW
    rw [e1, hk]
    simp only [e2] at hg
    simp only [hk, h3] at hf
    rw [hk] at hlt
    clear e1 e2 h1 h2 h3 hk hinc
    go_enter Try.func32, Try.ntmps32
    go_wp2_with fail
    refine hg.mono ?_
    rintro e w1 ⟨rfl, hx⟩
    have HX := Lib.hid hx
    clear hx
    go_wp2_with fail
    refine (hf _ (H.out.ext (by decide) HX.out)).mono ?_
    rintro e w2 ⟨rfl, hx⟩
    have HX2 := Lib.hid (HX.out.trans hx)
    clear hx
    go_wp2_with fail
    refine (cloneE_any _ L _ _ (H.out.ext (by decide) HX2.out) (by omega)).mono ?_
    rintro e w3 ⟨v', rfl, ho, hx⟩
    have hd := sdel_any _ L k w3 _ ho hlt h64
    have HX3 := Lib.hid (HX2.out.trans hx)
    have hbl := ho.base_le
    have hs2 := HX2.out.size
    obtain ⟨A', n', c', rfl⟩ := ho.shape3
    clear hx ho
    go_wp2_with fail
    refine hd.mono ?_
    rintro e w4 ⟨v2, rfl, ho, hg2⟩
    have HO := Lib.hid (ho.le (base' := w.heap.size) (by omega))
    have HX4 := Lib.hid (HX3.out.grown hg2 (fun k hk => by have := hbl k hk; omega))
    clear hd ho hg2
    go_wp2
    go_ret2
    exact ⟨_, rfl, HO.out, HX4.out⟩
end Go.Proofs.Ytabeghbobggmjaa
