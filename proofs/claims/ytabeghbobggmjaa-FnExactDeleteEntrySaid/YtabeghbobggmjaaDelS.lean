/- A name struck out of a map: the reference. No condition. -/
import Derived.Test.YtabeghbobggmjaaRangeS
namespace Go.Proofs.Ytabeghbobggmjaa
open Go.RowKit
set_option linter.unusedVariables false
set_option linter.unusedSimpArgs false

@[irreducible] def notN (s : ByteArray) (e : En) : Bool := e.1.toList != s.toList
theorem notN_eq (s : ByteArray) (e : En) : notN s e = (e.1.toList != s.toList) := by rw [notN]
def delR (L : List En) (s : ByteArray) : List En × Int := if okE L && nameB s then (if hasE L s then (L.filter (notN s), 0) else ([], 6)) else ([], 1)
theorem hasE_lt' {L : List En} {s : ByteArray} (h : hasE L s = true) : posE L s < L.length := by
  rw [hasE_eq] at h
  simp at h
  exact h.1
set_option maxHeartbeats 1000000 in
set_option maxRecDepth 100000 in
theorem l04Without_any (v : Value) (L : List En) (s : ByteArray) (w : World) (S : Nat → Prop) (h : RdL tEnt w S v L) (h64 : L.length ≤ 64) :
    Calls Try.prog 66 #[v, .string s] w fun e w' => ∃ v', e = .returned v' ∧ Own tEnt 73 w' w.heap.size v' (L.filter (notN s)) ∧ Ext w w' := by
  obtain ⟨A, cap, rfl, hcap, hlen, hrd, hok⟩ := h
  have Hok := Lib.hid hok
  have Hrd := Lib.hid hrd
  clear hrd hok
  go_enter Try.func66, Try.ntmps66
  go_wp2_with fail
  go_loopw [5, 6] (fun a i wr => ∃ k : Nat, k ≤ L.length ∧ i = .int .i64 k ∧ Own tEnt 73 wr w.heap.size a ((L.take k).filter (notN s)) ∧ Ext w wr) (fun _ i _ => L.length - (intOf i).toNat)
  case atStart => exact ⟨0, by omega, rfl, by rw [List.take_zero]; exact Own.empty tEnt _ 73 _ (Nat.le_refl _), ext_alloc _ _⟩
  case round =>
    obtain ⟨k, hk, rfl, ho, hx⟩ := hrel
    obtain ⟨C, cn, cc, rfl⟩ := ho.shape3
    have HO := Lib.hid ho
    have HX1 := Lib.hid hx
    clear ho hx
    by_cases hlt : k < L.length
    · obtain ⟨g, o, rfl, hs0, hc⟩ := Hrd.out.elem Hok.out k hlt
      have HX0 := Lib.hid (show tEnt.ok L[k] from Hok.out _ (List.getElem_mem hlt))
      have HD0 := Lib.hid (show ∀ j u, (tEnt.enc L[k])[j]? = some u → wr.cell? ⟨g, o + k * 2 + j, none⟩ = some u from fun j u hu => HX1.out.cell (hc j u hu))
      have d0 : wr.cell? ⟨g, o + k * 2, none⟩ = some (.string L[k].1) := HD0.out 0 _ rfl
      have HN := Lib.hid (filter_next (notN s) L k hlt)
      have hk0 : (0 : Int) ≤ (k : Int) := by omega
      have hk2 : (k : Int) < (L.length : Int) := by omega
      clear hc
      cases h1 : (L[k].1.toList == s.toList) with
      | true =>
        have HQ := Lib.hid (show notN s L[k] = false by rw [notN_eq, bne, h1]; rfl)
        go_wp2
        go_roundw
        case rel => exact ⟨k + 1, by omega, by go_num, by rw [HN.out, HQ.out]; simpa using HO.out, HX1.out⟩
        case measure => simp [intOf]; omega
      | false =>
        have HQ := Lib.hid (show notN s L[k] = true by rw [notN_eq, bne, h1]; rfl)
        have hle := List.length_filter_le (notN s) (L.take k)
        rw [List.length_take] at hle
        have HL := Lib.hid hle
        clear hle
        go_wp2_with (first
          | (refine wpl_load ⟨g, o + k * 2, none⟩ [.string L[k].1, .string L[k].2] aggEntryI rfl _ rfl rfl (fun j u hu => by rw [Addr.add_lit]; exact HD0.out j u hu) ?_)
          | (at_builtin; refine wpl_append rowEnt rfl _ _ rfl (v := .slice C cn cc) rfl (HO.out.alloc _) _ _ rfl (A := some ⟨wr.heap.size, 0, none⟩) (ys := [L[k]]) rfl (rd_ent wr L[k] _) (by intro y hy; obtain rfl := List.mem_singleton.1 hy; exact HX0.out) (by have := HL.out; simp only [List.length_singleton]; omega) (HX1.out.alloc _).size ?_; intro v9 w9 ho1 hg1 hat1; obtain ⟨C9, n9, c9, rfl⟩ := ho1.shape3; have HO9 := Lib.hid ho1; have HX9 := Lib.hid ((HO.out.alloc (Obj.cells #[.string L[k].1, .string L[k].2] 73)).ext_app (HX1.out.alloc _) hg1); clear ho1 hg1 hat1))
        go_roundw
        case rel => exact ⟨k + 1, by omega, by go_num, by rw [HN.out, HQ.out]; exact HO9.out, HX9.out⟩
        case measure => simp [intOf]; omega
    · obtain rfl : k = L.length := by omega
      rw [List.take_length] at HO
      go_wp2
      go_ret
      exact ⟨_, rfl, HO.out, HX1.out⟩
set_option maxHeartbeats 1000000 in
set_option maxRecDepth 100000 in
theorem specDeleteEntry_any (v : Value) (L : List En) (s : ByteArray) (hsz : s.size ≤ 140737488351232) (w : World) (S : Nat → Prop) (h : RdL tEnt w S v L) :
    Calls Try.prog 31 #[v, .string s] w fun e w' => ∃ v', e = .returned (.tuple #[v', .int .i64 (delR L s).2]) ∧ Own tEnt 73 w' w.heap.size v' (delR L s).1 ∧ Ext w w' := by
  have H := Lib.hid h
  have hc := l04Ok_any v L w S h
  have hn := l04Name_any s hsz
  obtain ⟨A, cap, rfl, hcap, hlen, _⟩ := h
  cases hb : okE L with
  | false =>
    simp only [delR, hb, Bool.false_and, Bool.false_eq_true, if_false]
    simp only [hb] at hc
    clear hb
    go_enter Try.func31, Try.ntmps31
    go_wp2_with fail
    refine hc.mono ?_
    rintro e w1 ⟨rfl, hx⟩
    have HX := Lib.hid hx
    clear hx
    go_wp2
    go_ret2
    exact ⟨_, rfl, Own.empty tEnt _ 73 _ HX.out.size, HX.out.alloc _⟩
  | true =>
    obtain ⟨hinc, h64⟩ := okE_incs' hb
    have HI := Lib.hid hinc
    simp only [hb] at hc
    cases hb2 : nameB s with
    | false =>
      simp only [delR, hb, hb2, Bool.and_false, Bool.false_eq_true, if_false]
      simp only [hb2] at hn
      clear hb hb2 hinc
      go_enter Try.func31, Try.ntmps31
      go_wp2_with fail
      refine hc.mono ?_
      rintro e w1 ⟨rfl, hx⟩
      have HX := Lib.hid hx
      clear hx
      go_wp2_with fail
      refine (hn _).mono ?_
      rintro e w' ⟨rfl, rfl⟩
      go_wp2
      go_ret2
      exact ⟨_, rfl, Own.empty tEnt _ 73 _ HX.out.size, HX.out.alloc _⟩
    | true =>
      simp only [hb2] at hn
      have HF := Lib.hid (findI_eq L s)
      cases hb3 : hasE L s with
      | false =>
        simp only [delR, hb, hb2, hb3, Bool.and_true, if_true, Bool.false_eq_true, if_false]
        have e : findI L s = -1 := by rw [HF.out, hb3]; rfl
        have hf := fun W hW => l04Find_any (.slice A L.length cap) L HI.out s W S hW
        simp only [e] at hf
        clear hb hb2 hb3 hinc e
        go_enter Try.func31, Try.ntmps31
        go_wp2_with fail
        refine hc.mono ?_
        rintro e w1 ⟨rfl, hx⟩
        have HX := Lib.hid hx
        clear hx
        go_wp2_with fail
        refine (hn _).mono ?_
        rintro e w' ⟨rfl, rfl⟩
        go_wp2_with fail
        refine (hf _ (H.out.ext (by decide) HX.out)).mono ?_
        rintro e w' ⟨rfl, rfl⟩
        go_wp2
        go_ret2
        exact ⟨_, rfl, Own.empty tEnt _ 73 _ HX.out.size, HX.out.alloc _⟩
      | true =>
        simp only [delR, hb, hb2, hb3, Bool.and_true, if_true]
        have hlt := hasE_lt' hb3
        obtain ⟨k, hk⟩ : ∃ k, posE L s = k := ⟨_, rfl⟩
        have e : findI L s = k := by rw [HF.out, hb3, hk]; rfl
        rw [hk] at hlt
        have hf := fun W hW => l04Find_any (.slice A L.length cap) L HI.out s W S hW
        simp only [e] at hf
        clear hb hb2 hb3 hinc e hk HF
        have hi : (0 : Int) ≤ (k : Int) := by omega
        have hi2 : (k : Int) < (L.length : Int) := by omega
        go_enter Try.func31, Try.ntmps31
        go_wp2_with fail
        refine hc.mono ?_
        rintro e w1 ⟨rfl, hx⟩
        have HX := Lib.hid hx
        clear hx
        go_wp2_with fail
        refine (hn _).mono ?_
        rintro e w' ⟨rfl, rfl⟩
        go_wp2_with fail
        refine (hf _ (H.out.ext (by decide) HX.out)).mono ?_
        rintro e w' ⟨rfl, rfl⟩
        go_wp2_with fail
        refine (l04Without_any _ L s _ _ (H.out.ext (by decide) HX.out) h64).mono ?_
        rintro e w2 ⟨v2, rfl, ho, hx⟩
        have HO := Lib.hid (ho.le (base' := w.heap.size) HX.out.size)
        have HX2 := Lib.hid (HX.out.trans hx)
        clear ho hx
        go_wp2
        go_ret2
        exact ⟨_, rfl, HO.out, HX2.out⟩
end Go.Proofs.Ytabeghbobggmjaa
