/- The entries of a range: what is outside is struck, in place. No condition. -/
import Derived.Test.YtabeghbobggmjaaRangeI
import Derived.Test.YtabeghbobggmjaaRowE
namespace Go.Proofs.Ytabeghbobggmjaa
open Go.RowKit
set_option linter.unusedVariables false
set_option linter.unusedSimpArgs false

theorem filter_all {p : En → Bool} {L : List En} {k : Nat} (hk : k ≤ L.length) (h : ∀ j (hj : j < L.length), j < k → p L[j] = true) : (L.take k).filter p = L.take k := by
  rw [List.filter_eq_self]
  intro x hx
  obtain ⟨i, hi, rfl⟩ := List.getElem_of_mem hx
  rw [List.getElem_take]
  rw [List.length_take] at hi
  exact h i (by omega) (by omega)
set_option maxHeartbeats 1000000 in
set_option maxRecDepth 100000 in
theorem rangeDel_any (v : Value) (xs : List En) (lo hi : ByteArray) (p r : Nat) (w : World) (base : Nat) (h : Own tEnt 73 w base v xs) (hpb : p < base) (hrb : r < base) (hp : w.cell? ⟨p, 0, none⟩ = some (.string lo)) (hr : w.cell? ⟨r, 0, none⟩ = some (.string hi)) :
    Calls Try.prog 62 #[v, .func (.func 64) #[] #[.pointer (some ⟨p, 0, none⟩), .pointer (some ⟨r, 0, none⟩)]] w fun q w' => ∃ v', q = .returned v' ∧ Own tEnt 73 w' base v' (xs.filter (inR lo hi)) ∧ w.grownBy w' v.ownBlock := by
  have hix := rangeIdx_any v xs lo hi p r w _ h.rd hp hr
  have HO := Lib.hid h
  have HP := Lib.hid hp
  have HR := Lib.hid hr
  have hlen := h.2.1
  obtain ⟨A, n, cap, rfl⟩ := h.shape3
  clear hp hr h
  go_enter Try.func62, Try.ntmps62
  go_wp2_with fail
  refine hix.mono ?_
  rintro q w1 ⟨⟨k, hk, hm, hq⟩, hx⟩
  have HX := Lib.hid hx
  clear hx hix
  rcases hq with ⟨rfl, rfl⟩ | ⟨hlt, hout, rfl⟩
  · have e : xs.filter (inR lo hi) = xs := by
      have := filter_all (p := inR lo hi) hk hm
      rwa [List.take_length] at this
    have HE := Lib.hid e
    clear e hm
    go_wp2
    go_ret
    exact ⟨_, rfl, by rw [HE.out]; exact HO.out.ext HX.out, ext_grown _ HX.out⟩
  · obtain ⟨g, cap', cur, e, hgb, hgl, hB, hcs, hnc, hcm, hat⟩ := at_of_own HO.out (by omega)
    obtain ⟨rfl, rfl, rfl⟩ := Value.slice.inj e
    have HB := Lib.hid (hB.ext HX.out)
    have HAT := Lib.hid hat
    have HOK := Lib.hid HO.out.2.2
    have HF := Lib.hid (filter_all (p := inR lo hi) hk hm)
    have hki : ((k : Int) == -1) = false := by rw [beq_eq_false_iff_ne]; omega
    clear hB hat hm e
    go_wp2
    go_loopw [5, 6] (fun a b wr => ∃ i j : Nat, i < j ∧ j ≤ xs.length ∧ a = .int .i64 i ∧ b = .int .i64 j ∧ (∃ F, (xs.take j).filter (inR lo hi) = F ∧ F.length = i ∧ ∃ cur', Blk wr g 73 cur' ∧ cur'.size = cap * 2 ∧ (∀ q (hq : q < F.length), AtE cur' q F[q]) ∧ (∀ q (hq : q < xs.length), j ≤ q → AtE cur' q xs[q])) ∧ w.grownBy wr (some g)) (fun _ b _ => xs.length - (intOf b).toNat)
    case atStart => exact ⟨k, k + 1, by omega, by omega, rfl, by go_num, ⟨xs.take k, by rw [filter_next _ _ _ hlt, HF.out, hout]; simp, by rw [List.length_take]; omega, cur, HB.out, hcs, fun q hq => by rw [List.getElem_take]; exact HAT.out q _, fun q hq _ => HAT.out q hq⟩, ext_grown _ HX.out⟩
    case round =>
      clear HB HAT HF
      obtain ⟨i, j, hij, hj, rfl, rfl, ⟨F, hF, hFl, cur', hB', hs', ha1, ha2⟩, hg⟩ := hrel
      have HB := Lib.hid hB'
      have HA1 := Lib.hid ha1
      have HA2 := Lib.hid ha2
      have HF := Lib.hid hF
      have HG := Lib.hid hg
      clear hB' ha1 ha2 hF hg
      by_cases hlj : j < xs.length
      · have hcell := (HA2.out j hlj (Nat.le_refl _))
        have HD0 := Lib.hid (show ∀ q u, ([Value.string xs[j].1, Value.string xs[j].2])[q]? = some u → wr.cell? ⟨g, 0 + j * 2 + q, none⟩ = some u from fun q u hu => by
          rw [HB.out.cell, Nat.zero_add]
          match q, hu with
          | 0, hu => rw [Nat.add_zero, hcell.1]; simpa using hu
          | 1, hu => rw [hcell.2]; simpa using hu)
        clear hcell
        have hj0 : (0 : Int) ≤ (j : Int) := by omega
        have hj2 : (j : Int) < (xs.length : Int) := by omega
        have hi0 : (0 : Int) ≤ (i : Int) := by omega
        have hi2 : (i : Int) < (xs.length : Int) := by omega
        have hpg : p ≠ g := by omega
        have hrg : r ≠ g := by omega
        have HPw := Lib.hid (grown_cell HG.out hpg HP.out)
        have HRw := Lib.hid (grown_cell HG.out hrg HR.out)
        have hst2 : St 2 #[Value.string xs[j].1, Value.string xs[j].2] := stEnt _ _
        have hf := fun W hp hr => rangeFn_any xs[j] lo hi p r W hp hr
        have HN := Lib.hid (filter_next (inR lo hi) xs j hlj)
        go_wp2_with (first
          | (refine wpl_load ⟨g, j * 2, none⟩ [.string xs[j].1, .string xs[j].2] aggEntryI rfl _ rfl rfl (fun q u hu => by rw [Addr.add_lit, ← HD0.out q u hu, Nat.zero_add]) ?_)
          | (refine wpl_storeNewB aggEntryI hst2 rfl rfl _ _ rfl rfl rfl rfl ?_)
          | (refine wpl_loadB (Blk.new wr _ _) aggEntryI rfl rfl _ rfl rfl ?_))
        refine (hf _ ((ext_alloc _ _).cell HPw.out) ((ext_alloc _ _).cell HRw.out)).mono ?_
        rintro e w2 ⟨rfl, hx⟩
        have HB2 := Lib.hid ((HB.out.alloc (.cells #[Value.string xs[j].1, Value.string xs[j].2] 73)).ext hx)
        have BV := Lib.hid ((Blk.new wr 73 #[Value.string xs[j].1, Value.string xs[j].2]).ext hx)
        have HG2 := Lib.hid (grown_ext HG.out ((ext_alloc _ _).trans hx))
        clear hx hf HB HG HPw HRw HD0
        cases hq : inR lo hi xs[j] with
        | false =>
          go_wp2
          go_roundw
          case rel => exact ⟨i, j + 1, by omega, by omega, rfl, by go_num, ⟨F, by rw [HN.out, HF.out, hq]; simp, hFl, cur', HB2.out, hs', HA1.out, fun q hq h => HA2.out q hq (by omega)⟩, HG2.out⟩
          case measure => simp [intOf]; omega
        | true =>
          have hin : i * 2 + 2 ≤ cur'.size := by rw [hs']; omega
          go_wp2_with (first
            | (refine wpl_loadB BV.out aggEntryI rfl rfl _ rfl rfl ?_)
            | (refine wpl_storeP (off := i * 2) HB2.out aggEntryI hst2 hin rfl _ _ rfl rfl rfl rfl ?_))
          go_roundw
          case rel => exact ⟨i + 1, j + 1, by omega, by omega, by go_num, by go_num, ⟨F ++ [xs[j]], by rw [HN.out, HF.out, hq]; simp, by simp [hFl], _, HB2.out.setRow _, by rw [splice_size _ _ _ (by simpa using hin), hs'], fun q hq => by
            by_cases e : q = i
            · subst e
              have e2 : (F ++ [xs[j]])[q] = xs[j] := by rw [List.getElem_append_right (by omega)]; simp
              rw [e2]
              exact at_put cur' q xs[j] (by omega)
            · have hqF : q < F.length := by simp at hq; omega
              rw [List.getElem_append_left hqF]
              exact at_far hin e (HA1.out q hqF), fun q hq h => at_far hin (by omega) (HA2.out q hq (by omega))⟩, grown_row HG2.out _⟩
          case measure => simp [intOf]; omega
      · obtain rfl : j = xs.length := by omega
        rw [List.take_length] at HF
        obtain ⟨cs, hcs1, hcs2, hcl⟩ := run_clearE (off := i * 2) (n := xs.length - i) (by omega) HB.out (by rw [hs']; omega)
        have HC2 := Lib.hid hcs2
        have hi0 : (0 : Int) ≤ (i : Int) := by omega
        have hi2 : (i : Int) ≤ (xs.length : Int) := by omega
        have hi3 : (xs.length : Int) ≤ (cap : Int) := by omega
        have hi4 : (i : Int) ≤ (cap : Int) := by omega
        clear hcs2
        go_wp2
        go_ret
        obtain rfl := hFl
        refine ⟨_, rfl, ?_, grown_row HG.out _⟩
        rw [HF.out]
        refine own_of_at (HB.out.setRow cs) hgb (by rw [hcs1, hs']) (by omega) hcm (by omega) (fun x hx => ?_) (fun q hq => ⟨?_, ?_⟩)
        · rw [← HF.out] at hx; exact HOK.out x (List.mem_filter.1 hx).1
        · rw [HC2.out _ (by omega)]; exact (HA1.out q hq).1
        · rw [HC2.out _ (by omega)]; exact (HA1.out q hq).2
end Go.Proofs.Ytabeghbobggmjaa
