/- The entries of a range: the program's predicate; the first entry outside. No condition. -/
import Derived.Test.YtabeghbobggmjaaRangeS
namespace Go.Proofs.Ytabeghbobggmjaa
open Go.RowKit
set_option linter.unusedVariables false
set_option linter.unusedSimpArgs false

set_option maxHeartbeats 400000 in
theorem cloneE_any (v : Value) (xs : List En) (w : World) (S : Nat → Prop) (h : RdL tEnt w S v xs) (hl : xs.length * 32 ≤ 140737488351232) :
    Calls Try.prog 63 #[v] w fun e w' => ∃ v', e = .returned v' ∧ Own tEnt 73 w' w.heap.size v' xs ∧ Ext w w' := by
  obtain ⟨A, cap, rfl, hcap, hlen, hrd, hok⟩ := h
  have Hrd := Lib.hid hrd
  have Hok := Lib.hid hok
  clear hrd hok
  rcases A with _ | ad
  · have h0 : xs.length = 0 := by
      rcases Nat.eq_zero_or_pos xs.length with h0 | h0
      · exact h0
      · obtain ⟨g, o, h, _⟩ := Hrd.out.2 h0
        cases h
    obtain rfl : xs = [] := List.eq_nil_of_length_eq_zero h0
    have he : ∀ W : World, (binOp .eql 42 (.slice none 0 cap) (.slice none 0 0)).run Try.prog W = .ok (.bool true) W := fun W => Lib.run_eql_slice_nil W 42 _ none 0 cap 0 0 Try.underlying42
    go_enter Try.func63, Try.ntmps63
    go_wp2_with fail
    go_ret
    exact ⟨_, rfl, Own.nil _ _ _ _, Ext.refl _⟩
  · have he : ∀ W : World, (binOp .eql 42 (.slice (some ad) xs.length cap) (.slice none 0 0)).run Try.prog W = .ok (.bool false) W := fun W => Lib.run_eql_slice_nil W 42 _ (some ad) xs.length cap 0 0 Try.underlying42
    go_enter Try.func63, Try.ntmps63
    go_wp2_with (at_builtin; refine wpl_append rowEnt rfl _ _ rfl rfl (Own.empty tEnt _ 73 w.heap.size (Nat.le_refl _)) _ _ rfl rfl (Hrd.out.ext (by decide) (ext_alloc _ _)) Hok.out (by simp; omega) (by simp) ?_; intro v1 w1 ho1 hg1 hat1; obtain ⟨A1, c1, rfl⟩ := ho1.shape; have HO := Lib.hid ho1; have HG := Lib.hid hg1; clear ho1 hg1 hat1)
    go_ret
    exact ⟨_, rfl, HO.out, (ext_alloc _ _).grown HG.out (fun k hk => Nat.le_of_eq (Option.some.inj hk))⟩


set_option maxHeartbeats 1000000 in
set_option maxRecDepth 100000 in
theorem rangeFn_any (e : En) (lo hi : ByteArray) (p r : Nat) (w : World) (hp : w.cell? ⟨p, 0, none⟩ = some (.string lo)) (hr : w.cell? ⟨r, 0, none⟩ = some (.string hi)) :
    Calls Try.prog 64 #[.agg #[.string e.1, .string e.2], .pointer (some ⟨p, 0, none⟩), .pointer (some ⟨r, 0, none⟩)] w fun q w' => q = .returned (.bool (!inR lo hi e)) ∧ Ext w w' := by
  have hp2 : ∀ o, (w.alloc o).cell? ⟨p, 0, none⟩ = some (.string lo) := fun o => (ext_alloc w o).cell hp
  have hr2 : ∀ o, (w.alloc o).cell? ⟨r, 0, none⟩ = some (.string hi) := fun o => (ext_alloc w o).cell hr
  cases h1 : ltB e.1 lo with
  | true =>
    have h1' : Op.bytesLess e.1.toList lo.toList = true := by rw [ltB_eq]; exact h1
    have HQ := Lib.hid (show inR lo hi e = false by rw [inR_eq, h1]; rfl)
    clear h1
    go_enter Try.func64, Try.ntmps64
    go_wp2
    go_ret
    exact ⟨by rw [HQ.out]; rfl, ext_alloc _ _⟩
  | false =>
    have h1' : Op.bytesLess e.1.toList lo.toList = false := by rw [ltB_eq]; exact h1
    have h2' : Op.bytesLess e.1.toList hi.toList = ltB e.1 hi := ltB_eq _ _
    have HQ := Lib.hid (show inR lo hi e = ltB e.1 hi by rw [inR_eq, h1]; rfl)
    clear h1
    go_enter Try.func64, Try.ntmps64
    go_wp2
    go_ret
    exact ⟨by rw [HQ.out]; rfl, ext_alloc _ _⟩
set_option maxHeartbeats 1000000 in
set_option maxRecDepth 100000 in
theorem rangeIdx_any (v : Value) (xs : List En) (lo hi : ByteArray) (p r : Nat) (w : World) (S : Nat → Prop) (h : RdL tEnt w S v xs) (hp : w.cell? ⟨p, 0, none⟩ = some (.string lo)) (hr : w.cell? ⟨r, 0, none⟩ = some (.string hi)) :
    Calls Try.prog 101 #[v, .func (.func 64) #[] #[.pointer (some ⟨p, 0, none⟩), .pointer (some ⟨r, 0, none⟩)]] w fun q w' => (∃ k : Nat, k ≤ xs.length ∧ (∀ j (hj : j < xs.length), j < k → inR lo hi xs[j] = true) ∧ ((k = xs.length ∧ q = .returned (.int .i64 (-1))) ∨ (∃ hk : k < xs.length, inR lo hi xs[k] = false ∧ q = .returned (.int .i64 k)))) ∧ Ext w w' := by
  obtain ⟨A, cap, rfl, hcap, hlen, hrd, hok⟩ := h
  have Hrd := Lib.hid hrd
  have Hok := Lib.hid hok
  have HP := Lib.hid hp
  have HR := Lib.hid hr
  clear hrd hok hp hr
  go_enter Try.func101, Try.ntmps101
  go_wp2
  go_loopw [8] (fun i wr => ∃ k : Nat, k ≤ xs.length ∧ i = .int .i64 k ∧ (∀ j (hj : j < xs.length), j < k → inR lo hi xs[j] = true) ∧ Ext w wr) (fun i _ => xs.length - (intOf i).toNat)
  case atStart => exact ⟨0, by omega, rfl, fun j hj h => by omega, Ext.refl _⟩
  case round =>
    obtain ⟨k, hk, rfl, hm, hx⟩ := hrel
    have HX := Lib.hid hx
    have HM := Lib.hid hm
    clear hx hm
    by_cases hlt : k < xs.length
    · obtain ⟨g, o, rfl, hs0, hc⟩ := Hrd.out.elem Hok.out k hlt
      have HD0 := Lib.hid (show ∀ j u, (tEnt.enc xs[k])[j]? = some u → wr.cell? ⟨g, o + k * 2 + j, none⟩ = some u from fun j u hu => HX.out.cell (hc j u hu))
      have hf := rangeFn_any xs[k] lo hi p r wr (HX.out.cell HP.out) (HX.out.cell HR.out)
      have hk0 : (0 : Int) ≤ (k : Int) := by omega
      have hk2 : (k : Int) < (xs.length : Int) := by omega
      clear hc
      cases hq : inR lo hi xs[k] with
      | true =>
        simp only [hq] at hf
        go_wp2_with (refine wpl_load ⟨g, o + k * 2, none⟩ [.string xs[k].1, .string xs[k].2] aggEntryI rfl _ rfl rfl (fun j u hu => by rw [Addr.add_lit]; exact HD0.out j u hu) ?_)
        refine hf.mono ?_
        rintro e w1 ⟨rfl, hx⟩
        have HX1 := Lib.hid (HX.out.trans hx)
        clear hx hf
        go_wp2
        go_roundw
        case rel => exact ⟨k + 1, by omega, by go_num, fun j hj h => by
          by_cases e : j = k
          · subst e; exact hq
          · exact HM.out j hj (by omega), HX1.out⟩
        case measure => simp [intOf]; omega
      | false =>
        simp only [hq] at hf
        go_wp2_with (refine wpl_load ⟨g, o + k * 2, none⟩ [.string xs[k].1, .string xs[k].2] aggEntryI rfl _ rfl rfl (fun j u hu => by rw [Addr.add_lit]; exact HD0.out j u hu) ?_)
        refine hf.mono ?_
        rintro e w1 ⟨rfl, hx⟩
        have HX1 := Lib.hid (HX.out.trans hx)
        clear hx hf
        go_wp2
        go_ret
        exact ⟨⟨k, hk, HM.out, .inr ⟨hlt, hq, rfl⟩⟩, HX1.out⟩
    · obtain rfl : k = xs.length := by omega
      go_wp2
      go_ret
      exact ⟨⟨xs.length, hk, HM.out, .inl ⟨rfl, rfl⟩⟩, HX.out⟩
end Go.Proofs.Ytabeghbobggmjaa
