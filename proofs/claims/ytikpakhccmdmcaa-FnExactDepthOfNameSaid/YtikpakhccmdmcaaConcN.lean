/- Any number of slices of bytes put together. No condition. -/
import Derived.Test.YtikpakhccmdmcaaConc
import Derived.Test.YtikpakhccmdmcaaHashP
namespace Go.Proofs.Ytikpakhccmdmcaa
open Go.RowKit
set_option linter.unusedVariables false
set_option linter.unusedSimpArgs false

/-- all bytes of the first k -/
@[irreducible] def catL (L : List (Value × List Int)) (k : Nat) : List Int := (L.take k).flatMap (·.2)
theorem catL_zero (L : List (Value × List Int)) : catL L 0 = [] := by rw [catL]; simp
theorem catL_succ (L : List (Value × List Int)) (k : Nat) (h : k < L.length) : catL L (k + 1) = catL L k ++ L[k].2 := by
  rw [catL, catL, List.take_succ_eq_append_getElem h, List.flatMap_append, List.flatMap_cons, List.flatMap_nil, List.append_nil]
theorem catL_le (L : List (Value × List Int)) (k : Nat) (h : k ≤ L.length) : (catL L k).length ≤ (catL L L.length).length := by
  rw [catL, catL]
  conv => rhs; rw [← Nat.add_sub_cancel' h, List.take_add]
  simp
set_option maxHeartbeats 1000000 in
set_option maxRecDepth 100000 in
theorem concat_any (g o c : Nat) (L : List (Value × List Int)) (w : World) (S : Nat → Prop) (hrd : ∀ i (h : i < L.length), RdL tByte w S L[i].1 L[i].2) (hc : ∀ i (h : i < L.length), w.cell? ⟨g, o + i, none⟩ = some L[i].1)
    (hL : L.length ≤ 1000) (h0 : 0 < (catL L L.length).length) (hn : (catL L L.length).length ≤ 70368744177664) :
    Calls Try.prog 113 #[.slice (some ⟨g, o, none⟩) L.length c] w fun e w' => ∃ v', e = .returned v' ∧ Own tByte 5 w' w.heap.size v' (catL L L.length) ∧ Ext w w' := by
  have HRD := Lib.hid hrd
  have HC := Lib.hid hc
  have HZ := Lib.hid (catL_zero L)
  clear hrd hc
  go_enter Try.func113, Try.ntmps113
  go_wp2_with fail
  go_loop [3, 11] (fun s i => ∃ k : Nat, k ≤ L.length ∧ i = .int .i64 k ∧ s = .int .i64 (catL L k).length) (fun _ i => L.length - (intOf i).toNat)
  case atStart => exact ⟨0, by omega, rfl, by rw [HZ.out]; rfl⟩
  case round =>
    obtain ⟨k, hk, rfl, rfl⟩ := hrel
    have hle := catL_le L k hk
    by_cases hlt : k < L.length
    · have hle2 := catL_le L (k + 1) hlt
      have HS := Lib.hid (catL_succ L k hlt)
      have hcell := HC.out k hlt
      obtain ⟨A, cap, e, hcap, hlen, _⟩ := HRD.out k hlt
      rw [e] at hcell
      rw [HS.out, List.length_append] at hle2
      have hi : (0 : Int) ≤ (k : Int) := by omega
      go_wp2_with fail
      go_round
      case rel => exact ⟨k + 1, by omega, by go_num, by rw [HS.out, List.length_append]; go_num⟩
      case measure => simp [intOf]; omega
    · obtain rfl : k = L.length := by omega
      have G := grow_any (catL L L.length).length h0 hn w
      have HG := Lib.hid G
      clear G
      go_wp2_with fail
      refine HG.out.mono ?_
      rintro e w1 ⟨v1, rfl, ho, hx⟩
      have HO := Lib.hid ho
      have HX := Lib.hid hx
      clear ho hx
      go_wp2_with fail
      go_loopw [6, 27] (fun v i wr => ∃ k : Nat, k ≤ L.length ∧ i = .int .i64 k ∧ Own tByte 5 wr w.heap.size v (catL L k) ∧ Ext w wr) (fun _ i _ => L.length - (intOf i).toNat)
      case atStart => exact ⟨0, by omega, rfl, by rw [HZ.out]; exact HO.out, HX.out⟩
      case round =>
        clear HO HX hk hle hlt
        obtain ⟨k, hk, rfl, ho, hx⟩ := hrel
        have HX := Lib.hid hx
        have HO := Lib.hid ho
        obtain ⟨B, bn, bc, rfl⟩ := ho.shape3
        have hle := catL_le L k hk
        clear ho hx
        by_cases hlt : k < L.length
        · have hle2 := catL_le L (k + 1) hlt
          have HS := Lib.hid (catL_succ L k hlt)
          have hcell := HX.out.cell (HC.out k hlt)
          obtain ⟨A, cap, e, hcap, hlen, hr1, hok1⟩ := (HRD.out k hlt).ext (by decide) HX.out
          rw [e] at hcell
          rw [HS.out, List.length_append] at hle2
          have HR := Lib.hid hr1
          have HK := Lib.hid hok1
          have hi : (0 : Int) ≤ (k : Int) := by omega
          clear hr1 hok1
          go_wp2_with (at_builtin; refine wpl_append rowByte rfl _ _ rfl (v := .slice B bn bc) rfl HO.out _ _ rfl (ys := L[k].2) (A := A) (S := S) rfl HR.out HK.out (by omega) HX.out.size ?_; intro v1 w1 ho1 hg1 hat1; have HO1 := Lib.hid ho1; have HX1 := Lib.hid (HO.out.ext_app HX.out hg1); clear ho1 hg1 hat1)
          go_roundw
          case rel => exact ⟨k + 1, by omega, by go_num, by rw [HS.out]; exact HO1.out, HX1.out⟩
          case measure => simp [intOf]; omega
        · obtain rfl : k = L.length := by omega
          go_wp2_with fail
          go_ret
          exact ⟨_, rfl, HO.out, HX.out⟩

end Go.Proofs.Ytikpakhccmdmcaa
