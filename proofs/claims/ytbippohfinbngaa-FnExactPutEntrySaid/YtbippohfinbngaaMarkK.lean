/- Marks laid on lists of keys, and read. No condition. -/
import Derived.Test.YtbippohfinbngaaCommitT
namespace Go.Proofs.Ytbippohfinbngaa
open Go.RowKit
set_option linter.unusedVariables false
set_option linter.unusedSimpArgs false

/-- the keys of v hold the marks m, m + 1, .. -/
def MarkedK (w : World) (S : Nat → Prop) (v : Value) (n : Nat) (m : Int) : Prop :=
  ∃ A cap, v = .slice A n cap ∧ n ≤ 140737488355328 ∧ (0 < n → ∃ g o, A = some ⟨g, o, none⟩ ∧ S g ∧ ∀ j, j < n * 32 → w.cell? ⟨g, o + j, none⟩ = some (.int .u8 ((m + j) % 256)))
theorem MarkedK.ext {w w' : World} {S : Nat → Prop} {v : Value} {n : Nat} {m : Int} (h : MarkedK w S v n m) (e : Ext w w') : MarkedK w' S v n m := by
  obtain ⟨A, cap, h1, h2, h3⟩ := h
  refine ⟨A, cap, h1, h2, fun hn => ?_⟩
  obtain ⟨g, o, h4, h5, h6⟩ := h3 hn
  exact ⟨g, o, h4, h5, fun j hj => e.cell (h6 j hj)⟩
theorem Own.far_of_lt {α : Type} {T : Ty α} {e : TypeId} {w : World} {base g : Nat} {v : Value} {xs : List α} (h : Own T e w base v xs) (hg : g < base) : some g ≠ v.ownBlock := fun e => by have := (h.base_le _ e.symm).1; omega
theorem Own.far_of_ge {α : Type} {T : Ty α} {e : TypeId} {w : World} {base g : Nat} {v : Value} {xs : List α} (h : Own T e w base v xs) (hg : w.heap.size ≤ g) : some g ≠ v.ownBlock := fun e => by have := (h.base_le _ e.symm).2; omega
set_option maxHeartbeats 1000000 in
set_option maxRecDepth 100000 in
theorem markKeyS_any (v : Value) (n : Nat) (m : Int) (w : World) (lo : Nat) (h : Wr w lo 32 v n) (hm : 0 ≤ m) (hmn : m + n * 32 ≤ 1000000000000000) :
    Calls Try.prog 91 #[v, .int .i64 m] w fun e w' => e = .returned (.int .i64 (m + n * 32)) ∧ MarkedK w' (fun g => lo ≤ g ∧ some g = v.ownBlock) v n m ∧ w.grownBy w' v.ownBlock := by
  obtain ⟨A, cap, rfl, hcap, hlen, hw⟩ := h
  have HW := Lib.hid hw
  clear hw
  by_cases h0 : n = 0
  · subst h0
    go_enter Try.func91, Try.ntmps91
    go_wp2
    go_loopw [1, 5] (fun q i wr => q = .int .i64 m ∧ i = .int .i64 0 ∧ wr = w) (fun _ _ _ => 0)
    case atStart => exact ⟨rfl, rfl, rfl⟩
    case round =>
      obtain ⟨rfl, rfl, rfl⟩ := hrel
      go_wp2
      go_ret
      exact ⟨ret_int (by simp), ⟨A, cap, rfl, by omega, fun h => by omega⟩, grown_refl _ _⟩
  · obtain ⟨g, o, cur, t, rfl, hlo, hB, hsz⟩ := HW.out (by omega)
    have HB := Lib.hid hB
    clear hB
    go_enter Try.func91, Try.ntmps91
    go_wp2
    go_loopw [1, 5, 6] (fun q i _ wr => ∃ k : Nat, k ≤ n ∧ q = .int .i64 (m + (k : Int) * 32) ∧ i = .int .i64 k ∧ (∃ cur', Blk wr g t cur' ∧ cur'.size = cur.size ∧ ∀ j, j < k * 32 → cur'[o + j]? = some (.int .u8 ((m + j) % 256))) ∧ w.grownBy wr (some g))
      (fun _ i _ _ => n - (intOf i).toNat)
    case atStart => exact ⟨0, by omega, by simp, rfl, ⟨cur, HB.out, rfl, fun j hj => by omega⟩, grown_refl _ _⟩
    case round =>
      obtain ⟨k, hk, rfl, rfl, ⟨cur', hB', hs', hc'⟩, hg⟩ := hrel
      have HG := Lib.hid hg
      have HC := Lib.hid hc'
      have HS := Lib.hid hs'
      have HB' := Lib.hid hB'
      clear hg hc' hs' hB'
      obtain ⟨wo, rfl⟩ : ∃ wo : World, wo = wr := ⟨_, rfl⟩
      by_cases hlt : k < n
      · go_wp2
        go_loopw [1, 6] (fun q i wr => ∃ j : Nat, j ≤ 32 ∧ q = .int .i64 (m + (k : Int) * 32 + j) ∧ i = .int .i64 j ∧ (∃ cur', Blk wr g t cur' ∧ cur'.size = cur.size ∧ ∀ p, p < k * 32 + j → cur'[o + p]? = some (.int .u8 ((m + p) % 256))) ∧ w.grownBy wr (some g))
          (fun _ i _ => 32 - (intOf i).toNat)
        case atStart => exact ⟨0, by omega, by simp, rfl, ⟨cur', HB'.out, HS.out, fun j hj => HC.out j (by omega)⟩, HG.out⟩
        case round =>
          clear HB' HS HC HG
          obtain ⟨j, hj, rfl, rfl, ⟨cur2, hB2, hs2, hc2⟩, hg2⟩ := hrel
          have HG := Lib.hid hg2
          have HC := Lib.hid hc2
          have HS := Lib.hid hs2
          clear hg2 hc2 hs2
          by_cases hlj : j < 32
          · have hin : o + k * 32 + j < cur2.size := by rw [HS.out]; omega
            have hcell : wr.cell? ⟨g, o + k * 32 + j, none⟩ = some cur2[o + k * 32 + j] := hB2.at_ _ (Array.getElem?_eq_getElem hin)
            have hfr := hB2.free (o + k * 32 + j)
            have HB2 := Lib.hid hB2
            clear hB2
            go_wp2
            go_roundw
            case rel => exact ⟨j + 1, by omega, by go_num, by go_num, ⟨_, HB2.out.set (o + k * 32 + j) _, by simp [HS.out], fun p hp => by
              by_cases hpk : p = k * 32 + j
              · subst hpk
                rw [← Nat.add_assoc]
                simp [hin]
                omega
              · rw [Array.getElem?_setIfInBounds_ne (by omega)]; exact HC.out p (by omega)⟩, grown_set HG.out _⟩
            case measure => simp [intOf]; omega
          · obtain rfl : j = 32 := by omega
            have HB2 := Lib.hid hB2
            clear hB2
            go_wp2
            go_roundw
            case rel => exact ⟨k + 1, by omega, by go_num, by go_num, ⟨_, HB2.out, HS.out, fun p hp => HC.out p (by omega)⟩, HG.out⟩
            case measure => simp [intOf]; omega
      · go_wp2
        go_ret
        obtain rfl : k = n := by omega
        refine ⟨rfl, ⟨_, cap, rfl, hlen, fun _ => ⟨g, o, rfl, ⟨hlo, rfl⟩, fun j hj => by rw [HB'.out.cell, HC.out j hj]⟩⟩, HG.out⟩
set_option maxHeartbeats 1000000 in
set_option maxRecDepth 100000 in
theorem heldKeyS_any (v : Value) (n : Nat) (m : Int) (w : World) (S : Nat → Prop) (h : MarkedK w S v n m) (hm : 0 ≤ m) (hmn : m + n * 32 ≤ 1000000000000000) :
    Calls Try.prog 92 #[v, .int .i64 m] w fun e w' => e = .returned (.int .i64 (m + n * 32)) ∧ Ext w w' := by
  obtain ⟨A, cap, rfl, hlen, hw⟩ := h
  have HW := Lib.hid hw
  clear hw
  go_enter Try.func92, Try.ntmps92
  go_wp2
  go_loopw [1, 5, 6] (fun q i _ wr => ∃ k : Nat, k ≤ n ∧ q = .int .i64 (m + (k : Int) * 32) ∧ i = .int .i64 k ∧ Ext w wr) (fun _ i _ _ => n - (intOf i).toNat)
  case atStart => exact ⟨0, by omega, by simp, rfl, Ext.refl _⟩
  case round =>
    obtain ⟨k, hk, rfl, rfl, hx⟩ := hrel
    have HX := Lib.hid hx
    clear hx
    obtain ⟨wo, rfl⟩ : ∃ wo : World, wo = wr := ⟨_, rfl⟩
    by_cases hlt : k < n
    · obtain ⟨g, o, rfl, hs, hc⟩ := HW.out (by omega)
      have HC := Lib.hid hc
      clear hc
      go_wp2
      go_loopw [1, 6] (fun q i wr => ∃ j : Nat, j ≤ 32 ∧ q = .int .i64 (m + (k : Int) * 32 + j) ∧ i = .int .i64 j ∧ Ext w wr) (fun _ i _ => 32 - (intOf i).toNat)
      case atStart => exact ⟨0, by omega, by simp, rfl, HX.out⟩
      case round =>
        clear HX
        obtain ⟨j, hj, rfl, rfl, hx⟩ := hrel
        have HX := Lib.hid hx
        clear hx
        by_cases hlj : j < 32
        · have hd : wr.cell? ⟨g, o + k * 32 + j, none⟩ = some (.int .u8 ((m + (k : Int) * 32 + j) % 256)) := by
            have := HX.out.cell (HC.out (k * 32 + j) (by omega))
            rw [Nat.add_assoc, this]
            congr 2
            omega
          have hne : (((m + (k : Int) * 32 + j) % 256 : Int) != (m + (k : Int) * 32 + j) % 256) = false := by simp
          go_wp2
          go_roundw
          case rel => exact ⟨j + 1, by omega, by go_num, by go_num, HX.out⟩
          case measure => simp [intOf]; omega
        · obtain rfl : j = 32 := by omega
          go_wp2
          go_roundw
          case rel => exact ⟨k + 1, by omega, by go_num, by go_num, HX.out⟩
          case measure => simp [intOf]; omega
    · go_wp2
      go_ret
      obtain rfl : k = n := by omega
      exact ⟨rfl, HX.out⟩

end Go.Proofs.Ytbippohfinbngaa
