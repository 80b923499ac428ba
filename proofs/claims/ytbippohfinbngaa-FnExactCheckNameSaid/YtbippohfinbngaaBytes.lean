/- The laws' own words on lists of bytes: counted, copied, held against each other, marked. No condition. -/
import Derived.Test.YtbippohfinbngaaLib
import Derived.Deep.OwnRows
namespace Go.Proofs.Ytbippohfinbngaa
open Go.RowKit
set_option linter.unusedVariables false
set_option linter.unusedSimpArgs false

theorem made_nums (k : IntKind) (n : Nat) : madeCells #[.int k 0] n = numsA k (List.replicate n 0) := by
  apply Array.ext
  · simp [madeCells, numsA, nums]
  · intro i h1 h2
    simp [madeCells, numsA, nums, Nat.mod_one]
theorem make_bytes (m : Nat) (hm : m ≤ 140737488355328) : ∀ W : World, (Instr.makeSlice 22 (.int .i64 (m : Int)) (.int .i64 (m : Int))).run Try.prog W =
    .ok (.slice (some ⟨W.heap.size, 0, none⟩) m m) (W.alloc (.cells (numsA .u8 (List.replicate m 0)) 5)) := by
  intro W
  rw [← made_nums]
  exact run_make_row' 22 5 (.int .u8 0) 1 Try.underlying22 (by kernel_rfl) rfl .i64 .i64 m (by omega) (by omega) W

set_option maxHeartbeats 400000 in
theorem szByteS_any (A : Option Addr) (n c : Nat) (l : Int) (hn : (n : Int) ≤ 140737488355328) (h0 : -1 ≤ l) (h1 : l ≤ 1048576) (w : World) :
    Calls Try.prog 135 #[.slice A n c, .int .i64 l] w fun e w' => e = .returned (.int .i64 (if l - n < 0 then -1 else l - n)) ∧ w = w' := by
  go_enter Try.func135, Try.ntmps135
  go_wp2
  all_goals go_ret
  all_goals exact ⟨rfl, rfl⟩

set_option maxHeartbeats 400000 in
theorem toByteS_any (v : Value) (xs : List Int) (w : World) (S : Nat → Prop) (h : RdL tByte w S v xs) :
    Calls Try.prog 12 #[v] w fun e w' => ∃ v', e = .returned v' ∧ Own tByte 5 w' w.heap.size v' xs ∧ Ext w w' := by
  obtain ⟨A, cap, rfl, hcap, hlen, hrd, hok⟩ := h
  have hm := make_bytes xs.length hlen
  have hrd1 : Rd w S 1 A xs.length (nums .u8 xs) := by rw [← flat_bytes]; exact hrd
  have Hrd := Lib.hid hrd1
  clear hrd hrd1
  go_enter Try.func12, Try.ntmps12
  go_wp2
  go_loopw [4] (fun i wr => ∃ k : Nat, k ≤ xs.length ∧ i = .int .i64 k ∧ (∃ ys, Blk wr w.heap.size 5 (numsA .u8 ys) ∧ ys.length = xs.length ∧ ys.take k = xs.take k) ∧ Ext w wr)
    (fun i _ => xs.length - (intOf i).toNat)
  case atStart => exact ⟨0, by omega, rfl, ⟨_, Blk.new _ _ _, by simp, by simp⟩, ext_alloc _ _⟩
  case round =>
    obtain ⟨k, hk, rfl, ⟨ys, hB, hyl, hyt⟩, hx⟩ := hrel
    have Hyl := Lib.hid hyl
    have Hyt := Lib.hid hyt
    have Hx := Lib.hid hx
    clear hm hyl hyt hx
    by_cases hlt : k < xs.length
    · obtain ⟨g, o, rfl, hs, hc⟩ := (Hrd.out).byte k hlt
      have hc' := Hx.out.cell hc
      have hd := hB.num k (by rw [Hyl.out]; exact hlt)
      have hf := hB.free k
      have HB := Lib.hid hB
      clear hB hc
      go_wp2
      go_roundw
      case rel => exact ⟨k + 1, by omega, by go_num, ⟨ys.set k (gI xs k), by rw [← numsA_set]; exact HB.out.set k _, by simp [Hyl.out], set_take_step hlt Hyl.out Hyt.out⟩, Hx.out.set (by simp) _⟩
      case measure => simp [intOf]; omega
    · have HB := Lib.hid hB
      clear hB
      go_wp2
      go_ret
      obtain rfl : k = xs.length := by omega
      have e := Hyt.out
      rw [List.take_of_length_le (by rw [Hyl.out]; omega), List.take_of_length_le (by omega)] at e
      subst e
      exact ⟨_, rfl, Own.of_blk8 HB.out (Nat.le_refl _) hlen hok, Hx.out⟩

set_option maxHeartbeats 400000 in
theorem eqByteS_any (v u : Value) (xs ys : List Int) (w : World) (S S' : Nat → Prop) (h : RdL tByte w S v xs) (h' : RdL tByte w S' u ys) :
    Calls Try.prog 14 #[v, u] w fun e w' => e = .returned (.bool (xs == ys)) ∧ Drawn w w' := by
  obtain ⟨A, cap, rfl, hcap, hlen, hrd, hok⟩ := h
  obtain ⟨A', cap', rfl, hcap', hlen', hrd', hok'⟩ := h'
  have Hrd := Lib.hid (show Rd w S 1 A xs.length (nums .u8 xs) by rw [← flat_bytes]; exact hrd)
  have Hrd' := Lib.hid (show Rd w S' 1 A' ys.length (nums .u8 ys) by rw [← flat_bytes]; exact hrd')
  clear hrd hrd'
  by_cases hl : xs.length = ys.length
  · have Hl := Lib.hid hl
    have hl1 : ((xs.length : Int) != (ys.length : Int)) = false := by simp [hl]
    clear hl
    go_enter Try.func14, Try.ntmps14
    go_wp2
    go_loopw [5] (fun i wr => ∃ k : Nat, k ≤ xs.length ∧ i = .int .i64 k ∧ xs.take k = ys.take k ∧ Drawn w wr)
      (fun i _ => xs.length - (intOf i).toNat)
    case atStart => exact ⟨0, by omega, rfl, by simp, Drawn.refl _⟩
    case round =>
      obtain ⟨k, hk, rfl, ht, hD⟩ := hrel
      have Ht := Lib.hid ht
      have HD := Lib.hid hD
      clear ht hl1 hD
      by_cases hlt : k < xs.length
      · have hlt' : k < ys.length := by rw [← Hl.out]; exact hlt
        obtain ⟨g, o, rfl, hs, hc⟩ := (Hrd.out).byte k hlt
        obtain ⟨g', o', rfl, hs', hc'⟩ := (Hrd'.out).byte k hlt'
        have hd := HD.out.ext.cell hc
        have hd' := HD.out.ext.cell hc'
        clear hc hc'
        by_cases he : gI xs k = gI ys k
        · have He := Lib.hid he
          have hne : (gI xs k != gI ys k) = false := by simpa using he
          clear he
          go_wp2
          go_quiet (fail)
          go_wp2
          go_roundw
          case rel => exact ⟨k + 1, by omega, by go_num, take_eq_step hlt hlt' Ht.out He.out, HD.out.drewN _⟩
          case measure => simp [intOf]; omega
        · have He := Lib.hid he
          have hne : (gI xs k != gI ys k) = true := by simpa using he
          clear he
          go_wp2
          go_quiet (fail)
          go_wp2
          go_ret
          exact ⟨by rw [beq_eq_false_iff_ne.2 (fun h => He.out (by rw [h]))]; rfl, HD.out.drewN _⟩
      · go_wp2
        go_ret
        obtain rfl : k = xs.length := by omega
        refine ⟨?_, HD.out⟩
        have e := Ht.out
        rw [List.take_of_length_le (by omega), List.take_of_length_le (by rw [Hl.out]; omega)] at e
        subst e; simp
  · have Hl := Lib.hid hl
    have hl1 : ((xs.length : Int) != (ys.length : Int)) = true := by simp; omega
    clear hl
    go_enter Try.func14, Try.ntmps14
    go_wp2
    go_ret
    exact ⟨by rw [beq_eq_false_iff_ne.2 (fun h => Hl.out (by rw [h]))]; rfl, Drawn.refl _⟩


set_option maxHeartbeats 400000 in
theorem markByteS_any (v : Value) (n : Nat) (m : Int) (w : World) (lo : Nat) (h : Wr w lo 1 v n) (hm : 0 ≤ m) (hmn : m + n ≤ 1000000000000000) :
    Calls Try.prog 15 #[v, .int .i64 m] w fun e w' => e = .returned (.int .i64 (m + n)) ∧ RdL tByte w' (fun g => lo ≤ g ∧ some g = v.ownBlock) v (marks m n) ∧ w.grownBy w' v.ownBlock := by
  obtain ⟨A, cap, rfl, hcap, hlen, hw⟩ := h
  have HW := Lib.hid hw
  clear hw
  by_cases h0 : n = 0
  · subst h0
    go_enter Try.func15, Try.ntmps15
    go_wp2
    go_loopw [1, 5] (fun q i wr => q = .int .i64 m ∧ i = .int .i64 0 ∧ wr = w) (fun _ _ _ => 0)
    case atStart => exact ⟨rfl, rfl, rfl⟩
    case round =>
      obtain ⟨rfl, rfl, rfl⟩ := hrel
      go_wp2
      go_ret
      exact ⟨ret_int (by simp), ⟨A, cap, rfl, hcap, Nat.zero_le _, Rd.nil _ _ _ _, fun x hx => by cases hx⟩, grown_refl _ _⟩
  · obtain ⟨g, o, cur, t, rfl, hlo, hB, hsz⟩ := HW.out (by omega)
    have HB := Lib.hid hB
    clear hB
    go_enter Try.func15, Try.ntmps15
    go_wp2
    go_loopw [1, 5] (fun q i wr => ∃ k : Nat, k ≤ n ∧ q = .int .i64 (m + k) ∧ i = .int .i64 k ∧ (∃ cur', Blk wr g t cur' ∧ cur'.size = cur.size ∧ ∀ j, j < k → cur'[o + j]? = some (.int .u8 ((m + j) % 256))) ∧ w.grownBy wr (some g))
      (fun _ i _ => n - (intOf i).toNat)
    case atStart => exact ⟨0, by omega, by simp, rfl, ⟨cur, HB.out, rfl, fun j hj => by omega⟩, grown_refl _ _⟩
    case round =>
      obtain ⟨k, hk, rfl, rfl, ⟨cur', hB', hs', hc'⟩, hg⟩ := hrel
      have HG := Lib.hid hg
      have HC := Lib.hid hc'
      have HS := Lib.hid hs'
      clear hg hc' hs'
      by_cases hlt : k < n
      · have hin : o + k < cur'.size := by rw [HS.out]; omega
        have hcell : wr.cell? ⟨g, o + k, none⟩ = some cur'[o + k] := hB'.at_ _ (Array.getElem?_eq_getElem hin)
        have hfr := hB'.free (o + k)
        have HB' := Lib.hid hB'
        clear hB'
        go_wp2
        go_roundw
        case rel => exact ⟨k + 1, by omega, by go_num, by go_num, ⟨_, HB'.out.set (o + k) _, by simp [HS.out], fun j hj => by
          by_cases hjk : j = k
          · subst hjk; simp [hin]
          · rw [Array.getElem?_setIfInBounds_ne (by omega)]; exact HC.out j (by omega)⟩, grown_set HG.out _⟩
        case measure => simp [intOf]; omega
      · have HB' := Lib.hid hB'
        clear hB'
        go_wp2
        go_ret
        obtain rfl : k = n := by omega
        refine ⟨rfl, ⟨_, cap, by rw [marks_length], by rw [marks_length]; exact hcap, by rw [marks_length]; exact hlen, ?_, marks_ok m k⟩, HG.out⟩
        rw [flat_bytes, marks_length]
        refine ⟨by rw [nums_length, marks_length]; exact (Nat.mul_one _).symm, fun _ => ⟨g, o, rfl, ⟨hlo, rfl⟩, fun j u hu => ?_⟩⟩
        have hj : j < k := by have := (List.getElem?_eq_some_iff.1 hu).1; rwa [nums_length, marks_length] at this
        rw [nums_at _ _ _ (by rw [marks_length]; exact hj), marks_at _ _ _ hj] at hu
        rw [HB'.out.cell, HC.out j hj, hu]

set_option maxHeartbeats 400000 in
theorem heldByteS_any (v : Value) (n : Nat) (m : Int) (w : World) (S : Nat → Prop) (h : RdL tByte w S v (marks m n)) (hm : 0 ≤ m) (hmn : m + n ≤ 1000000000000000) :
    Calls Try.prog 16 #[v, .int .i64 m] w fun e w' => e = .returned (.int .i64 (m + n)) ∧ Drawn w w' := by
  obtain ⟨A, cap, rfl, hcap, hlen, hrd, hok⟩ := h
  rw [flat_bytes] at hrd
  rw [marks_length] at hlen hcap
  have Hrd := Lib.hid hrd
  clear hrd
  rw [marks_length]
  go_enter Try.func16, Try.ntmps16
  go_wp2
  go_loopw [1, 5] (fun q i wr => ∃ k : Nat, k ≤ n ∧ q = .int .i64 (m + k) ∧ i = .int .i64 k ∧ Drawn w wr) (fun _ i _ => n - (intOf i).toNat)
  case atStart => exact ⟨0, by omega, by simp, rfl, Drawn.refl _⟩
  case round =>
    obtain ⟨k, hk, rfl, rfl, hD⟩ := hrel
    have HD := Lib.hid hD
    clear hD
    by_cases hlt : k < n
    · obtain ⟨g, o, rfl, hs, hc⟩ := (Hrd.out).byte k (by rw [marks_length]; exact hlt)
      rw [marks_at _ _ _ hlt] at hc
      have hd := HD.out.ext.cell hc
      clear hc
      have hne : (((m + k) % 256 : Int) != (m + k) % 256) = false := by simp
      go_wp2
      go_roundw
      case rel => exact ⟨k + 1, by omega, by go_num, by go_num, HD.out⟩
      case measure => simp [intOf]; omega
    · go_wp2
      go_ret
      obtain rfl : k = n := by omega
      exact ⟨rfl, HD.out⟩

end Go.Proofs.Ytbippohfinbngaa
