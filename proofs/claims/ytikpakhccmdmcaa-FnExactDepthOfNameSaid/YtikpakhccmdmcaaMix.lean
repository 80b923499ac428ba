/- Mixing of blocks into a state: the words. No condition. -/
import Derived.Test.YtikpakhccmdmcaaLittle
import Derived.Test.YtikpakhccmdmcaaWords
import Derived.Test.YtikpakhccmdmcaaAggr
namespace Go.Proofs.Ytikpakhccmdmcaa
open Go.RowKit
set_option linter.unusedVariables false
set_option linter.unusedSimpArgs false

set_option maxHeartbeats 1000000 in
set_option maxRecDepth 100000 in
theorem l01Turn_7 (x : Int) (w : World) : Calls Try.prog 139 #[.int .u32 x, .int .u64 7] w fun e w' => e = .returned (.int .u32 (turn7 x)) ∧ w = w' := by
  unfold turn7
  go_enter Try.func139, Try.ntmps139
  go_wp2
  go_ret
  exact ⟨rfl, rfl⟩
set_option maxHeartbeats 1000000 in
set_option maxRecDepth 100000 in
theorem l01Turn_13 (x : Int) (w : World) : Calls Try.prog 139 #[.int .u32 x, .int .u64 13] w fun e w' => e = .returned (.int .u32 (turn13 x)) ∧ w = w' := by
  unfold turn13
  go_enter Try.func139, Try.ntmps139
  go_wp2
  go_ret
  exact ⟨rfl, rfl⟩
set_option maxHeartbeats 1000000 in
set_option maxRecDepth 100000 in
theorem rot_7 (x : Int) (w : World) : Calls Try.prog 136 #[.int .u32 x, .int .i64 7] w fun e w' => e = .returned (.int .u32 (turn7 x)) ∧ w = w' := by
  have hb : bits .and .u64 7 31 = 7 := by decide
  unfold turn7
  go_enter Try.func136, Try.ntmps136
  go_wp2
  go_ret
  exact ⟨rfl, rfl⟩
set_option maxHeartbeats 1000000 in
set_option maxRecDepth 100000 in
theorem rot_13 (x : Int) (w : World) : Calls Try.prog 136 #[.int .u32 x, .int .i64 13] w fun e w' => e = .returned (.int .u32 (turn13 x)) ∧ w = w' := by
  have hb : bits .and .u64 13 31 = 13 := by decide
  unfold turn13
  go_enter Try.func136, Try.ntmps136
  go_wp2
  go_ret
  exact ⟨rfl, rfl⟩
set_option maxHeartbeats 1000000 in
set_option maxRecDepth 100000 in
theorem l01Start_any (tag : Int) (h : 0 ≤ tag ∧ tag ≤ 255) (w : World) : Calls Try.prog 126 #[.int .u8 tag] w fun e w' => e = .returned (.agg (numsA .u32 (startL tag))) ∧ Ext w w' := by
  go_enter Try.func126, Try.ntmps126
  go_wp2
  go_loopw [4] (fun i wr => ∃ (k : Nat) (z : Array Value), k ≤ 8 ∧ i = .int .i64 k ∧ z.size = 8 ∧ Blk wr w.heap.size 154 z ∧ Blk wr (w.heap.size + 1) 154 (numsA .u32 ((List.range k).map (fun (i : Nat) => 16777619 * ((i : Int) + 1) + tag) ++ List.replicate (8 - k) 0)) ∧ Ext w wr) (fun i _ => 8 - (intOf i).toNat)
  case atStart => exact ⟨0, _, by omega, rfl, rfl, (Blk.new _ _ _).alloc _, Blk.new' (by simp) _ _, (ext_alloc _ _).alloc _⟩
  case round =>
    obtain ⟨k, z, hk, rfl, hz, hb1, hb2, hx⟩ := hrel
    have HX := Lib.hid hx
    have HB1 := Lib.hid hb1
    have HB2 := Lib.hid hb2
    clear hx hb1 hb2
    by_cases hlt : k < 8
    · have hc := HB2.out.num k (by simp; omega)
      have hf := HB2.out.free k
      go_wp2
      go_roundw
      case rel =>
        have h2 := HB2.out.set k (.int .u32 (16777619 * ((k : Int) + 1) + tag))
        rw [numsA_set, mapRange_set (fun (i : Nat) => 16777619 * ((i : Int) + 1) + tag) 8 k hlt] at h2
        exact ⟨k + 1, z, by omega, by go_num, hz, HB1.out.far (by simp) _, h2, HX.out.set (by simp) _⟩
      case measure => simp [intOf]; omega
    · obtain rfl : k = 8 := by omega
      have hb := HB2.out
      rw [Nat.sub_self, List.replicate_zero, List.append_nil] at hb
      have hst : (List.range 8).map (fun (i : Nat) => 16777619 * ((i : Int) + 1) + tag) = startL tag := by rw [startL]
      rw [hst] at hb
      have HB := Lib.hid hb
      clear hb hst
      go_wp2_with (first
        | (refine wpl_loadN HB.out aggU32 (startL_length tag) rfl _ rfl rfl ?_)
        | (refine wpl_storeN HB1.out aggU32 (startL_length tag) hz rfl _ _ rfl rfl rfl rfl ?_))
      refine bodyPost_ret (results_blk rfl _ rfl aggU32 (startL_length tag) (HB1.out.setRow _)) rfl ?_
      exact ⟨rfl, HX.out.setRow (Nat.le_refl _) _⟩
set_option maxHeartbeats 1000000 in
set_option maxRecDepth 100000 in
theorem startState_any (tag : Int) (h : 0 ≤ tag ∧ tag ≤ 255) (w : World) : Calls Try.prog 118 #[.int .u8 tag] w fun e w' => e = .returned (.agg (numsA .u32 (startL tag))) ∧ Ext w w' := by
  go_enter Try.func118, Try.ntmps118
  go_wp2
  go_loopw [6] (fun i wr => ∃ (k : Nat) (z : Array Value), k ≤ 8 ∧ i = .int .i64 k ∧ z.size = 8 ∧ Blk wr w.heap.size 154 z ∧ Blk wr (w.heap.size + 1) 154 (numsA .u32 ((List.range k).map (fun (i : Nat) => 16777619 * ((i : Int) + 1) + tag) ++ List.replicate (8 - k) 0)) ∧ Ext w wr) (fun i _ => 8 - (intOf i).toNat)
  case atStart => exact ⟨0, _, by omega, rfl, rfl, (Blk.new _ _ _).alloc _, Blk.new' (by simp) _ _, (ext_alloc _ _).alloc _⟩
  case round =>
    obtain ⟨k, z, hk, rfl, hz, hb1, hb2, hx⟩ := hrel
    have HX := Lib.hid hx
    have HB1 := Lib.hid hb1
    have HB2 := Lib.hid hb2
    clear hx hb1 hb2
    by_cases hlt : k < 8
    · have hc := HB2.out.num k (by simp; omega)
      have hf := HB2.out.free k
      go_wp2
      go_roundw
      case rel =>
        have h2 := HB2.out.set k (.int .u32 (16777619 * ((k : Int) + 1) + tag))
        rw [numsA_set, mapRange_set (fun (i : Nat) => 16777619 * ((i : Int) + 1) + tag) 8 k hlt] at h2
        exact ⟨k + 1, z, by omega, by go_num, hz, HB1.out.far (by simp) _, h2, HX.out.set (by simp) _⟩
      case measure => simp [intOf]; omega
    · obtain rfl : k = 8 := by omega
      have hb := HB2.out
      rw [Nat.sub_self, List.replicate_zero, List.append_nil] at hb
      have hst : (List.range 8).map (fun (i : Nat) => 16777619 * ((i : Int) + 1) + tag) = startL tag := by rw [startL]
      rw [hst] at hb
      have HB := Lib.hid hb
      clear hb hst
      go_wp2_with (first
        | (refine wpl_loadN HB.out aggU32 (startL_length tag) rfl _ rfl rfl ?_)
        | (refine wpl_storeN HB1.out aggU32 (startL_length tag) hz rfl _ _ rfl rfl rfl rfl ?_))
      refine bodyPost_ret (results_blk rfl _ rfl aggU32 (startL_length tag) (HB1.out.setRow _)) rfl ?_
      exact ⟨rfl, HX.out.setRow (Nat.le_refl _) _⟩

end Go.Proofs.Ytikpakhccmdmcaa
