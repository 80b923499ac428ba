/- The statements' key of bytes: blocks and what stands behind the bytes. No condition. -/
import Derived.Test.YtikpakhccmdmcaaHashL
import Derived.Test.YtikpakhccmdmcaaAggr
import Derived.Test.YtikpakhccmdmcaaSlc
namespace Go.Proofs.Ytikpakhccmdmcaa
open Go.RowKit
set_option linter.unusedVariables false
set_option linter.unusedSimpArgs false

set_option maxHeartbeats 1000000 in
set_option maxRecDepth 100000 in
theorem l01Block_any (v : Value) (xs : List Int) (w : World) (S : Nat → Prop) (h : RdL tByte w S v xs) (i : Nat) (hi : 32 * i + 32 ≤ xs.length) :
    Calls Try.prog 134 #[v, .int .i64 ((32 * i : Nat) : Int)] w fun e w' => e = .returned (.agg (numsA .u8 (blockL xs i))) ∧ Ext w w' := by
  obtain ⟨A, cap, rfl, hcap, hlen, hrd, hok⟩ := h
  have hrd' : Rd w S 1 A xs.length (nums .u8 xs) := by rw [← flat_bytes]; exact hrd
  obtain ⟨g, o, rfl, hs, hc⟩ := hrd'.2 (by omega)
  have cellx : ∀ j, j < xs.length → w.cell? ⟨g, o + j, none⟩ = some (.int .u8 (gI xs j)) := fun j hj => hc j _ (nums_at _ _ _ hj)
  have CX := Lib.hid cellx
  clear hrd hrd' hok hc cellx
  have HB := Lib.hid (blockL_eq xs i)
  have hbl : (blockL xs i).length = 32 := by rw [HB.out]; simp; omega
  go_enter Try.func134, Try.ntmps134
  go_wp2_with (refine wpl_storeN (k := .u8) (xs := List.replicate 32 0) (Blk.new' (g := w.heap.size + 1) (by simp) _ _) aggB32 (by simp) rfl rfl _ _ rfl rfl rfl rfl ?_)
  go_loopw [6] (fun q wr => ∃ (k : Nat) (z : Array Value), k ≤ 32 ∧ q = .int .i64 k ∧ z.size = 32 ∧ Blk wr w.heap.size 40 z ∧ Blk wr (w.heap.size + 1) 40 (numsA .u8 ((blockL xs i).take k ++ List.replicate (32 - k) 0)) ∧ Ext w wr) (fun q _ => 32 - (intOf q).toNat)
  case atStart => exact ⟨0, _, by omega, rfl, rfl, ((Blk.new w _ _).alloc _).row_far (by omega) _, by rw [List.take_zero, List.nil_append, Nat.sub_zero]; exact (Blk.new' (by simp) _ _).setRow _, ((ext_alloc _ _).alloc _).setRow (by omega) _⟩
  case round =>
    obtain ⟨k, z, hk, rfl, hz, hb1, hb2, hx⟩ := hrel
    have HX := Lib.hid hx
    have HB1 := Lib.hid hb1
    have HB2 := Lib.hid hb2
    clear hx hb1 hb2
    by_cases hlt : k < 32
    · have hc := HB2.out.num k (by simp; omega)
      have hf := HB2.out.free k
      have hd := HX.out.cell (CX.out (32 * i + k) (by omega))
      have e1 : IntKind.i64.wrap (32 * (i : Int) + k) = ((32 * i + k : Nat) : Int) := by rw [IntWalk.i64_in _ (by omega)]; omega
      have e2 : ((32 * i + k : Nat) : Int) < (xs.length : Int) := by omega
      have hnew : ((blockL xs i).take k ++ List.replicate (32 - k) 0).set k (gI xs (32 * i + k)) = (blockL xs i).take (k + 1) ++ List.replicate (32 - (k + 1)) 0 := by
        have h1 : gI (blockL xs i) k = gI xs (32 * i + k) := by
          unfold gI
          rw [HB.out, List.getD_eq_getElem?_getD, List.getD_eq_getElem?_getD, List.getElem?_take, if_pos hlt, List.getElem?_drop]
        rw [← h1]
        exact fill_step _ 32 k hlt hbl
      have HN := Lib.hid hnew
      clear hnew
      go_wp2_with fail
      go_roundw
      case rel =>
        have h2 := HB2.out.set k (.int .u8 (gI xs (32 * i + k)))
        rw [numsA_set, HN.out] at h2
        exact ⟨k + 1, z, by omega, by go_num, hz, HB1.out.far (by simp) _, h2, HX.out.set (by simp) _⟩
      case measure => simp [intOf]; omega
    · obtain rfl : k = 32 := by omega
      have hb := HB2.out
      rw [Nat.sub_self, List.replicate_zero, List.append_nil, List.take_of_length_le (by omega)] at hb
      have HB3 := Lib.hid hb
      clear hb
      go_wp2_with (first
        | (refine wpl_loadN HB3.out aggB32 hbl rfl _ rfl rfl ?_)
        | (refine wpl_storeN HB1.out aggB32 hbl hz rfl _ _ rfl rfl rfl rfl ?_))
      refine bodyPost_ret (results_blk rfl _ rfl aggB32 hbl (HB1.out.setRow _)) rfl ?_
      exact ⟨rfl, HX.out.setRow (Nat.le_refl _) _⟩

end Go.Proofs.Ytikpakhccmdmcaa
