/- The program's key of bytes: the parts. No condition. -/
import Derived.Test.YtikpakhccmdmcaaHashP
import Derived.Test.YtikpakhccmdmcaaMixI
import Derived.Test.YtikpakhccmdmcaaConc
namespace Go.Proofs.Ytikpakhccmdmcaa
open Go.RowKit
set_option linter.unusedVariables false
set_option linter.unusedSimpArgs false

set_option maxHeartbeats 1000000 in
set_option maxRecDepth 100000 in
theorem appendLittle_any (v : Value) (ys : List Int) (n : Int) (c : Nat) (w w0 : World) (h : Own tByte 5 w w0.heap.size v ys) (hx : Ext w0 w) (hn : 0 ≤ n ∧ n ≤ 18446744073709551615) (hc : c ≤ 8) (hl : ys.length ≤ 70368744177664) :
    Calls Try.prog 128 #[v, .int .u64 n, .int .i64 c] w fun e w' => ∃ v', e = .returned v' ∧ Own tByte 5 w' w0.heap.size v' (ys ++ bytesLE n c) ∧ Ext w0 w' := by
  obtain ⟨B, bn, bc, rfl⟩ := h.shape3
  have HO := Lib.hid h
  have HX := Lib.hid hx
  clear h hx
  go_enter Try.func128, Try.ntmps128
  go_wp2_with fail
  go_loopw [0, 9] (fun o i wr => ∃ k : Nat, k ≤ c ∧ i = .int .i64 k ∧ Own tByte 5 wr w0.heap.size o (ys ++ bytesLE n k) ∧ Ext w0 wr) (fun _ i _ => c - (intOf i).toNat)
  case atStart => exact ⟨0, by omega, rfl, by rw [bytesLE_zero, List.append_nil]; exact HO.out, HX.out⟩
  case round =>
    clear HO HX
    obtain ⟨k, hk, rfl, ho, hx⟩ := hrel
    have HO := Lib.hid ho
    have HX := Lib.hid hx
    obtain ⟨C, cn, cc, rfl⟩ := ho.shape3
    clear ho hx
    by_cases hlt : k < c
    · have hs2 := bytesLE_succ n k
      rw [pow256] at hs2
      have HS2 := Lib.hid hs2
      clear hs2
      go_wp2_with (at_builtin; refine wpl_append rowByte rfl _ _ rfl (v := .slice C cn cc) rfl (HO.out.alloc _) _ _ rfl (A := some ⟨wr.heap.size, 0, none⟩) (ys := [n / 2 ^ (8 * k) % 256]) rfl (rd_byte wr (n / 2 ^ (8 * k) % 256) (by omega) _) (okOne (by omega)) (by simp [bytesLE_length]; omega) (HX.out.alloc _).size ?_; intro v9 w9 ho1 hg1 hat1; have HX9 := Lib.hid ((HO.out.alloc _).ext_app (HX.out.alloc _) hg1); have HO9 := Lib.hid ho1; clear ho1 hg1 hat1)
      go_roundw
      case rel => exact ⟨k + 1, by omega, by go_num, by rw [HS2.out, ← List.append_assoc]; exact HO9.out, HX9.out⟩
      case measure => simp [intOf]; omega
    · obtain rfl : k = c := by omega
      go_wp2_with fail
      go_ret
      exact ⟨_, rfl, HO.out, HX.out⟩

end Go.Proofs.Ytikpakhccmdmcaa
