/- The texts that mark entries. No condition. -/
import Derived.Test.YtbippohfinbngaaOrd
import Derived.Laws.BytesArg
namespace Go.Proofs.Ytbippohfinbngaa
open Go.RowKit
set_option linter.unusedVariables false
set_option linter.unusedSimpArgs false

theorem convS {A : Option Addr} {cap : Nat} {xs : List Int} {w : World} {S : Nat → Prop} (h : RdL tByte w S (.slice A xs.length cap) xs) : (convert 22 9 (.slice A xs.length cap)).run Try.prog w = .ok (.string (strOfNums xs)) w := by
  obtain ⟨A', cap', e, hcap, hlen, hrd, hok⟩ := h
  obtain ⟨rfl, _, rfl⟩ := Value.slice.inj e
  rw [flat_bytes] at hrd
  rcases Nat.eq_zero_or_pos xs.length with h0 | h0
  · obtain rfl : xs = [] := List.eq_nil_of_length_eq_zero h0
    rw [run_convert_bytes_string w _ _ _ A _ cap Try.underlying22 Try.underlying5 Try.underlying9]
    cases A <;> simp [Conv.bytesToString, loadCells] <;> rfl
  · obtain ⟨g, o, rfl, _, hc⟩ := hrd.2 h0
    exact run_convert_bytes_arg w _ _ Try.underlying22 Try.underlying5 g o xs.length cap xs rfl (fun i hi => hc i _ (nums_at _ _ _ hi)) _ Try.underlying9
/-- the digits of n ahead of s -/
def digs (n : Nat) (s : ByteArray) : ByteArray := if n = 0 then s else digs (n / 10) (strOfNums [(48 + (n % 10 : Nat) : Int)] ++ s)
termination_by n
decreasing_by omega
theorem digs_zero (s : ByteArray) : digs 0 s = s := by rw [digs]; rfl
theorem digs_pos {n : Nat} (h : 0 < n) (s : ByteArray) : digs n s = digs (n / 10) (strOfNums [(48 + (n % 10 : Nat) : Int)] ++ s) := by rw [digs, if_neg (by omega)]
/-- the text of a mark -/
@[irreducible] def mtxt (m : Int) : ByteArray := ⟨#[109]⟩ ++ digs m.toNat ⟨#[]⟩
theorem mtxt_eq (m : Int) : mtxt m = ⟨#[109]⟩ ++ digs m.toNat ⟨#[]⟩ := by rw [mtxt]
set_option maxHeartbeats 1000000 in
set_option maxRecDepth 100000 in
theorem markText_any (m : Int) (h0 : 0 < m) (h1 : m ≤ 1000000000000000) (w : World) :
    Calls Try.prog 69 #[.int .i64 m] w fun e w' => e = .returned (.string (mtxt m)) ∧ Ext w w' := by
  obtain ⟨M, rfl⟩ : ∃ M : Nat, m = (M : Int) := ⟨m.toNat, by omega⟩
  have HT := Lib.hid (mtxt_eq (M : Int))
  go_enter Try.func69, Try.ntmps69
  go_wp2
  go_loopw [0, 3] (fun q s wr => ∃ (k : Nat) (S : ByteArray), k ≤ M ∧ q = .int .i64 k ∧ s = .string S ∧ digs k S = digs M ⟨#[]⟩ ∧ S.size + k ≤ M ∧ Ext w wr) (fun q _ _ => (intOf q).toNat)
  case atStart => exact ⟨M, _, by omega, rfl, rfl, rfl, by show 0 + M ≤ M; omega, Ext.refl _⟩
  case round =>
    obtain ⟨k, S, hk, rfl, rfl, hd, hz, hx⟩ := hrel
    have HX := Lib.hid hx
    have HD := Lib.hid hd
    clear hx hd
    by_cases hp : 0 < k
    · have hcv : ∀ (W : World) (v : Int), v = 48 + ((k % 10 : Nat) : Int) → (convert 22 9 (.slice (some ⟨W.heap.size, 0, none⟩) 1 1)).run Try.prog (W.alloc (.cells #[.int .u8 v] 5)) = .ok (.string (strOfNums [(48 + (k % 10 : Nat) : Int)])) (W.alloc (.cells #[.int .u8 v] 5)) := by
        rintro W v rfl
        exact convS (xs := [(48 + (k % 10 : Nat) : Int)]) (Own.of_blk8 (base := 0) (e := 5) (Blk.new W 5 _) (Nat.zero_le _) (by simp) (by intro y hy; simp at hy; subst hy; omega)).rd
      have HC := Lib.hid hcv
      have hs1 : (strOfNums [48 + (k : Int) % 10]).size = 1 := strOfNums_size _
      have hcc : ((k % 10 : Nat) : Int) = (k : Int) % 10 := by omega
      have he : digs (k / 10) (strOfNums [48 + (k : Int) % 10] ++ S) = digs M ⟨#[]⟩ := by
        rw [← HD.out, digs_pos hp, hcc]
      have hz2 : (strOfNums [48 + (k : Int) % 10] ++ S).size + k / 10 ≤ M := by
        rw [ByteArray.size_append, hs1]; omega
      have HE := Lib.hid he
      have HZ := Lib.hid hz2
      clear he hz2
      go_wp2
      go_roundw
      case rel => exact ⟨k / 10, _, by omega, by go_num, rfl, HE.out, HZ.out, HX.out.alloc _⟩
      case measure => simp [intOf]; omega
    · obtain rfl : k = 0 := by omega
      go_wp2
      go_ret
      exact ⟨by rw [HT.out]; simp; rw [← HD.out, digs_zero], HX.out⟩
end Go.Proofs.Ytbippohfinbngaa
