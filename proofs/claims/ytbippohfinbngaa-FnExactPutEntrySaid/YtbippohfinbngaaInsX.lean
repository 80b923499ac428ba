/- An entry set into a row of one's own: slices.Insert at the end. No condition. -/
import Derived.Test.YtbippohfinbngaaInsD
namespace Go.Proofs.Ytbippohfinbngaa
open Go.RowKit
set_option linter.unusedVariables false
set_option linter.unusedSimpArgs false


set_option maxHeartbeats 1000000 in
set_option maxRecDepth 100000 in
theorem insEnd_any (v : Value) (xs : List En) (k : Nat) (e : En) (he : tEnt.ok e) (w : World) (base p tp : Nat) (h : Own tEnt 67 w base v xs) (hk : k = xs.length) (h64 : xs.length ≤ 64) (hp : Blk w p tp #[.string e.1, .string e.2]) (hbase : base ≤ w.heap.size) :
    Calls Try.prog 123 #[v, .int .i64 k, .slice (some ⟨p, 0, none⟩) 1 1] w fun q w' => ∃ v', q = .returned v' ∧ Own tEnt 67 w' base v' (insR xs k e) ∧ w.grownBy w' v.ownBlock := by
  subst hk
  have e1 : insR xs xs.length e = xs ++ [e] := by rw [insR, List.take_length, List.drop_length, List.append_nil]
  rw [e1]
  obtain ⟨A, cap, rfl, hcap, hlen, _⟩ := id h.rd
  have HO := Lib.hid h
  have HP := Lib.hid hp
  have HE := Lib.hid he
  clear h hp he e1
  have h1 : (0 : Int) ≤ (xs.length : Int) := by omega
  have h2 : (xs.length : Int) ≤ (cap : Int) := by omega
  by_cases hce : cap = xs.length
  · subst hce
    go_enter Try.func123, Try.ntmps123
    go_wp2_with (at_builtin; go_loud (refine wpl_append rowEnt rfl _ _ rfl (v := .slice A xs.length xs.length) rfl HO.out _ _ rfl (A := some ⟨p, 0, none⟩) (ys := [e]) rfl (rd_box HP.out) (by intro y hy; obtain rfl := List.mem_singleton.1 hy; exact HE.out) (by simp only [List.length_singleton]; omega) hbase ?_); intro v9 w9 ho1 hg1 hat1; have HO9 := Lib.hid ho1; have HG9 := Lib.hid hg1; clear ho1 hg1 hat1)
    go_ret
    exact ⟨_, rfl, HO9.out, HG9.out⟩
  · have h3 : ¬ cap = xs.length := hce
    go_enter Try.func123, Try.ntmps123
    go_wp2_with (at_builtin; go_loud (refine wpl_append rowEnt rfl _ _ rfl (v := .slice A xs.length cap) rfl HO.out _ _ rfl (A := some ⟨p, 0, none⟩) (ys := [e]) rfl (rd_box HP.out) (by intro y hy; obtain rfl := List.mem_singleton.1 hy; exact HE.out) (by simp only [List.length_singleton]; omega) hbase ?_); intro v9 w9 ho1 hg1 hat1; have HO9 := Lib.hid ho1; have HG9 := Lib.hid hg1; clear ho1 hg1 hat1)
    go_ret
    exact ⟨_, rfl, HO9.out, HG9.out⟩
end Go.Proofs.Ytbippohfinbngaa
