/- The law FnExactFindCommit: for every input it returns true, and its arguments read as before. No condition. -/
import Derived.Test.YtnklgkmpcochfaaRows
import Derived.Test.YtnklgkmpcochfaaPFnExactFindCommit5
namespace Go.Proofs.Ytnklgkmpcochfaa.fnExactFindCommit
open Go.ChangeShapes Go.WideShapes Go.ChangeAt Go.RowKit
set_option linter.unusedVariables false
theorem own : ownKnob Try.prog.godebug = none := by kernel_rfl
theorem laidOut : laidOutB Try.prog = true := by kernel_rfl
set_option maxRecDepth 100000 in
set_option maxHeartbeats 1000000 in
theorem lifted (os : Os) (started : os.Started) (H : Type) (enc : TypeId × Value → H) :
    ReturnsInHanded {} Try.checked os 6 .any (Rows.fnExactFindCommitSpec.pre6 enc Try.prog Try.f6 Rows.fnExactFindCommitRow.domain false) (Rows.fnExactFindCommitSpec.post enc Try.prog Try.f6 false true false false) := by
  refine returnsInHanded_of_change_sized (C := Try.checked) own started (by kernel_rfl) Try.func6
    (ChangeSpec.witness6 (enc := enc) (C := Try.checked) false ⟨#[], #[.agg #[.slice none 0 0, .slice none 0 0], .agg #[.int .u8 0, .int .u8 0, .int .u8 0, .int .u8 0, .int .u8 0, .int .u8 0, .int .u8 0, .int .u8 0, .int .u8 0, .int .u8 0, .int .u8 0, .int .u8 0, .int .u8 0, .int .u8 0, .int .u8 0, .int .u8 0, .int .u8 0, .int .u8 0, .int .u8 0, .int .u8 0, .int .u8 0, .int .u8 0, .int .u8 0, .int .u8 0, .int .u8 0, .int .u8 0, .int .u8 0, .int .u8 0, .int .u8 0, .int .u8 0, .int .u8 0, .int .u8 0]], []⟩ 8 (by kernel_rfl) (by kernel_rfl) (by kernel_rfl) (by kernel_rfl)) ?_
  intro W base args ds gs before hval0 hW hcnd hsz0 _
  have hsz : (DataW.weightsEach Try.prog (Try.f6.params.toList ++ Rows.fnExactFindCommitSpec.plain.varTypes Try.prog) (ds ++ gs)).all (· ≤ reachBytes) = true := hsz0
  have hval : ∀ (j : Nat) t v, Try.f6.params[j]? = some t → args[j]? = some v → Value.okWide Try.prog W .any base t v := hval0
  have hW' := hW
  obtain ⟨p, q, hA0, hV, rfl, hfz, hnd⟩ := hW
  have hA : DataW.TrodAll enc Try.prog W 0 (fun _ => true) true Try.f6.params.toList args.toList ds p := hA0
  rw [Try.params6] at hA hval hsz
  obtain ⟨v0, vs0, d0, ds0, p0, q0, hargs, rfl, rfl, h0, r_0⟩ := trodAll_cons hA
  obtain ⟨v1, vs1, d1, ds1, p1, q1, rfl, rfl, rfl, h1, r_1⟩ := trodAll_cons r_0
  obtain ⟨rfl, rfl, rfl⟩ := trodAll_nil r_1
  obtain rfl : args = #[v0, v1] := by cases args; simp_all
  obtain ⟨rfl, rfl⟩ := trodVars_none hV
  have lt0 : ∀ x ∈ p0, x.block < W.heap.size := by obtain ⟨m, hm⟩ := h0; exact DataW.trod_lt m _ _ _ hm
  have lt1 : ∀ x ∈ p1, x.block < W.heap.size := by obtain ⟨m, hm⟩ := h1; exact DataW.trod_lt m _ _ _ hm
  have o0 := open_arg (opens_struct2 Try.underlying44 rfl rfl (by kernel_rfl) (opens_slice (sz := 35) Try.underlying41 (by kernel_rfl) (of_decide_eq_true (by kernel_rfl)) (by decide) (opens_struct4 Try.underlying118 rfl rfl rfl rfl (by kernel_rfl) (opens_arr8 Try.underlying45 Try.underlying5 (by kernel_rfl) (by kernel_rfl)) (opens_slice (sz := 32) Try.underlying116 (by kernel_rfl) (of_decide_eq_true (by kernel_rfl)) (by decide) (opens_arr8 Try.underlying45 Try.underlying5 (by kernel_rfl) (by kernel_rfl))) (opens_int Try.underlying2) (opens_str Try.underlying9))) (opens_slice (sz := 1) Try.underlying42 (by kernel_rfl) (of_decide_eq_true (by kernel_rfl)) (by decide) (opens_slice (sz := 2) Try.underlying120 (by kernel_rfl) (of_decide_eq_true (by kernel_rfl)) (by decide) (opens_struct2 Try.underlying157 rfl rfl (by kernel_rfl) (opens_str Try.underlying9) (opens_str Try.underlying9))))) hsz (j := 0) rfl rfl h0
  have o1 := open_arg (opens_arr8 Try.underlying45 Try.underlying5 (by kernel_rfl) (by kernel_rfl)) hsz (j := 1) rfl rfl h1
  suffices hmain : Calls Try.prog 6 #[v0, v1] W fun e W' => e = .returned (.bool true) ∧ Ext W W' by
    refine hmain.mono fun e W' ⟨he, bel⟩ => ?_
    subst he
    exact ⟨_, rfl, _, _, _, [], _, [], hW', trodAll_mk1 (shut_bool Try.underlying4 _), (trodAll_cons_mk (Below.trod laidOut (by kernel_rfl) (of_decide_eq_true (by kernel_rfl)) h0 bel lt0) (trodAll_cons_mk (Below.trod laidOut (by kernel_rfl) (of_decide_eq_true (by kernel_rfl)) h1 bel lt1) trodAll_mk0)), rfl, bel.frame _, fun h => by cases h⟩
  clear hA0 hval0 hsz0 hsz
  obtain ⟨cs0, rfl, _⟩ := okWide_struct Try.underlying44 (hval 0 44 v0 rfl rfl)
  obtain ⟨⟨ys0, zs0⟩, c10, c20, e0, hy0, hz0⟩ := o0
  obtain ⟨A0, cap0, rfl, _⟩ := id hy0
  obtain ⟨B0, bap0, rfl, _⟩ := id hz0
  have r0 := rdn_commits hy0
  have s0 := rdn_ents hz0
  rw [agg_of e0]
  obtain ⟨cs1, rfl⟩ := okWide_arr Try.underlying45 (hval 1 45 v1 rfl rfl)
  obtain ⟨x1, e1, hl1, hb1⟩ := o1
  rw [agg_of e1]
  exact FnExactFindCommit_any W _ (ys0.map cmOf, zs0) _ ⟨_, _, rfl, r0, s0⟩ x1 ⟨hl1, hb1⟩
theorem over : Rows.fnExactFindCommitRow.holds Try.pinned (OpenSpec.ofChange Rows.fnExactFindCommitSpec) :=
  OpenClaim.holds_of_wide 6 Try.f6 rfl rfl rfl rfl rfl rfl rfl ⟨rfl, rfl, rfl, rfl, rfl⟩ rfl rfl rfl rfl rfl (by kernel_rfl) Try.func6 (by kernel_rfl)
    (of_decide_eq_true (by kernel_rfl)) (by unfold Func.isWrapper; first | (rw [if_pos (by decide +kernel)]; kernel_rfl) | (rw [if_neg (by decide +kernel)]; exact ⟨rfl, rfl⟩))
    (fun os started H enc _ => lifted os started H enc)
end Go.Proofs.Ytnklgkmpcochfaa.fnExactFindCommit
namespace Go.Proofs.Ytnklgkmpcochfaa
/-- The row, under a short name, for the claim. -/
theorem fnExactFindCommit_holds : Rows.FnExactFindCommitSaid := fnExactFindCommit.over
end Go.Proofs.Ytnklgkmpcochfaa
