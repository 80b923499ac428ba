/- The law FnExactCommitData: for every input it returns true, and its arguments read as before. No condition. -/
import Derived.Test.YtbngjhppngohaaaRows
import Derived.Test.YtbngjhppngohaaaOpen
import Derived.Test.YtbngjhppngohaaaWFnExactCommitData
namespace Go.Proofs.Ytbngjhppngohaaa.fnExactCommitData
open Go.ChangeShapes Go.WideShapes Go.ChangeAt Go.RowKit
set_option linter.unusedVariables false
theorem own : ownKnob Try.prog.godebug = none := by kernel_rfl
theorem laidOut : laidOutB Try.prog = true := by kernel_rfl
set_option maxRecDepth 100000 in
set_option maxHeartbeats 1000000 in
theorem lifted (os : Os) (started : os.Started) (H : Type) (enc : TypeId × Value → H) :
    ReturnsInHanded {} Try.checked os 9 .any (Rows.fnExactCommitDataSpec.pre6 enc Try.prog Try.f9 Rows.fnExactCommitDataRow.domain false) (Rows.fnExactCommitDataSpec.post enc Try.prog Try.f9 false true false false) := by
  refine returnsInHanded_of_change_sized (C := Try.checked) own started (by kernel_rfl) Try.func9
    (ChangeSpec.witness6 (enc := enc) (C := Try.checked) false ⟨#[], #[.agg #[.int .u8 0, .int .u8 0, .int .u8 0, .int .u8 0, .int .u8 0, .int .u8 0, .int .u8 0, .int .u8 0, .int .u8 0, .int .u8 0, .int .u8 0, .int .u8 0, .int .u8 0, .int .u8 0, .int .u8 0, .int .u8 0, .int .u8 0, .int .u8 0, .int .u8 0, .int .u8 0, .int .u8 0, .int .u8 0, .int .u8 0, .int .u8 0, .int .u8 0, .int .u8 0, .int .u8 0, .int .u8 0, .int .u8 0, .int .u8 0, .int .u8 0, .int .u8 0, .slice none 0 0, .int .i64 0, .string ⟨#[]⟩]], []⟩ 8 (by kernel_rfl) (by kernel_rfl) (by kernel_rfl) (by kernel_rfl)) ?_
  intro W base args ds gs before hval0 hW hcnd hsz0 _
  have hsz : (DataW.weightsEach Try.prog (Try.f9.params.toList ++ Rows.fnExactCommitDataSpec.plain.varTypes Try.prog) (ds ++ gs)).all (· ≤ reachBytes) = true := hsz0
  have hval : ∀ (j : Nat) t v, Try.f9.params[j]? = some t → args[j]? = some v → Value.okWide Try.prog W .any base t v := hval0
  have hW' := hW
  obtain ⟨p, q, hA0, hV, rfl, hfz, hnd⟩ := hW
  have hA : DataW.TrodAll enc Try.prog W 0 (fun _ => true) true Try.f9.params.toList args.toList ds p := hA0
  rw [Try.params9] at hA hval hsz
  obtain ⟨v0, vs0, d0, ds0, p0, q0, hargs, rfl, rfl, h0, r_0⟩ := trodAll_cons hA
  obtain ⟨rfl, rfl, rfl⟩ := trodAll_nil r_0
  obtain rfl : args = #[v0] := by cases args; simp_all
  obtain ⟨rfl, rfl⟩ := trodVars_none hV
  have lt0 : ∀ x ∈ p0, x.block < W.heap.size := by obtain ⟨m, hm⟩ := h0; exact DataW.trod_lt m _ _ _ hm
  have o0 := open_arg (opens_struct4 Try.underlying25 rfl rfl rfl rfl (by kernel_rfl) (opens_arr8 Try.underlying22 Try.underlying5 (by kernel_rfl) (by kernel_rfl)) (opens_slice (sz := 32) Try.underlying23 (by kernel_rfl) (of_decide_eq_true (by kernel_rfl)) (by decide) (opens_arr8 Try.underlying22 Try.underlying5 (by kernel_rfl) (by kernel_rfl))) (opens_int Try.underlying2) (opens_str Try.underlying9)) hsz (j := 0) rfl rfl h0
  suffices hmain : Calls Try.prog 9 #[v0] W fun e W' => e = .returned (.bool true) ∧ Ext W W' by
    refine hmain.mono fun e W' ⟨he, bel⟩ => ?_
    subst he
    exact ⟨_, rfl, _, _, _, [], _, [], hW', trodAll_mk1 (shut_bool Try.underlying4 _), (trodAll_cons_mk (Below.trod laidOut (by kernel_rfl) (of_decide_eq_true (by kernel_rfl)) h0 bel lt0) trodAll_mk0), rfl, bel.frame _, fun h => by cases h⟩
  clear hA0 hval0 hsz0 hsz
  obtain ⟨cs0, rfl, _⟩ := okWide_struct Try.underlying25 (hval 0 25 v0 rfl rfl)
  obtain ⟨⟨root0, par0, num0, note0⟩, c10, c20, e0, ⟨rfl, hl0, hlb0⟩, c30, c40, rfl, hpar0, c50, c60, rfl, ⟨rfl, hnum0⟩, rfl, hnote0⟩ := o0
  obtain ⟨A0, cap0, q0, _⟩ := id hpar0
  subst q0
  have r0 := rdl_of (T := tKey) c_key hpar0
  rw [agg_of e0]
  exact FnExactCommitData_any W _ ⟨root0, par0, num0, note0⟩ _ ⟨_, by simp [Cm.cells], r0, ⟨hl0, hlb0⟩, hnum0, hnote0⟩
theorem over : Rows.fnExactCommitDataRow.holds Try.pinned (OpenSpec.ofChange Rows.fnExactCommitDataSpec) :=
  OpenClaim.holds_of_wide 9 Try.f9 rfl rfl rfl rfl rfl rfl rfl ⟨rfl, rfl, rfl, rfl, rfl⟩ rfl rfl rfl rfl rfl (by kernel_rfl) Try.func9 (by kernel_rfl)
    (of_decide_eq_true (by kernel_rfl)) (by unfold Func.isWrapper; first | (rw [if_pos (by decide +kernel)]; kernel_rfl) | (rw [if_neg (by decide +kernel)]; exact ⟨rfl, rfl⟩))
    (fun os started H enc _ => lifted os started H enc)
end Go.Proofs.Ytbngjhppngohaaa.fnExactCommitData
namespace Go.Proofs.Ytbngjhppngohaaa
/-- The row, under a short name, for the claim. -/
theorem fnExactCommitData_holds : Rows.FnExactCommitDataSaid := fnExactCommitData.over
end Go.Proofs.Ytbngjhppngohaaa
