/- The law FnExactKeysOfStore: for every input it returns true, and its arguments read as before. No condition. -/
import Derived.Test.YtnklgkmpcochfaaRows
import Derived.Test.YtnklgkmpcochfaaPFnExactKeysOfStore5
namespace Go.Proofs.Ytnklgkmpcochfaa.fnExactKeysOfStore
open Go.ChangeShapes Go.WideShapes Go.ChangeAt Go.RowKit
set_option linter.unusedVariables false
theorem own : ownKnob Try.prog.godebug = none := by kernel_rfl
theorem laidOut : laidOutB Try.prog = true := by kernel_rfl
set_option maxRecDepth 100000 in
set_option maxHeartbeats 1000000 in
theorem lifted (os : Os) (started : os.Started) (H : Type) (enc : TypeId × Value → H) :
    ReturnsInHanded {} Try.checked os 5 .any (Rows.fnExactKeysOfStoreSpec.pre6 enc Try.prog Try.f5 Rows.fnExactKeysOfStoreRow.domain false) (Rows.fnExactKeysOfStoreSpec.post enc Try.prog Try.f5 false true false false) := by
  refine returnsInHanded_of_change_sized (C := Try.checked) own started (by kernel_rfl) Try.func5
    (ChangeSpec.witness6 (enc := enc) (C := Try.checked) false ⟨#[], #[.agg #[.slice none 0 0]], []⟩ 8 (by kernel_rfl) (by kernel_rfl) (by kernel_rfl) (by kernel_rfl)) ?_
  intro W base args ds gs before hval0 hW hcnd hsz0 _
  have hsz : (DataW.weightsEach Try.prog (Try.f5.params.toList ++ Rows.fnExactKeysOfStoreSpec.plain.varTypes Try.prog) (ds ++ gs)).all (· ≤ reachBytes) = true := hsz0
  have hval : ∀ (j : Nat) t v, Try.f5.params[j]? = some t → args[j]? = some v → Value.okWide Try.prog W .any base t v := hval0
  have hW' := hW
  obtain ⟨p, q, hA0, hV, rfl, hfz, hnd⟩ := hW
  have hA : DataW.TrodAll enc Try.prog W 0 (fun _ => true) true Try.f5.params.toList args.toList ds p := hA0
  rw [Try.params5] at hA hval hsz
  obtain ⟨v0, vs0, d0, ds0, p0, q0, hargs, rfl, rfl, h0, r_0⟩ := trodAll_cons hA
  obtain ⟨rfl, rfl, rfl⟩ := trodAll_nil r_0
  obtain rfl : args = #[v0] := by cases args; simp_all
  obtain ⟨rfl, rfl⟩ := trodVars_none hV
  have lt0 : ∀ x ∈ p0, x.block < W.heap.size := by obtain ⟨m, hm⟩ := h0; exact DataW.trod_lt m _ _ _ hm
  have o0 := open_arg (opens_struct1 Try.underlying24 rfl (by kernel_rfl) (opens_slice (sz := 2) Try.underlying22 (by kernel_rfl) (of_decide_eq_true (by kernel_rfl)) (by decide) (opens_struct2 Try.underlying102 rfl rfl (by kernel_rfl) (opens_int Try.underlying5) (opens_slice (sz := 1) Try.underlying66 (by kernel_rfl) (of_decide_eq_true (by kernel_rfl)) (by decide) (opens_int Try.underlying5))))) hsz (j := 0) rfl rfl h0
  suffices hmain : Calls Try.prog 5 #[v0] W fun e W' => e = .returned (.bool true) ∧ Ext W W' by
    refine hmain.mono fun e W' ⟨he, bel⟩ => ?_
    subst he
    exact ⟨_, rfl, _, _, _, [], _, [], hW', trodAll_mk1 (shut_bool Try.underlying4 _), (trodAll_cons_mk (Below.trod laidOut (by kernel_rfl) (of_decide_eq_true (by kernel_rfl)) h0 bel lt0) trodAll_mk0), rfl, bel.frame _, fun h => by cases h⟩
  clear hA0 hval0 hsz0 hsz
  obtain ⟨cs0, rfl, _⟩ := okWide_struct Try.underlying24 (hval 0 24 v0 rfl rfl)
  obtain ⟨xs0, e0⟩ := o0
  obtain ⟨A0, cap0, q0, _⟩ := id e0
  have r0 := rdn_blobs (v := .slice A0 xs0.length cap0) (by rw [← q0]; exact e0)
  rw [agg_of q0]
  exact FnExactKeysOfStore_any W _ xs0 _ ⟨_, rfl, r0⟩
theorem over : Rows.fnExactKeysOfStoreRow.holds Try.pinned (OpenSpec.ofChange Rows.fnExactKeysOfStoreSpec) :=
  OpenClaim.holds_of_wide 5 Try.f5 rfl rfl rfl rfl rfl rfl rfl ⟨rfl, rfl, rfl, rfl, rfl⟩ rfl rfl rfl rfl rfl (by kernel_rfl) Try.func5 (by kernel_rfl)
    (of_decide_eq_true (by kernel_rfl)) (by unfold Func.isWrapper; first | (rw [if_pos (by decide +kernel)]; kernel_rfl) | (rw [if_neg (by decide +kernel)]; exact ⟨rfl, rfl⟩))
    (fun os started H enc _ => lifted os started H enc)
end Go.Proofs.Ytnklgkmpcochfaa.fnExactKeysOfStore
namespace Go.Proofs.Ytnklgkmpcochfaa
/-- The row, under a short name, for the claim. -/
theorem fnExactKeysOfStore_holds : Rows.FnExactKeysOfStoreSaid := fnExactKeysOfStore.over
end Go.Proofs.Ytnklgkmpcochfaa
