/- The law FnExactSameStore: for every input it returns true, and its arguments read as before. No condition. -/
import Derived.Test.YteegnbdgfedajaaRows
import Derived.Test.YteegnbdgfedajaaPFnExactSameStore2
namespace Go.Proofs.Yteegnbdgfedajaa.fnExactSameStore
open Go.ChangeShapes Go.WideShapes Go.ChangeAt Go.RowKit
set_option linter.unusedVariables false
theorem own : ownKnob Try.prog.godebug = none := by kernel_rfl
theorem laidOut : laidOutB Try.prog = true := by kernel_rfl
set_option maxRecDepth 100000 in
set_option maxHeartbeats 1000000 in
theorem lifted (os : Os) (started : os.Started) (H : Type) (enc : TypeId × Value → H) :
    ReturnsInHanded {} Try.checked os 4 .any (Rows.fnExactSameStoreSpec.pre6 enc Try.prog Try.f4 Rows.fnExactSameStoreRow.domain false) (Rows.fnExactSameStoreSpec.post enc Try.prog Try.f4 false true false false) := by
  refine returnsInHanded_of_change_sized (C := Try.checked) own started (by kernel_rfl) Try.func4
    (ChangeSpec.witness6 (enc := enc) (C := Try.checked) false ⟨#[], #[.agg #[.slice none 0 0], .agg #[.slice none 0 0]], []⟩ 8 (by kernel_rfl) (by kernel_rfl) (by kernel_rfl) (by kernel_rfl)) ?_
  intro W base args ds gs before hval0 hW hcnd hsz0 _
  have hsz : (DataW.weightsEach Try.prog (Try.f4.params.toList ++ Rows.fnExactSameStoreSpec.plain.varTypes Try.prog) (ds ++ gs)).all (· ≤ reachBytes) = true := hsz0
  have hval : ∀ (j : Nat) t v, Try.f4.params[j]? = some t → args[j]? = some v → Value.okWide Try.prog W .any base t v := hval0
  have hW' := hW
  obtain ⟨p, q, hA0, hV, rfl, hfz, hnd⟩ := hW
  have hA : DataW.TrodAll enc Try.prog W 0 (fun _ => true) true Try.f4.params.toList args.toList ds p := hA0
  rw [Try.params4] at hA hval hsz
  obtain ⟨v0, vs0, d0, ds0, p0, q0, hargs, rfl, rfl, h0, r_0⟩ := trodAll_cons hA
  obtain ⟨v1, vs1, d1, ds1, p1, q1, rfl, rfl, rfl, h1, r_1⟩ := trodAll_cons r_0
  obtain ⟨rfl, rfl, rfl⟩ := trodAll_nil r_1
  obtain rfl : args = #[v0, v1] := by cases args; simp_all
  obtain ⟨rfl, rfl⟩ := trodVars_none hV
  have lt0 : ∀ x ∈ p0, x.block < W.heap.size := by obtain ⟨m, hm⟩ := h0; exact DataW.trod_lt m _ _ _ hm
  have lt1 : ∀ x ∈ p1, x.block < W.heap.size := by obtain ⟨m, hm⟩ := h1; exact DataW.trod_lt m _ _ _ hm
  have o0 := open_arg (opens_struct1 Try.underlying30 rfl (by kernel_rfl) (opens_slice (sz := 2) Try.underlying28 (by kernel_rfl) (of_decide_eq_true (by kernel_rfl)) (by decide) (opens_struct2 Try.underlying61 rfl rfl (by kernel_rfl) (opens_int Try.underlying5) (opens_slice (sz := 1) Try.underlying22 (by kernel_rfl) (of_decide_eq_true (by kernel_rfl)) (by decide) (opens_int Try.underlying5))))) hsz (j := 0) rfl rfl h0
  have o1 := open_arg (opens_struct1 Try.underlying30 rfl (by kernel_rfl) (opens_slice (sz := 2) Try.underlying28 (by kernel_rfl) (of_decide_eq_true (by kernel_rfl)) (by decide) (opens_struct2 Try.underlying61 rfl rfl (by kernel_rfl) (opens_int Try.underlying5) (opens_slice (sz := 1) Try.underlying22 (by kernel_rfl) (of_decide_eq_true (by kernel_rfl)) (by decide) (opens_int Try.underlying5))))) hsz (j := 1) rfl rfl h1
  suffices hmain : Calls Try.prog 4 #[v0, v1] W fun e W' => e = .returned (.bool true) ∧ Ext W W' by
    refine hmain.mono fun e W' ⟨he, bel⟩ => ?_
    subst he
    exact ⟨_, rfl, _, _, _, [], _, [], hW', trodAll_mk1 (shut_bool Try.underlying4 _), (trodAll_cons_mk (Below.trod laidOut (by kernel_rfl) (of_decide_eq_true (by kernel_rfl)) h0 bel lt0) (trodAll_cons_mk (Below.trod laidOut (by kernel_rfl) (of_decide_eq_true (by kernel_rfl)) h1 bel lt1) trodAll_mk0)), rfl, bel.frame _, fun h => by cases h⟩
  clear hA0 hval0 hsz0 hsz
  obtain ⟨cs0, rfl, _⟩ := okWide_struct Try.underlying30 (hval 0 30 v0 rfl rfl)
  obtain ⟨xs0, e0⟩ := o0
  obtain ⟨A0, cap0, q0, _⟩ := id e0
  have r0 := rdn_blobs (v := .slice A0 xs0.length cap0) (by rw [← q0]; exact e0)
  rw [agg_of q0]
  obtain ⟨cs1, rfl, _⟩ := okWide_struct Try.underlying30 (hval 1 30 v1 rfl rfl)
  obtain ⟨xs1, e1⟩ := o1
  obtain ⟨A1, cap1, q1, _⟩ := id e1
  have r1 := rdn_blobs (v := .slice A1 xs1.length cap1) (by rw [← q1]; exact e1)
  rw [agg_of q1]
  exact FnExactSameStore_any W _ xs0 _ ⟨_, rfl, r0⟩ _ xs1 _ ⟨_, rfl, r1⟩
theorem over : Rows.fnExactSameStoreRow.holds Try.pinned (OpenSpec.ofChange Rows.fnExactSameStoreSpec) :=
  OpenClaim.holds_of_wide 4 Try.f4 rfl rfl rfl rfl rfl rfl rfl ⟨rfl, rfl, rfl, rfl, rfl⟩ rfl rfl rfl rfl rfl (by kernel_rfl) Try.func4 (by kernel_rfl)
    (of_decide_eq_true (by kernel_rfl)) (by unfold Func.isWrapper; first | (rw [if_pos (by decide +kernel)]; kernel_rfl) | (rw [if_neg (by decide +kernel)]; exact ⟨rfl, rfl⟩))
    (fun os started H enc _ => lifted os started H enc)
end Go.Proofs.Yteegnbdgfedajaa.fnExactSameStore
namespace Go.Proofs.Yteegnbdgfedajaa
/-- The row, under a short name, for the claim. -/
theorem fnExactSameStore_holds : Rows.FnExactSameStoreSaid := fnExactSameStore.over
end Go.Proofs.Yteegnbdgfedajaa
