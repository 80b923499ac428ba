/- The law FnExactCheckRangeOfMap: for every input it returns true, and its arguments read as before. No condition. -/
import Derived.Test.YtipeaoanhcjnjaaRows
import Derived.Test.YtipeaoanhcjnjaaPFnExactCheckRangeOfMap9
namespace Go.Proofs.Ytipeaoanhcjnjaa.fnExactCheckRangeOfMap
open Go.ChangeShapes Go.WideShapes Go.ChangeAt Go.RowKit
set_option linter.unusedVariables false
theorem own : ownKnob Try.prog.godebug = none := by kernel_rfl
theorem laidOut : laidOutB Try.prog = true := by kernel_rfl
set_option maxRecDepth 100000 in
set_option maxHeartbeats 1000000 in
theorem lifted (os : Os) (started : os.Started) (H : Type) (enc : TypeId × Value → H) :
    ReturnsInHanded {} Try.checked os 3 .any (Rows.fnExactCheckRangeOfMapSpec.pre6 enc Try.prog Try.f3 Rows.fnExactCheckRangeOfMapRow.domain false) (Rows.fnExactCheckRangeOfMapSpec.post enc Try.prog Try.f3 false true false false) := by
  refine returnsInHanded_of_change_sized (C := Try.checked) own started (by kernel_rfl) Try.func3
    (ChangeSpec.witness6 (enc := enc) (C := Try.checked) false ⟨#[], #[.agg #[.int .u8 0, .int .u8 0, .int .u8 0, .int .u8 0, .int .u8 0, .int .u8 0, .int .u8 0, .int .u8 0, .int .u8 0, .int .u8 0, .int .u8 0, .int .u8 0, .int .u8 0, .int .u8 0, .int .u8 0, .int .u8 0, .int .u8 0, .int .u8 0, .int .u8 0, .int .u8 0, .int .u8 0, .int .u8 0, .int .u8 0, .int .u8 0, .int .u8 0, .int .u8 0, .int .u8 0, .int .u8 0, .int .u8 0, .int .u8 0, .int .u8 0, .int .u8 0], .string ⟨#[]⟩, .string ⟨#[]⟩, .slice none 0 0], []⟩ 8 (by kernel_rfl) (by kernel_rfl) (by kernel_rfl) (by kernel_rfl)) ?_
  intro W base args ds gs before hval0 hW hcnd hsz0 _
  have hsz : (DataW.weightsEach Try.prog (Try.f3.params.toList ++ Rows.fnExactCheckRangeOfMapSpec.plain.varTypes Try.prog) (ds ++ gs)).all (· ≤ reachBytes) = true := hsz0
  have hval : ∀ (j : Nat) t v, Try.f3.params[j]? = some t → args[j]? = some v → Value.okWide Try.prog W .any base t v := hval0
  have hW' := hW
  obtain ⟨p, q, hA0, hV, rfl, hfz, hnd⟩ := hW
  have hA : DataW.TrodAll enc Try.prog W 0 (fun _ => true) true Try.f3.params.toList args.toList ds p := hA0
  rw [Try.params3] at hA hval hsz
  obtain ⟨v0, vs0, d0, ds0, p0, q0, hargs, rfl, rfl, h0, r_0⟩ := trodAll_cons hA
  obtain ⟨v1, vs1, d1, ds1, p1, q1, rfl, rfl, rfl, h1, r_1⟩ := trodAll_cons r_0
  obtain ⟨v2, vs2, d2, ds2, p2, q2, rfl, rfl, rfl, h2, r_2⟩ := trodAll_cons r_1
  obtain ⟨v3, vs3, d3, ds3, p3, q3, rfl, rfl, rfl, h3, r_3⟩ := trodAll_cons r_2
  obtain ⟨rfl, rfl, rfl⟩ := trodAll_nil r_3
  obtain rfl : args = #[v0, v1, v2, v3] := by cases args; simp_all
  obtain ⟨rfl, rfl⟩ := trodVars_none hV
  have lt0 : ∀ x ∈ p0, x.block < W.heap.size := by obtain ⟨m, hm⟩ := h0; exact DataW.trod_lt m _ _ _ hm
  have lt1 : ∀ x ∈ p1, x.block < W.heap.size := by obtain ⟨m, hm⟩ := h1; exact DataW.trod_lt m _ _ _ hm
  have lt2 : ∀ x ∈ p2, x.block < W.heap.size := by obtain ⟨m, hm⟩ := h2; exact DataW.trod_lt m _ _ _ hm
  have lt3 : ∀ x ∈ p3, x.block < W.heap.size := by obtain ⟨m, hm⟩ := h3; exact DataW.trod_lt m _ _ _ hm
  have o0 := open_arg (opens_arr8 Try.underlying22 Try.underlying5 (by kernel_rfl) (by kernel_rfl)) hsz (j := 0) rfl rfl h0
  have o1 := open_arg (opens_str Try.underlying9) hsz (j := 1) rfl rfl h1
  have o2 := open_arg (opens_str Try.underlying9) hsz (j := 2) rfl rfl h2
  have o3 := open_arg (opens_slice (sz := 66) Try.underlying23 (by kernel_rfl) (of_decide_eq_true (by kernel_rfl)) (by decide) (opens_struct3 Try.underlying58 rfl rfl rfl (by kernel_rfl) (opens_arr8 Try.underlying22 Try.underlying5 (by kernel_rfl) (by kernel_rfl)) (opens_arr8 Try.underlying22 Try.underlying5 (by kernel_rfl) (by kernel_rfl)) (opens_struct2 Try.underlying56 rfl rfl (by kernel_rfl) (opens_str Try.underlying9) (opens_str Try.underlying9)))) hsz (j := 3) rfl rfl h3
  suffices hmain : Calls Try.prog 3 #[v0, v1, v2, v3] W fun e W' => e = .returned (.bool true) ∧ Ext W W' by
    refine hmain.mono fun e W' ⟨he, bel⟩ => ?_
    subst he
    exact ⟨_, rfl, _, _, _, [], _, [], hW', trodAll_mk1 (shut_bool Try.underlying4 _), (trodAll_cons_mk (Below.trod laidOut (by kernel_rfl) (of_decide_eq_true (by kernel_rfl)) h0 bel lt0) (trodAll_cons_mk (Below.trod laidOut (by kernel_rfl) (of_decide_eq_true (by kernel_rfl)) h1 bel lt1) (trodAll_cons_mk (Below.trod laidOut (by kernel_rfl) (of_decide_eq_true (by kernel_rfl)) h2 bel lt2) (trodAll_cons_mk (Below.trod laidOut (by kernel_rfl) (of_decide_eq_true (by kernel_rfl)) h3 bel lt3) trodAll_mk0)))), rfl, bel.frame _, fun h => by cases h⟩
  clear hA0 hval0 hsz0 hsz
  obtain ⟨cs0, rfl⟩ := okWide_arr Try.underlying22 (hval 0 22 v0 rfl rfl)
  obtain ⟨x0, e0, hl0, hb0⟩ := o0
  rw [agg_of e0]
  obtain ⟨s1, rfl⟩ := okWide_string Try.underlying9 (hval 1 9 v1 rfl rfl)
  have R1 : s1.size ≤ 140737488351232 := by obtain ⟨y, hy, hw⟩ := o1; simp [Value.cells] at hy; subst hy; exact hw
  obtain ⟨s2, rfl⟩ := okWide_string Try.underlying9 (hval 2 9 v2 rfl rfl)
  have R2 : s2.size ≤ 140737488351232 := by obtain ⟨y, hy, hw⟩ := o2; simp [Value.cells] at hy; subst hy; exact hw
  obtain ⟨A3, len3, cap3, rfl⟩ := okWide_slice Try.underlying23 (hval 3 23 v3 rfl rfl)
  have R3 : ∃ xs, RdL tNd W (fun g => g < W.heap.size) (.slice A3 len3 cap3) xs := ⟨_, rdl_nd (rdl_of c_nd o3.choose_spec)⟩
  obtain ⟨xs3, r3⟩ := R3
  exact FnExactCheckRangeOfMap_any W x0 ⟨hl0, hb0⟩ s1 R1 s2 R2 _ xs3 _ r3
theorem over : Rows.fnExactCheckRangeOfMapRow.holds Try.pinned (OpenSpec.ofChange Rows.fnExactCheckRangeOfMapSpec) :=
  OpenClaim.holds_of_wide 3 Try.f3 rfl rfl rfl rfl rfl rfl rfl ⟨rfl, rfl, rfl, rfl, rfl⟩ rfl rfl rfl rfl rfl (by kernel_rfl) Try.func3 (by kernel_rfl)
    (of_decide_eq_true (by kernel_rfl)) (by unfold Func.isWrapper; first | (rw [if_pos (by decide +kernel)]; kernel_rfl) | (rw [if_neg (by decide +kernel)]; exact ⟨rfl, rfl⟩))
    (fun os started H enc _ => lifted os started H enc)
end Go.Proofs.Ytipeaoanhcjnjaa.fnExactCheckRangeOfMap
namespace Go.Proofs.Ytipeaoanhcjnjaa
/-- The row, under a short name, for the claim. -/
theorem fnExactCheckRangeOfMap_holds : Rows.FnExactCheckRangeOfMapSaid := fnExactCheckRangeOfMap.over
end Go.Proofs.Ytipeaoanhcjnjaa
