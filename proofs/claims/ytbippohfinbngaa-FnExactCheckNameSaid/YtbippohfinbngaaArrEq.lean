/- Arrays of bytes held against each other by == and !=. No condition. -/
import Derived.Test.YtbippohfinbngaaStrct
import Derived.Laws.StructEq
namespace Go.Proofs.Ytbippohfinbngaa
open Go.RowKit
set_option linter.unusedVariables false
set_option linter.unusedSimpArgs false

def eqArr (d : Nat) (e : TypeId) (n : Nat) (xs ys : Array Value) : List Nat → Sem Bool
  | [] => pure true
  | i :: is => do
    let a ← part e xs (i * n)
    let b ← part e ys (i * n)
    let r ← Op.equalIn d e a b
    if (!r) = true then pure false else eqArr d e n xs ys is
section
variable {P : Program} (w : World)
theorem run_equalIn_array (d : Nat) (t e : TypeId) (len n : Nat) (xs ys : Array Value) (ht : P.underlying t = some (.array len e)) (hn : ∀ w, (sizeOf e).run P w = .ok n w) :
    (Op.equalIn (d + 1) t (.agg xs) (.agg ys)).run P w = (eqArr d e n xs ys (List.range' 0 len)).run P w := by
  simp only [Op.equalIn, Sem.run_bind, run_underlying ht, Result.andThen_ok, hn]
  rw [Std.Legacy.Range.forIn_eq_forIn_range']
  simp only [Std.Legacy.Range.size, Nat.sub_zero, Nat.add_sub_cancel, Nat.div_one]
  generalize List.range' 0 len = l
  clear ht
  induction l generalizing w with
  | nil => simp [eqArr]
  | cons f fs ih =>
    simp only [List.forIn_cons, eqArr, Sem.run_bind, Sem.run_ite]
    generalize (part e xs (f * n)).run P w = r1
    cases r1 with
    | ok a w1 =>
      simp only [Result.andThen_ok]
      generalize (part e ys (f * n)).run P w1 = r2
      cases r2 with
      | ok b w2 =>
        simp only [Result.andThen_ok]
        generalize (Op.equalIn d e a b).run P w2 = r3
        cases r3 with
        | ok r w3 =>
          cases r
          · simp only [Result.andThen_ok, Bool.not_false, if_true, Sem.run_pure]
          · simp only [Result.andThen_ok, Bool.not_true, Bool.false_eq_true, if_false, Sem.run_pure]
            exact ih w3
        | halt x w3 => simp [Result.andThen]
      | halt x w2 => simp [Result.andThen]
    | halt x w1 => simp [Result.andThen]
theorem run_eqArr (d : Nat) (e : TypeId) (k' : IntKind) (he : P.underlying e = some (.int k')) (k : IntKind) (a b : List Int) (hl : a.length = b.length) (m i : Nat) (hi : i + m = a.length) :
    (eqArr (d + 1) e 1 (numsA k a) (numsA k b) (List.range' i m)).run P w = .ok (decide (a.drop i = b.drop i)) w := by
  have hagg : (isAgg e).run P w = .ok false w := by
    unfold isAgg
    rw [Sem.run_bind, run_underlying he w]
    rfl
  induction m generalizing i with
  | zero =>
    rw [List.drop_eq_nil_of_le (by omega), List.drop_eq_nil_of_le (by omega)]
    simp [eqArr]
  | succ m ih =>
    have h1 : i < a.length := by omega
    have h2 : i < b.length := by omega
    have e1 := numsA_at k a i h1
    have e2 := numsA_at k b i h2
    rw [List.range'_succ]
    simp only [eqArr, Sem.run_bind, part, hagg, Result.andThen_ok, Bool.false_eq_true, if_false, Nat.mul_one, e1, e2, Sem.run_pure, run_equalIn_int w d e k k' _ _ he, Sem.run_ite]
    rw [List.drop_eq_getElem_cons h1, List.drop_eq_getElem_cons h2]
    by_cases hq : gI a i = gI b i
    · have h3 : (gI a i == gI b i) = true := by simpa using hq
      simp only [h3, Bool.not_true, Bool.false_eq_true, if_false]
      rw [ih (i + 1) (by omega)]
      rw [gI_lt h1, gI_lt h2] at hq
      simp only [List.cons.injEq, hq, true_and]
    · have h3 : (gI a i == gI b i) = false := by simpa using hq
      simp only [h3, Bool.not_false, if_true]
      rw [gI_lt h1, gI_lt h2] at hq
      simp only [List.cons.injEq, hq, false_and, decide_false]
end
theorem run_eqKey (a b : List Int) (ha : K32 a) (hb : K32 b) (W : World) : (binOp .eql 71 (.agg (numsA .u8 a)) (.agg (numsA .u8 b))).run Try.prog W = .ok (.bool (decide (a = b))) W := by
  rw [run_eql_struct, run_equalIn_array (P := Try.prog) W 9999 71 5 32 1 _ _ (by kernel_rfl) (fun w => by kernel_rfl), run_eqArr (P := Try.prog) W 9998 5 .u8 (by kernel_rfl) .u8 a b (by rw [ha.1, hb.1]) 32 0 (by rw [ha.1])]
  simp
theorem run_neqKey (a b : List Int) (ha : K32 a) (hb : K32 b) (W : World) : (binOp .neq 71 (.agg (numsA .u8 a)) (.agg (numsA .u8 b))).run Try.prog W = .ok (.bool (!decide (a = b))) W := by
  rw [run_neq_struct, run_equalIn_array (P := Try.prog) W 9999 71 5 32 1 _ _ (by kernel_rfl) (fun w => by kernel_rfl), run_eqArr (P := Try.prog) W 9998 5 .u8 (by kernel_rfl) .u8 a b (by rw [ha.1, hb.1]) 32 0 (by rw [ha.1])]
  simp

end Go.Proofs.Ytbippohfinbngaa
