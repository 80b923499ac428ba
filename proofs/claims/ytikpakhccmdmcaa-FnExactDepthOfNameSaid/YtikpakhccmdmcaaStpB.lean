/- A slice of one struct is made: one step of a region. No condition. -/
import Derived.Test.YtikpakhccmdmcaaStpL
namespace Go.Proofs.Ytikpakhccmdmcaa
open Go.RowKit
set_option linter.unusedVariables false
set_option linter.unusedSimpArgs false

theorem run_build1 {P : Program} {t e n : Nat} {cs : Array Value} (W : World) (ht : P.underlying t = some (.slice e)) (hz : (P.info? e).map (fun i => (i.size, i.zero.isSome)) = some (n, true)) (hn : cs.size = n) (h0 : 0 < n) (h1 : n ≤ 1000) :
    (Instr.buildSlice t 1 #[(0, .agg cs)]).run P W = .ok (.slice (some ⟨W.heap.size, 0, none⟩) 1 1) (W.alloc (.cells cs e)) := by
  cases hq : P.info? e with
  | none => simp [hq] at hz
  | some i =>
    have hz' : i.size = n ∧ i.zero.isSome = true := by simpa [hq] using hz
    obtain ⟨hs, hz2⟩ := hz'
    obtain ⟨z, hz3⟩ := Option.isSome_iff_exists.1 hz2
    have hne : ¬ (1 * n > 2 ^ 24) := by omega
    have hne0 : ¬ (1 * n = 0) := by omega
    have hf : ∀ Z : Array Value, Z.size = n → Instr.fill (fun i => some (i * n, n)) Z [(0, .agg cs)] = some cs := fun Z hZ => by
      rw [fill_one _ _ 0 0 n _ _ (by simp) (by simp only [Value.cells]; exact hn) (by omega), Instr.fill]
      simp only [Value.cells]
      rw [splice_all _ _ (by rw [Array.length_toList, hn, hZ]), Array.toArray_toList]
    have hff := hf ((Array.range (1 * n)).map fun x => z.cells[x % z.cells.size]!) (by simp)
    simp only [Nat.one_mul] at hff
    simp [Instr.buildSlice, run_underlying ht, sizeOf, typeInfo, zeroValue, hq, hs, hz3, newRow, show ¬ n = 0 by omega, show ¬ 16777216 < n by omega, hff]
/-- a slice of one struct: one step of a region -/
theorem stp_build1 {P : Program} {ops : Array Oper} {o : Oper} {a : Act} {w : World} {K : Act → World → Prop} {Q : Exit → Act → World → Prop} {E : Prop} {t e n : Nat} {cs : Array Value} (ht : P.underlying t = some (.slice e)) (hz : (P.info? e).map (fun i => (i.size, i.zero.isSome)) = some (n, true)) (hn : cs.size = n) (h0 : 0 < n) (h1 : n ≤ 1000)
    (hgd : o.guard = none) (x : Operand) (ho : o.op = .buildSlice t 1 #[(0, x)]) (hx : a.eval x = .agg cs)
    (h : K (a.put o.dst (.slice (some ⟨w.heap.size, 0, none⟩) 1 1)) (w.alloc (.cells cs e))) : if Region.wanted o (yielded ops a.tmps) = true then Oper.wp P o a w K Q else E := by
  have hw : Region.wanted o (yielded ops a.tmps) = true := by simp [Region.wanted, hgd]
  rw [if_pos hw]
  have hrun := run_build1 (P := P) w ht hz hn h0 h1
  have hm : (#[((0 : Nat), x)] : Array (Nat × Operand)).map (fun p => (p.1, a.eval p.2)) = #[(0, .agg cs)] := by simp [hx]
  unfold Oper.wp execOp
  simp only [ho, hm, hrun, Sem.run_bind, Result.andThen_ok, Sem.run_pure]
  exact h
theorem zeroNd : (Try.prog.info? 60).map (fun i => (i.size, i.zero.isSome)) = some (66, true) := by kernel_rfl
end Go.Proofs.Ytikpakhccmdmcaa
