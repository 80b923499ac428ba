/- Rows of entries: copied within a row of one's own; an entry set in between. No condition. -/
import Derived.Test.YtbippohfinbngaaDelP
import Derived.Lib.AppendZerosOnto
import Derived.Lib.Overlaps
import Derived.Laws.Externs
namespace Go.Proofs.Ytbippohfinbngaa
open Go.RowKit
set_option linter.unusedVariables false
set_option linter.unusedSimpArgs false

/-- the copying of cells, two to an element, into a row -/
theorem run_copyE {P : Program} (w : World) (dT sT ty elem : TypeId) (g o dLen dCap : Nat) (a : Addr) (sLen sCap : Nat) (cur : Array Value) (t : TypeId) (cs : List Value)
    (hu : P.underlying dT = some (.slice elem)) (hs : (P.info? elem).map (·.size) = some 2)
    (hg : Blk w g t cur) (hn : cs.length = Nat.min sLen dLen * 2)
    (hsrc : ∀ j v, cs[j]? = some v → w.cell? (a.add j) = some v) (hfit : o + cs.length ≤ cur.size) (h1 : ∀ v ∈ cs, v.oneCell' = true) :
    (Builtin.copy_ #[dT, sT] ty #[.slice (some ⟨g, o, none⟩) dLen dCap, .slice (some a) sLen sCap]).run P w = .ok (goInt (Nat.min sLen dLen)) (w.setRow g (splice cur o cs)) := by
  have hl := run_loadCells_list (P := P) w a cs hsrc
  have hst := run_storeCells_at P g o t cs 0 cur w hg (by simpa using hfit) h1
  cases hq : P.info? elem with
  | none => simp [hq] at hs
  | some i =>
    have hi : i.size = 2 := by simpa [hq] using hs
    simp [Builtin.copy_, run_underlying hu, Builtin.lenOf, Builtin.firstCells, sizeOf, typeInfo, hq, hi, ← hn, hl, hst, splice]
theorem stp_copyRun {P : Program} {ops : Array Oper} {o : Oper} {a : Act} {w w' : World} {K : Act → World → Prop} {Q : Exit → Act → World → Prop} {E : Prop} {t t' : TypeId} {v u v' : Value} (hgd : o.guard = none) (s x : Operand)
    (hop : o.op = .call { callee := .builtin .copy, args := #[s, x], argTypes := #[t, t'] }) (hs : a.eval s = v) (hx : a.eval x = u)
    (hrun : (Builtin.copy_ #[t, t'] o.type #[v, u]).run P w = .ok v' w') (h : K (a.put o.dst v') w') :
    if Region.wanted o (yielded ops a.tmps) = true then Oper.wp P o a w K Q else E := by
  have hw : Region.wanted o (yielded ops a.tmps) = true := by simp [Region.wanted, hgd]
  rw [if_pos hw]
  unfold Oper.wp execOp
  simp only [hop, resolve, invoke, builtin, Sem.run_bind, Sem.run_pure, Result.andThen_ok, List.map_toArray, List.map_cons, List.map_nil, hs, hx, hrun]
  exact h
theorem wpl_copyRun {P : Program} {ops : Array Oper} {rest : List Oper} {o : Oper} {a : Act} {w w' : World} {Q : Exit → Act → World → Prop} {t t' : TypeId} {v u v' : Value} (hgd : o.guard = none) (s x : Operand)
    (hop : o.op = .call { callee := .builtin .copy, args := #[s, x], argTypes := #[t, t'] }) (hs : a.eval s = v) (hx : a.eval x = u)
    (hrun : (Builtin.copy_ #[t, t'] o.type #[v, u]).run P w = .ok v' w') (h : wpList P ops Q rest (a.put o.dst v') w') : wpList P ops Q (o :: rest) a w := by
  refine wpList_plain hgd fun _ hK => ?_
  unfold Oper.wp execOp
  simp only [hop, resolve, invoke, builtin, Sem.run_bind, Sem.run_pure, Result.andThen_ok, List.map_toArray, List.map_cons, List.map_nil, hs, hx, hrun]
  exact hK _ _ h
theorem sizeEnt : (Try.prog.info? 67).map (·.size) = some 2 := by kernel_rfl
/-- the cells of entries are of one cell each -/
theorem one_ents (ys : List En) : ∀ u ∈ ys.flatMap tEnt.enc, u.oneCell' = true := by
  intro u hu
  obtain ⟨x, _, hx⟩ := List.mem_flatMap.1 hu
  simp [tEnt] at hx
  rcases hx with rfl | rfl <;> rfl
/-- entries written into a row -/
theorem at_in {cur : Array Value} {b : Nat} {ys : List En} (h : b * 2 + ys.length * 2 ≤ cur.size) (i : Nat) (hi : i < ys.length) : AtE (splice cur (b * 2) (ys.flatMap tEnt.enc)) (b + i) ys[i] := by
  have hf := flat_ent ys i hi
  have hl : b * 2 + (ys.flatMap tEnt.enc).length ≤ cur.size := by rw [flat_len]; exact h
  refine ⟨?_, ?_⟩
  · rw [show (b + i) * 2 = b * 2 + i * 2 by omega, splice_in _ _ _ hl _ (by rw [flat_len]; omega)]; exact hf.1
  · rw [show (b + i) * 2 + 1 = b * 2 + (i * 2 + 1) by omega, splice_in _ _ _ hl _ (by rw [flat_len]; omega)]; exact hf.2
theorem at_out {cur : Array Value} {b p : Nat} {ys : List En} {f : En} (h : b * 2 + ys.length * 2 ≤ cur.size) (hp : p < b ∨ b + ys.length ≤ p) (ha : AtE cur p f) : AtE (splice cur (b * 2) (ys.flatMap tEnt.enc)) p f := by
  have hl : b * 2 + (ys.flatMap tEnt.enc).length ≤ cur.size := by rw [flat_len]; exact h
  exact ⟨by rw [splice_out _ _ _ hl _ (by rw [flat_len]; omega)]; exact ha.1, by rw [splice_out _ _ _ hl _ (by rw [flat_len]; omega)]; exact ha.2⟩
/-- what stands in the row when an entry has been set in between -/
theorem at_ins {cs : Array Value} {xs : List En} {e : En} {k : Nat} (hk : k ≤ xs.length) (h1 : ∀ i (hi : i < k) (hx : i < xs.length), AtE cs i xs[i]) (h2 : AtE cs k e) (h3 : ∀ i (hi : k + i < xs.length), AtE cs (k + 1 + i) xs[k + i]) :
    ∀ i (hi : i < (xs.take k ++ [e] ++ xs.drop k).length), AtE cs i (xs.take k ++ [e] ++ xs.drop k)[i] := by
  intro i hi
  have hl : (xs.take k).length = k := by rw [List.length_take]; omega
  have hi' : i < xs.length + 1 := by simp only [List.length_append, List.length_cons, List.length_nil, List.length_drop, hl] at hi; omega
  by_cases c1 : i < k
  · have e1 : (xs.take k ++ [e] ++ xs.drop k)[i] = xs[i] := by
      rw [List.getElem_append_left (by simp only [List.length_append, List.length_cons, List.length_nil, hl]; omega), List.getElem_append_left (by rw [hl]; omega), List.getElem_take]
    rw [e1]
    exact h1 i c1 _
  · by_cases c2 : i = k
    · subst c2
      have e1 : (xs.take i ++ [e] ++ xs.drop i)[i] = e := by
        rw [List.getElem_append_left (by simp only [List.length_append, List.length_cons, List.length_nil, hl]; omega), List.getElem_append_right (by rw [hl]; omega)]
        simp [hl]
      rw [e1]
      exact h2
    · obtain ⟨q, rfl⟩ : ∃ q, i = k + 1 + q := ⟨i - (k + 1), by omega⟩
      have e1 : (xs.take k ++ [e] ++ xs.drop k)[k + 1 + q] = xs[k + q]'(by omega) := by
        rw [List.getElem_append_right (by simp only [List.length_append, List.length_cons, List.length_nil, hl]; omega), List.getElem_drop]
        congr 1
        simp only [List.length_append, List.length_cons, List.length_nil, hl]
        omega
      rw [e1]
      exact h3 q (by omega)
theorem shape_blk {w : World} {g t : Nat} {cs : Array Value} (h : Blk w g t cs) : w.shape? g = some (t, cs.size) := by
  unfold Blk at h
  simp [World.shape?, h]
end Go.Proofs.Ytbippohfinbngaa
