/- An entry struck out of a row of one's own. No condition. -/
import Derived.Test.YtbippohfinbngaaRowE
import Derived.Test.YtbippohfinbngaaDelS
namespace Go.Proofs.Ytbippohfinbngaa
open Go.RowKit
set_option linter.unusedVariables false
set_option linter.unusedSimpArgs false

/-- an append whose run is known: one step of a region -/
theorem stp_appRun {P : Program} {ops : Array Oper} {o : Oper} {a : Act} {w w' : World} {K : Act → World → Prop} {Q : Exit → Act → World → Prop} {E : Prop} {t : TypeId} {v u v' : Value} (hgd : o.guard = none) (s x : Operand)
    (hop : o.op = .call { callee := .builtin .append, args := #[s, x], argTypes := #[t, t] }) (hs : a.eval s = v) (hx : a.eval x = u)
    (hrun : (Builtin.append_ #[t, t] o.type #[v, u]).run P w = .ok v' w') (h : K (a.put o.dst v') w') :
    if Region.wanted o (yielded ops a.tmps) = true then Oper.wp P o a w K Q else E := by
  have hw : Region.wanted o (yielded ops a.tmps) = true := by simp [Region.wanted, hgd]
  rw [if_pos hw]
  unfold Oper.wp execOp
  simp only [hop, resolve, invoke, builtin, Sem.run_bind, Sem.run_pure, Result.andThen_ok, List.map_toArray, List.map_cons, List.map_nil, hs, hx, hrun]
  exact h
theorem cells_of_at {cur : Array Value} {b : Nat} {ys : List En} (hat : ∀ i (hi : i < ys.length), AtE cur (b + i) ys[i]) : ∀ j u, (ys.flatMap tEnt.enc)[j]? = some u → cur[b * 2 + j]? = some u := by
  intro j u hu
  have hj := (List.getElem?_eq_some_iff.1 hu).1
  rw [flat_len] at hj
  have hi : j / 2 < ys.length := by omega
  have h1 := hat _ hi
  have h2 := flat_ent ys _ hi
  rcases Nat.mod_two_eq_zero_or_one j with h0 | h0
  · rw [show j = j / 2 * 2 by omega, h2.1] at hu
    rw [show b * 2 + j = (b + j / 2) * 2 by omega, h1.1, ← hu]
  · rw [show j = j / 2 * 2 + 1 by omega, h2.2] at hu
    rw [show b * 2 + j = (b + j / 2) * 2 + 1 by omega, h1.2, ← hu]
end Go.Proofs.Ytbippohfinbngaa
