/- Whole structs and arrays in variables: made, stored, loaded, in regions too. No condition. -/
import Derived.Test.YtikpakhccmdmcaaKeys
import Derived.Deep.RegionHeld3
namespace Go.Proofs.Ytikpakhccmdmcaa
open Go.RowKit
set_option linter.unusedVariables false
set_option linter.unusedSimpArgs false

/-- cells of a struct or an array: so many, none of them a struct or an array itself -/
structure St (n : Nat) (cs : Array Value) : Prop where
  size : cs.size = n
  one : ∀ u ∈ cs.toList, u.oneCell' = true
theorem St.nums {k : IntKind} {xs : List Int} {n : Nat} (h : xs.length = n) : St n (numsA k xs) := ⟨by rw [numsA_size, h], fun u hu => one_nums k xs u (by simpa [numsA] using hu)⟩
theorem Agg.mkS {P : Program} {t n : Nat} {fs : Array Field} (h : P.underlying t = some (.struct fs)) (hs : (P.info? t).map (·.size) = some n) : Agg P t n := ⟨⟨_, h, rfl⟩, hs⟩
section
variable {P : Program} {ops : Array Oper} {rest : List Oper} {o : Oper} {a : Act} {w : World} {Q : Exit → Act → World → Prop}
theorem run_loadB {t g e n : Nat} {cs : Array Value} (hb : Blk w g e cs) (ht : Agg P t n) (hn : cs.size = n) : (loadVar t ⟨g, 0, none⟩).run P w = .ok (.agg cs) w := by
  have := run_loadVar_at (P := P) (w := w) (t := t) ⟨g, 0, none⟩ cs.toList (by simpa [hn] using ht) (fun j u hu => by
    rw [Addr.add_lit, Nat.zero_add, hb.cell]
    simpa using hu)
  simpa using this
theorem wpl_loadB {t g e n : Nat} {cs : Array Value} (hb : Blk w g e cs) (ht : Agg P t n) (hn : cs.size = n) (hgd : o.guard = none) (x : Operand) (ho : o.op = .load t x) (hx : a.eval x = .pointer (some ⟨g, 0, none⟩))
    (h : wpList P ops Q rest (a.put o.dst (.agg cs)) w) : wpList P ops Q (o :: rest) a w := by
  refine wpList_plain hgd fun K hK => ?_
  unfold Oper.wp execOp
  simp only [ho, hx, Instr.loadAt, Instr.sureAddr, Sem.run_bind, Sem.run_pure, Result.andThen_ok, run_loadB hb ht hn]
  exact hK _ _ h
/-- a whole struct or array is stored into the variable that has just been made -/
theorem wpl_storeNewB {t e n : Nat} {cs cur : Array Value} (ht : Agg P t n) (hs : St n cs) (hl : cur.size = n) (hgd : o.guard = none) (x y : Operand) (ho : o.op = .store t x y) (hx : a.eval x = .pointer (some ⟨w.heap.size, 0, none⟩))
    (hy : a.eval y = .agg cs) (hd : o.dst = none) (h : wpList P ops Q rest a (w.alloc (.cells cs e))) : wpList P ops Q (o :: rest) a (w.alloc (.cells cur e)) := by
  refine wpl_store w.heap.size 0 e cur cs.toList (by rw [Array.length_toList, hs.size]; exact ht.2) hgd x y ho hx (by rw [hy]; simp [Value.cells]) (Blk.new w e cur) (by rw [Array.length_toList, hs.size]; omega) hs.one hd ?_
  rw [splice_all _ _ (by rw [Array.length_toList, hs.size]; omega), setRow_alloc]
  simpa using h
theorem wpl_storeB {t g e n : Nat} {cs cur : Array Value} (hb : Blk w g e cur) (ht : Agg P t n) (hs : St n cs) (hl : cur.size = n) (hgd : o.guard = none) (x y : Operand) (ho : o.op = .store t x y) (hx : a.eval x = .pointer (some ⟨g, 0, none⟩))
    (hy : a.eval y = .agg cs) (hd : o.dst = none) (h : wpList P ops Q rest a (w.setRow g cs)) : wpList P ops Q (o :: rest) a w := by
  refine wpl_store g 0 e cur cs.toList (by rw [Array.length_toList, hs.size]; exact ht.2) hgd x y ho hx (by rw [hy]; simp [Value.cells]) hb (by rw [Array.length_toList, hs.size]; omega) hs.one hd ?_
  rw [splice_all _ _ (by rw [Array.length_toList, hs.size]; omega)]
  simpa using h
/-- a load that any world behind w0 answers alike -/
theorem yields_loadB {w0 : World} {t g e n : Nat} {cs : Array Value} (hb : Blk w0 g e cs) (ht : Agg P t n) (hn : cs.size = n) (hw : Region.wanted o (yielded ops a.tmps) = true) (x : Operand) (ho : o.op = .load t x) (hx : a.eval x = .pointer (some ⟨g, 0, none⟩)) :
    YieldsIf P ops (fun W => Ext w0 W) o (.agg cs) a := Or.inl ⟨hw, fun W hW => by
  unfold execOp
  simp only [ho, hx, Instr.loadAt, Instr.sureAddr, Sem.run_bind, Sem.run_pure, Result.andThen_ok, run_loadB (hb.ext hW) ht hn]⟩
end

end Go.Proofs.Ytikpakhccmdmcaa
