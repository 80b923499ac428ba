/- Whole arrays of numbers: read, written, returned. No condition. -/
import Derived.Test.YtikpakhccmdmcaaLib
namespace Go.Proofs.Ytikpakhccmdmcaa
open Go.RowKit
set_option linter.unusedVariables false
set_option linter.unusedSimpArgs false

theorem Blk.new' {g : Nat} {w : World} (hg : g = w.heap.size) (t : TypeId) (cs : Array Value) : Blk (w.alloc (.cells cs t)) g t cs := by subst hg; exact Blk.new w t cs
theorem Agg.mk' {P : Program} {t n : Nat} {e : TypeId} {m : Nat} (h : P.underlying t = some (.array m e)) (hs : (P.info? t).map (·.size) = some n) : Agg P t n := ⟨⟨_, h, rfl⟩, hs⟩
theorem aggU32 : Agg Try.prog 154 8 := Agg.mk' (e := 153) (m := 8) (by kernel_rfl) (by kernel_rfl)
theorem aggB32 : Agg Try.prog 40 32 := Agg.mk' (e := 5) (m := 32) (by kernel_rfl) (by kernel_rfl)
theorem aggKey : Agg Try.prog 45 32 := Agg.mk' (e := 5) (m := 32) (by kernel_rfl) (by kernel_rfl)
section
variable {P : Program} {ops : Array Oper} {rest : List Oper} {o : Oper} {a : Act} {w : World} {Q : Exit → Act → World → Prop}
theorem wpl_loadN {t g e : Nat} {k : IntKind} {xs : List Int} (hb : Blk w g e (numsA k xs)) {n : Nat} (ht : Agg P t n) (hn : xs.length = n) (hgd : o.guard = none) (x : Operand) (ho : o.op = .load t x) (hx : a.eval x = .pointer (some ⟨g, 0, none⟩))
    (h : wpList P ops Q rest (a.put o.dst (.agg (numsA k xs))) w) : wpList P ops Q (o :: rest) a w := by
  subst hn
  refine wpl_load ⟨g, 0, none⟩ (nums k xs) (by rw [nums_length]; exact ht) hgd x ho hx (fun j u hu => ?_) h
  rw [Addr.add_lit, Nat.zero_add, hb.cell]
  simpa [numsA] using hu
theorem splice_all (cur : Array Value) (vs : List Value) (h : cur.size = vs.length) : splice cur 0 vs = vs.toArray := by
  unfold splice
  rw [List.take_zero, List.nil_append, Nat.zero_add, List.drop_eq_nil_of_le (by simp; omega), List.append_nil]
theorem wpl_storeN {t g e : Nat} {k : IntKind} {xs : List Int} {cur : Array Value} (hb : Blk w g e cur) {n : Nat} (ht : Agg P t n) (hn : xs.length = n) (hl : cur.size = n) (hgd : o.guard = none) (x y : Operand) (ho : o.op = .store t x y) (hx : a.eval x = .pointer (some ⟨g, 0, none⟩))
    (hy : a.eval y = .agg (numsA k xs)) (hd : o.dst = none) (h : wpList P ops Q rest a (w.setRow g (numsA k xs))) : wpList P ops Q (o :: rest) a w := by
  refine wpl_store g 0 e cur (nums k xs) (by rw [nums_length, hn]; exact ht.2) hgd x y ho hx (by rw [hy]; rfl) hb (by rw [nums_length]; omega) (one_nums k xs) hd ?_
  rwa [splice_all _ _ (by rw [nums_length]; omega)]
/-- a whole array in a variable is the result -/
theorem results_blk {fn : Func} {c : Tmp} {t g e : Nat} {k : IntKind} {xs : List Int} (hr : fn.results = #[.cell c t]) (tmps : Array Value) (hp : tmps.getD c undef = .pointer (some ⟨g, 0, none⟩)) {n : Nat} (ht : Agg P t n) (hn : xs.length = n) (hb : Blk w g e (numsA k xs)) :
    (results fn tmps).run P w = .ok (.agg (numsA k xs)) w := by
  obtain ⟨⟨d, hu, hd⟩, hi⟩ := ht
  exact results_cell_row hr tmps w g e _ (0, 0) d hp hb hu (by cases d <;> simp_all) (by rw [hi, numsA_size, hn])
end
theorem zero32 : (#[Value.int .u8 0, Value.int .u8 0, Value.int .u8 0, Value.int .u8 0, Value.int .u8 0, Value.int .u8 0, Value.int .u8 0, Value.int .u8 0, Value.int .u8 0, Value.int .u8 0, Value.int .u8 0, Value.int .u8 0, Value.int .u8 0, Value.int .u8 0, Value.int .u8 0, Value.int .u8 0, Value.int .u8 0, Value.int .u8 0, Value.int .u8 0, Value.int .u8 0, Value.int .u8 0, Value.int .u8 0, Value.int .u8 0, Value.int .u8 0, Value.int .u8 0, Value.int .u8 0, Value.int .u8 0, Value.int .u8 0, Value.int .u8 0, Value.int .u8 0, Value.int .u8 0, Value.int .u8 0] : Array Value) = numsA .u8 (List.replicate 32 0) := by simp only [numsA, nums, List.replicate_succ, List.replicate_zero, List.map_cons, List.map_nil]
theorem numsA_inj {k : IntKind} {xs ys : List Int} (h : xs = ys) : Value.agg (numsA k xs) = .agg (numsA k ys) := by rw [h]

end Go.Proofs.Ytikpakhccmdmcaa
