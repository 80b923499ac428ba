/- Steps of regions that make and fill variables; structs built of parts. No condition. -/
import Derived.Test.YtikpakhccmdmcaaTreeP
import Derived.Test.YtikpakhccmdmcaaHashJ
import Derived.Test.YtikpakhccmdmcaaRowE
namespace Go.Proofs.Ytikpakhccmdmcaa
open Go.RowKit
set_option linter.unusedVariables false
set_option linter.unusedSimpArgs false

section
variable {P : Program} {ops : Array Oper} {o : Oper} {a : Act} {w : World} {K : Act → World → Prop} {Q : Exit → Act → World → Prop} {E : Prop}
/-- a new variable: one step of a region -/
theorem stp_alloc {t : TypeId} (z : Array Value) (hz : (P.info? t).map (·.zero) = some (some (.agg z))) (hgd : o.guard = none) (ho : o.op = .alloc t)
    (h : K (a.put o.dst (.pointer (some ⟨w.heap.size, 0, none⟩))) (w.alloc (.cells z t))) : if Region.wanted o (yielded ops a.tmps) = true then Oper.wp P o a w K Q else E := by
  have hw : Region.wanted o (yielded ops a.tmps) = true := by simp [Region.wanted, hgd]
  rw [if_pos hw]
  cases hq : P.info? t with
  | none => simp [hq] at hz
  | some i =>
    have hz' : i.zero = some (.agg z) := by simpa [hq] using hz
    have hrun : (Instr.alloc t true (.tuple #[])).run P w = .ok (.pointer (some ⟨w.heap.size, 0, none⟩)) (w.alloc (.cells z t)) := by
      simp [Instr.alloc, zeroValue, typeInfo, hq, hz', newVar, newRow, Value.cells]
    unfold Oper.wp execOp
    simp only [ho, Sem.run_bind, hrun, Result.andThen_ok, Sem.run_pure]
    exact h
/-- a variable of a struct's type, made full: one step of a region -/
theorem stp_box {t : TypeId} {cs : Array Value} (hgd : o.guard = none) (x : Operand) (ho : o.op = .box t x) (hx : a.eval x = .agg cs)
    (h : K (a.put o.dst (.pointer (some ⟨w.heap.size, 0, none⟩))) (w.alloc (.cells cs t))) : if Region.wanted o (yielded ops a.tmps) = true then Oper.wp P o a w K Q else E := by
  have hw : Region.wanted o (yielded ops a.tmps) = true := by simp [Region.wanted, hgd]
  rw [if_pos hw]
  have hrun : (Instr.box t (.agg cs)).run P w = .ok (.pointer (some ⟨w.heap.size, 0, none⟩)) (w.alloc (.cells cs t)) := by
    simp [Instr.box, newVar, newRow, Value.cells]
  unfold Oper.wp execOp
  simp only [ho, hx, Sem.run_bind, hrun, Result.andThen_ok, Sem.run_pure]
  exact h
/-- a struct is stored: one step of a region -/
theorem stp_storeP {t g e n off : Nat} {cs cur : Array Value} (hb : Blk w g e cur) (ht : Agg P t n) (hs : St n cs) (hl : off + n ≤ cur.size) (hgd : o.guard = none) (x y : Operand) (ho : o.op = .store t x y)
    (hx : a.eval x = .pointer (some ⟨g, off, none⟩)) (hy : a.eval y = .agg cs) (hd : o.dst = none) (h : K a (w.setRow g (splice cur off cs.toList))) :
    if Region.wanted o (yielded ops a.tmps) = true then Oper.wp P o a w K Q else E := by
  have hw : Region.wanted o (yielded ops a.tmps) = true := by simp [Region.wanted, hgd]
  rw [if_pos hw]
  have hsz : cs.toList.length = n := by rw [Array.length_toList, hs.size]
  have hrun := run_storeCells_at P g off e cs.toList 0 cur w hb (by rw [hsz]; simpa using hl) hs.one
  simp only [Nat.add_zero] at hrun
  have ht2 := ht.2
  cases hq : P.info? t with
  | none => simp [hq] at ht2
  | some i =>
    have hs' : i.size = cs.toList.length := by rw [hsz]; simpa [hq] using ht2
    unfold Oper.wp execOp
    simp only [ho, hx, hy, Instr.storeAt, Instr.sureAddr, Sem.run_bind, Sem.run_pure, Result.andThen_ok]
    have hst : (storeVar t ⟨g, off, none⟩ (.agg cs)).run P w = .ok () (w.setRow g (splice cur off cs.toList)) := by
      simp only [storeVar, Sem.run_bind, sizeOf, typeInfo]
      simp only [Array.length_toList] at hs'
      simp [hq, hs', Value.cells, hrun, splice]
    rw [hst]
    simp only [Result.andThen_ok, Sem.run_pure]
    simpa [hd, Act.put, Oper.upon] using h
theorem yields_build {S : World → Prop} {t : TypeId} {parts : Array (Nat × Operand)} {cells : Array Value} (hw : Region.wanted o (yielded ops a.tmps) = true) (ho : o.op = .build t parts)
    (hb : P.built t (parts.toList.map fun p => (p.1, a.eval p.2)) = some cells) : YieldsIf P ops S o (.agg cells) a := Or.inl ⟨hw, fun W hW => by
  replace hb : P.built t (parts.map fun (i, x) => (i, a.eval x)).toList = some cells := by rw [Array.toList_map]; exact hb
  unfold execOp
  simp only [ho, Sem.run_bind, run_build (P := P) W t _ cells hb, Result.andThen_ok, Sem.run_pure]⟩
theorem wpl_buildN {rest : List Oper} {t : TypeId} {parts : Array (Nat × Operand)} {cells : Array Value} (hgd : o.guard = none) (ho : o.op = .build t parts)
    (hb : P.built t (parts.toList.map fun p => (p.1, a.eval p.2)) = some cells) (h : wpList P ops Q rest (a.put o.dst (.agg cells)) w) : wpList P ops Q (o :: rest) a w := by
  replace hb : P.built t (parts.map fun (i, x) => (i, a.eval x)).toList = some cells := by rw [Array.toList_map]; exact hb
  refine wpList_plain hgd fun K hK => ?_
  refine wp_build t parts ho (by rw [hb]; rfl) ?_
  rw [hb]
  exact hK _ _ h
end
theorem fill_at (l : List Value) (n off : Nat) (Z : Array Value) (h : off + n + l.length ≤ Z.size) : ((l.zipIdx n).foldl (fun cs x => cs.setIfInBounds (off + x.2) x.1) Z) = splice Z (off + n) l := by
  induction l generalizing n Z with
  | nil =>
    simp only [List.zipIdx_nil, List.foldl_nil, splice, List.length_nil, Nat.add_zero, List.append_nil, List.take_append_drop, Array.toArray_toList]
  | cons x r ih =>
    simp only [List.length_cons] at h
    simp only [List.zipIdx_cons, List.foldl_cons]
    rw [ih (n + 1) _ (by simp; omega)]
    have e := list_seg_step Z.toList (off + n) x r (by simp; omega)
    unfold splice
    rw [Array.toList_setIfInBounds, List.length_cons]
    rw [show off + (n + 1) = off + n + 1 by omega, e]
theorem fill_one (place : Nat → Option (Nat × Nat)) (Z : Array Value) (i off n : Nat) (v : Value) (rest : List (Nat × Value)) (hp : place i = some (off, n)) (hv : v.cells.size = n) (hl : off + n ≤ Z.size) :
    Instr.fill place Z ((i, v) :: rest) = Instr.fill place (splice Z off v.cells.toList) rest := by
  have hf := fill_at v.cells.toList 0 off Z (by rw [Array.length_toList, hv]; omega)
  have hz : v.cells.zipIdx.foldl (fun cs x => cs.setIfInBounds (off + x.2) x.1) Z = splice Z off v.cells.toList := by
    rw [← Array.foldl_toList, Array.toList_zipIdx]
    simpa using hf
  rw [Instr.fill, hp]
  simp only [hv]
  rw [if_neg (by simp; omega)]
  exact congrArg (fun z => Instr.fill place z rest) hz
def zNd : List Value := List.replicate 64 (Value.int .u8 0) ++ [Value.string ⟨#[]⟩, Value.string ⟨#[]⟩]
theorem fold_fillA (cs Z : Array Value) (n : Nat) (hn : cs.size = n) (h : Z.size = n) : Array.foldl (fun cs x => cs.setIfInBounds x.2 x.1) Z cs.zipIdx 0 n = cs := by
  subst hn
  have e := fold_fill cs.toList Z (by simpa using h)
  rw [← Array.toList_zipIdx, Array.foldl_toList] at e
  simpa using e
/-- a node, built of its parts -/
theorem built_node (x : Nd) (hx : x.ok) : Try.prog.built 60 [(0, .agg (numsA .u8 x.l)), (1, .agg (numsA .u8 x.r)), (2, .agg #[.string x.n, .string x.v])] = some x.enc.toArray := by
  have hb : ∀ parts, Try.prog.built 60 parts = Instr.fill (fun i => #[(0, 32), (32, 32), (64, 2)][i]?) zNd.toArray parts := fun parts => by kernel_rfl
  have hnl : (nums .u8 x.l).length = 32 := by rw [nums_length, hx.1.1]
  have hnr : (nums .u8 x.r).length = 32 := by rw [nums_length, hx.2.1.1]
  have e1 : splice zNd.toArray 0 (nums .u8 x.l) = (nums .u8 x.l ++ zNd.drop 32).toArray := by
    have := splice_next [] zNd (nums .u8 x.l) (o := 0) rfl
    rw [hnl] at this
    simpa using this
  have e2 : splice (nums .u8 x.l ++ zNd.drop 32).toArray 32 (nums .u8 x.r) = (nums .u8 x.l ++ nums .u8 x.r ++ zNd.drop 64).toArray := by
    have := splice_next (nums .u8 x.l) (zNd.drop 32) (nums .u8 x.r) (o := 32) hnl
    rw [hnr, List.drop_drop] at this
    exact this
  have e3 : splice (nums .u8 x.l ++ nums .u8 x.r ++ zNd.drop 64).toArray 64 [.string x.n, .string x.v] = x.enc.toArray := by
    have := splice_next (nums .u8 x.l ++ nums .u8 x.r) (zNd.drop 64) [.string x.n, .string x.v] (o := 64) (by rw [List.length_append, hnl, hnr])
    rw [show (zNd.drop 64).drop ([Value.string x.n, Value.string x.v]).length = [] from rfl, List.append_nil] at this
    exact this
  have c1 : (Value.agg (numsA .u8 x.l)).cells.toList = nums .u8 x.l := rfl
  have c2 : (Value.agg (numsA .u8 x.r)).cells.toList = nums .u8 x.r := rfl
  have c3 : (Value.agg #[.string x.n, .string x.v]).cells.toList = [.string x.n, .string x.v] := rfl
  have z1 : zNd.length = 66 := rfl
  rw [hb, fill_one _ _ 0 0 32 _ _ rfl (by rw [← Array.length_toList, c1, hnl]) (by rw [List.size_toArray, z1]; decide), c1, e1,
    fill_one _ _ 1 32 32 _ _ rfl (by rw [← Array.length_toList, c2, hnr]) (by rw [List.size_toArray, List.length_append, hnl]; decide), c2, e2,
    fill_one _ _ 2 64 2 _ _ rfl rfl (by rw [List.size_toArray, List.length_append, List.length_append, hnl, hnr]; decide), c3, e3, Instr.fill]
/-- a number and a whole array in a variable are the results -/
theorem results_tb {P : Program} {w : World} {fn : Func} {c d : Tmp} {t g e n : Nat} {cs : Array Value} (hr : fn.results = #[.tmp d, .cell c t]) (tmps : Array Value) (hp : tmps.getD c undef = .pointer (some ⟨g, 0, none⟩)) (ht : Agg P t n) (hn : cs.size = n) (hb : Blk w g e cs) {v : Value} (hv : tmps.getD d undef = v) :
    (results fn tmps).run P w = .ok (.tuple #[v, .agg cs]) w := by
  have hl := run_loadB (P := P) hb ht hn
  have hp' : tmps[c]?.getD undef = .pointer (some ⟨g, 0, none⟩) := by simpa using hp
  have hv' : tmps[d]?.getD undef = v := by simpa using hv
  simp [results, hr, hp', hv', asAddr, hl]
theorem rowNd : Row Try.prog tNd 30 60 96 := Row.mk' Try.underlying30 (.agg zNd.toArray) (by kernel_rfl) rfl (by decide) (by decide)
theorem rd_nd {w : World} {S : Nat → Prop} {A : Option Addr} {c n : Nat} {xs : List Nd} (h : RdL tNd w S (.slice A n c) xs) : Rd w S tNd.sz A xs.length (xs.flatMap tNd.enc) := by
  obtain ⟨A', cap, e, h1, h2, h3, h4⟩ := h
  injection e with e1 e2 e3
  subst e1
  exact h3
theorem ok_nd {w : World} {S : Nat → Prop} {v : Value} {xs : List Nd} (h : RdL tNd w S v xs) : ∀ y ∈ xs, tNd.ok y := by
  obtain ⟨A', cap, e, h1, h2, h3, h4⟩ := h
  exact h4
end Go.Proofs.Ytikpakhccmdmcaa
