/- What the walk of the law FnKeyLists needs, part 2 of 3. No condition. -/
import Derived.Laws.Externs
import Derived.Sort.Grow
import Derived.Shelf.SlSortCmp.InsertionK
import Derived.Laws.StructEq
import Derived.Shelf.SlLaysF0
import Derived.Test.YtdjclllnmclocaaProg
import Derived.Shelf.SlSortCmp.NoneTotal
import Derived.BigFrame
import Derived.Test.YtdjclllnmclocaaPFnKeyLists1
/- Rows of keys, key by key: read out of an owned row, written, shut again; struck runs of equal keys. No condition. -/
namespace Go.Proofs.Ytdjclllnmclocaa
open Go.RowKit
set_option linter.unusedVariables false
set_option linter.unusedSimpArgs false

def AtK (cur : Array Value) (i : Nat) (x : List Int) : Prop := ∀ j u, (nums .u8 x)[j]? = some u → cur[i * 32 + j]? = some u
theorem flat_key (xs : List (List Int)) (hok : ∀ x ∈ xs, K32 x) (i : Nat) (hi : i < xs.length) (j : Nat) (hj : j < 32) : (xs.flatMap tKey.enc)[i * 32 + j]? = (nums .u8 xs[i])[j]? := by
  have := flatN_at (sz := 32) (xs.map tKey.enc) (by intro es hes; obtain ⟨x, hx, rfl⟩ := List.mem_map.1 hes; exact tKey.len _ (hok x hx)) i (tKey.enc xs[i]) (by rw [List.getElem?_map, List.getElem?_eq_getElem hi]; rfl) j hj
  rw [← List.flatMap_def] at this
  exact this
theorem own_of_atK {w : World} {g t cap base : Nat} {cur : Array Value} {xs : List (List Int)} (hb : Blk w g t cur) (hg : base ≤ g) (hs : cur.size = cap * 32) (hn : xs.length ≤ cap) (hc : cap ≤ maxLen) (hl : xs.length ≤ 140737488355328) (hok : ∀ x ∈ xs, tKey.ok x) (hat : ∀ i (hi : i < xs.length), AtK cur i xs[i]) :
    Own tKey t w base (.slice (some ⟨g, 0, none⟩) xs.length cap) xs := by
  have hfl := flat_length tKey xs hok
  refine ⟨⟨hfl, .inr ⟨g, cap, cur, rfl, hg, hb, hn, hc, hs, ?_⟩⟩, hl, hok⟩
  apply List.ext_getElem?
  intro q
  show (List.take (xs.length * 32) cur.toList)[q]? = _
  by_cases hq : q < xs.length * 32
  · rw [List.getElem?_take_of_lt hq, Array.getElem?_toList]
    have hi : q / 32 < xs.length := by omega
    have hj : q % 32 < 32 := by omega
    have hlen : (nums .u8 xs[q / 32]).length = 32 := by rw [nums_length, (show K32 _ from hok _ (List.getElem_mem hi)).1]
    have h1 := hat _ hi (q % 32) _ (List.getElem?_eq_getElem (by rw [hlen]; exact hj))
    have h2 := flat_key xs hok _ hi (q % 32) hj
    rw [show q / 32 * 32 + q % 32 = q by omega] at h1 h2
    rw [h1, h2, List.getElem?_eq_getElem (by rw [hlen]; exact hj)]
  · rw [List.getElem?_eq_none (by simp; omega), List.getElem?_eq_none (by rw [hfl]; show xs.length * 32 ≤ q; omega)]
theorem at_of_ownK {w : World} {t base : Nat} {v : Value} {xs : List (List Int)} (h : Own tKey t w base v xs) (h0 : 0 < xs.length) :
    ∃ g cap cur, v = .slice (some ⟨g, 0, none⟩) xs.length cap ∧ base ≤ g ∧ g < w.heap.size ∧ Blk w g t cur ∧ cur.size = cap * 32 ∧ xs.length ≤ cap ∧ cap ≤ maxLen ∧ ∀ i (hi : i < xs.length), AtK cur i xs[i] := by
  have hbl := h.base_le
  obtain ⟨⟨hl, hx⟩, h2, h3⟩ := h
  rcases hx with ⟨rfl, hz⟩ | ⟨g, cap, cur, rfl, hb, hg, hc, hm, hs, ht⟩
  · omega
  · refine ⟨g, cap, cur, rfl, hb, (hbl g rfl).2, hg, hs, hc, hm, fun i hi j u hu => ?_⟩
    have hj : j < 32 := by
      have := (List.getElem?_eq_some_iff.1 hu).1
      rw [nums_length, (show K32 _ from h3 _ (List.getElem_mem hi)).1] at this
      exact this
    have h2 := flat_key xs h3 i hi j hj
    rw [← ht] at h2
    have hz : i * 32 + j < xs.length * tKey.sz := by show i * 32 + j < xs.length * 32; omega
    rw [List.getElem?_take_of_lt hz, Array.getElem?_toList] at h2
    rw [h2, hu]
theorem at_putK (cur : Array Value) (i : Nat) (x : List Int) (hx : x.length = 32) (h : i * 32 + 32 ≤ cur.size) : AtK (splice cur (i * 32) (nums .u8 x)) i x := fun j u hu => by
  have hj := (List.getElem?_eq_some_iff.1 hu).1
  rw [splice_in cur (i * 32) (nums .u8 x) (by rw [nums_length, hx]; exact h) j hj]
  exact hu
theorem at_farK {cur : Array Value} {i p : Nat} {x f : List Int} (hx : x.length = 32) (hf : f.length = 32) (h : i * 32 + 32 ≤ cur.size) (hp : p ≠ i) (ha : AtK cur p f) : AtK (splice cur (i * 32) (nums .u8 x)) p f := fun j u hu => by
  have hj := (List.getElem?_eq_some_iff.1 hu).1
  rw [nums_length, hf] at hj
  rw [splice_out _ _ _ (by rw [nums_length, hx]; exact h) _ (by rw [nums_length, hx]; omega)]
  exact ha j u hu
/-- keys of one's own are made empty -/
theorem run_clearK {w : World} {g off n : Nat} {cur : Array Value} {t : TypeId} (hn : 0 < n) (hb : Blk w g t cur) (h : off + n * 32 ≤ cur.size) :
    ∃ cs, cs.size = cur.size ∧ (∀ q, q < off → cs[q]? = cur[q]?) ∧ ∀ ty c, (Builtin.clear_ #[47] ty #[.slice (some ⟨g, off, none⟩) n c]).run Try.prog w = .ok (.tuple #[]) (w.setRow g cs) := by
  have hz : ∀ W : World, (zeroValue 28).run Try.prog W = .ok (.agg (numsA .u8 (List.replicate 32 0))) W := by
    intro W
    have hi : (Try.prog.info? 28).map (·.zero) = some (some (.agg (numsA .u8 (List.replicate 32 0)))) := by kernel_rfl
    cases hq : Try.prog.info? 28 with
    | none => simp [hq] at hi
    | some i =>
      have hz : i.zero = some (.agg (numsA .u8 (List.replicate 32 0))) := by simpa [hq] using hi
      simp [zeroValue, typeInfo, hq, hz]
  obtain ⟨Z, hZ⟩ : ∃ Z, numsA .u8 (List.replicate 32 0) = Z := ⟨_, rfl⟩
  have hZs : Z.size = 32 := by rw [← hZ]; simp [numsA, nums]
  have hZ1 : ∀ u ∈ Z.toList, u.oneCell' = true := by rw [← hZ]; intro u hu; exact one_nums _ _ u (by simpa [numsA] using hu)
  rw [hZ] at hz
  clear hZ
  obtain ⟨m, rfl⟩ : ∃ m, n = m + 1 := ⟨n - 1, by omega⟩
  have hl : (Builtin.zeroCells Z (m + 1)).toList.length = (m + 1) * 32 := by simp [size_zeroCells, hZs]
  have h1 : ∀ u ∈ (Builtin.zeroCells Z (m + 1)).toList, u.oneCell' = true := by
    intro u hu
    simp only [Builtin.zeroCells, Array.toList_map, List.mem_map] at hu
    obtain ⟨i, _, rfl⟩ := hu
    have hlt : i % Z.size < Z.size := Nat.mod_lt _ (by omega)
    rw [getElem!_pos Z (i % Z.size) hlt]
    exact hZ1 _ (Array.getElem_mem_toList hlt)
  have hst := run_storeCells_at Try.prog g off t (Builtin.zeroCells Z (m + 1)).toList 0 cur w hb (by rw [hl]; omega) h1
  simp only [Nat.add_zero] at hst
  refine ⟨splice cur off (Builtin.zeroCells Z (m + 1)).toList, splice_size _ _ _ (by rw [hl]; omega), fun q hq => splice_out _ _ _ (by rw [hl]; omega) _ (.inl hq), fun ty c => ?_⟩
  simp [Builtin.clear_, run_underlying Try.underlying47, hz, Value.cells, hst, splice]
theorem compactL_sub : ∀ (L : List (List Int)) (x : List Int), x ∈ compactL L → x ∈ L
  | [], x, h => by simp [compactL] at h
  | [y], x, h => by simpa [compactL] using h
  | y :: z :: r, x, h => by
    have ih := compactL_sub (z :: r) x
    rw [compactL] at h
    split at h
    · exact List.mem_cons_of_mem _ (ih h)
    · rcases List.mem_cons.1 h with rfl | h
      · exact List.mem_cons_self
      · exact List.mem_cons_of_mem _ (ih h)
/-- one more key behind the others -/
theorem compactL_snoc (z : List Int) : ∀ (l : List (List Int)) (h : l ≠ []), compactL (l ++ [z]) = compactL l ++ (if z = l.getLast h then [] else [z])
  | [], h => absurd rfl h
  | [x], _ => by
    show compactL [x, z] = [x] ++ _
    rw [compactL, List.getLast_singleton]
    by_cases e : x = z
    · subst e; simp [compactL]
    · rw [if_neg e, if_neg (fun q => e q.symm)]; rfl
  | x :: y :: r, _ => by
    have ih := compactL_snoc z (y :: r) (by simp)
    have hg : (x :: y :: r).getLast (by simp) = (y :: r).getLast (by simp) := List.getLast_cons (by simp)
    rw [hg]
    show compactL (x :: y :: (r ++ [z])) = compactL (x :: y :: r) ++ _
    rw [compactL, compactL]
    rw [List.cons_append] at ih
    by_cases e : x = y
    · rw [if_pos e, if_pos e, ih]
    · rw [if_neg e, if_neg e, ih]; rfl
theorem compactL_step (L : List (List Int)) (j : Nat) (h0 : 0 < j) (h : j < L.length) : compactL (L.take (j + 1)) = compactL (L.take j) ++ (if L[j] = L[j - 1] then [] else [L[j]]) := by
  have hne : L.take j ≠ [] := by
    intro e
    have := congrArg List.length e
    rw [List.length_take, List.length_nil] at this
    omega
  have hg : (L.take j).getLast hne = L[j - 1] := by
    rw [List.getLast_eq_getElem, List.getElem_take]
    congr 1
    rw [List.length_take]
    omega
  rw [List.take_succ_eq_append_getElem h, compactL_snoc _ _ hne, hg]
/-- nothing is struck of what holds no equal neighbours -/
theorem compactL_same {L : List (List Int)} : ∀ (j : Nat), j ≤ L.length → (∀ k (h : k + 1 < L.length), k + 1 < j → L[k + 1] ≠ L[k]) → compactL (L.take j) = L.take j
  | 0, _, _ => by simp [compactL]
  | 1, h, _ => by
    cases L with
    | nil => simp at h
    | cons x r => simp [compactL]
  | j + 2, h, k => by
    rw [compactL_step L (j + 1) (by omega) (by omega), compactL_same (j + 1) (by omega) (fun q hq hlt => k q hq (by omega)), if_neg (by have := k j (by omega) (by omega); simpa using this)]
    exact (List.take_succ_eq_append_getElem (by omega)).symm
end Go.Proofs.Ytdjclllnmclocaa
/- A copy of a list of keys: the program. No condition. -/
namespace Go.Proofs.Ytdjclllnmclocaa
open Go.RowKit
set_option linter.unusedVariables false
set_option linter.unusedSimpArgs false

theorem rowKey7 : Row Try.prog tKey 47 28 32 := Row.mk' Try.underlying47 (.agg (numsA .u8 (List.replicate 32 0))) (by kernel_rfl) rfl (by decide) (by decide)
set_option maxHeartbeats 400000 in
theorem cloneK_any (v : Value) (xs : List (List Int)) (w : World) (S : Nat → Prop) (h : RdL tKey w S v xs) (hl : xs.length * 32 ≤ 140737488351232) :
    Calls Try.prog 79 #[v] w fun e w' => ∃ v', e = .returned v' ∧ Own tKey 28 w' w.heap.size v' xs ∧ Ext w w' := by
  obtain ⟨A, cap, rfl, hcap, hlen, hrd, hok⟩ := h
  have Hrd := Lib.hid hrd
  have Hok := Lib.hid hok
  clear hrd hok
  rcases A with _ | ad
  · have h0 : xs.length = 0 := by
      rcases Nat.eq_zero_or_pos xs.length with h0 | h0
      · exact h0
      · obtain ⟨g, o, h, _⟩ := Hrd.out.2 h0
        cases h
    obtain rfl : xs = [] := List.eq_nil_of_length_eq_zero h0
    have he : ∀ W : World, (binOp .eql 47 (.slice none 0 cap) (.slice none 0 0)).run Try.prog W = .ok (.bool true) W := fun W => Lib.run_eql_slice_nil W 47 _ none 0 cap 0 0 Try.underlying47
    go_enter Try.func79, Try.ntmps79
    go_wp2_with fail
    go_ret
    exact ⟨_, rfl, Own.nil _ _ _ _, Ext.refl _⟩
  · have he : ∀ W : World, (binOp .eql 47 (.slice (some ad) xs.length cap) (.slice none 0 0)).run Try.prog W = .ok (.bool false) W := fun W => Lib.run_eql_slice_nil W 47 _ (some ad) xs.length cap 0 0 Try.underlying47
    go_enter Try.func79, Try.ntmps79
    go_wp2_with (at_builtin; refine wpl_append rowKey7 rfl _ _ rfl rfl (Own.empty tKey _ 28 w.heap.size (Nat.le_refl _)) _ _ rfl rfl (Hrd.out.ext (by decide) (ext_alloc _ _)) Hok.out (by simp; omega) (by simp) ?_; intro v1 w1 ho1 hg1 hat1; obtain ⟨A1, c1, rfl⟩ := ho1.shape; have HO := Lib.hid ho1; have HG := Lib.hid hg1; clear ho1 hg1 hat1)
    go_ret
    exact ⟨_, rfl, HO.out, (ext_alloc _ _).grown HG.out (fun k hk => Nat.le_of_eq (Option.some.inj hk))⟩

end Go.Proofs.Ytdjclllnmclocaa
/- The peaks of a list: the program. No condition. -/
namespace Go.Proofs.Ytdjclllnmclocaa
open Go.RowKit
set_option linter.unusedVariables false
set_option linter.unusedSimpArgs false

theorem yields_loadSP {P : Program} {ops : Array Oper} {op : Oper} {a : Act} {S : World → Prop} {t : Nat} (g o : Nat) (cs : List Value) (ht : Agg P t cs.length) (hc : ∀ W, S W → ∀ j u, cs[j]? = some u → W.cell? ⟨g, o + j, none⟩ = some u) (hw : Region.wanted op (yielded ops a.tmps) = true) (x : Operand) (ho : op.op = .load t x) (hx : a.eval x = .pointer (some ⟨g, o, none⟩)) :
    YieldsIf P ops S op (.agg cs.toArray) a := Or.inl ⟨hw, fun W hW => by
  have hl := run_loadVar_at (P := P) (w := W) (t := t) ⟨g, o, none⟩ cs ht (fun j u hu => by rw [Addr.add_lit]; exact hc W hW j u hu)
  unfold execOp
  simp only [ho, hx, Instr.loadAt, Instr.sureAddr, Sem.run_bind, Sem.run_pure, Result.andThen_ok, hl]⟩
theorem yields_loadBSP {P : Program} {ops : Array Oper} {o : Oper} {a : Act} {S : World → Prop} {t g e n : Nat} {cs : Array Value} (hb : ∀ W, S W → Blk W g e cs) (ht : Agg P t n) (hn : cs.size = n) (hw : Region.wanted o (yielded ops a.tmps) = true) (x : Operand) (ho : o.op = .load t x) (hx : a.eval x = .pointer (some ⟨g, 0, none⟩)) :
    YieldsIf P ops S o (.agg cs) a := Or.inl ⟨hw, fun W hW => by
  unfold execOp
  simp only [ho, hx, Instr.loadAt, Instr.sureAddr, Sem.run_bind, Sem.run_pure, Result.andThen_ok, run_loadB (hb W hW) ht hn]⟩
end Go.Proofs.Ytdjclllnmclocaa
/- Peaks and keys with codes; a further leaf: the program. No condition. -/
namespace Go.Proofs.Ytdjclllnmclocaa
open Go.RowKit
set_option linter.unusedVariables false
set_option linter.unusedSimpArgs false

theorem results_kc {P : Program} {w : World} {fn : Func} {c d : Tmp} {t g e n : Nat} {cs : Array Value} (hr : fn.results = #[.cell c t, .tmp d]) (tmps : Array Value) (hp : tmps.getD c undef = .pointer (some ⟨g, 0, none⟩)) (ht : Agg P t n) (hn : cs.size = n) (hb : Blk w g e cs) {v : Value} (hv : tmps.getD d undef = v) :
    (results fn tmps).run P w = .ok (.tuple #[.agg cs, v]) w := results_blkB2 hr tmps hp ht hn hb hv
end Go.Proofs.Ytdjclllnmclocaa
/- The program's functions of keys: their texts, read back, exclusive-or, shared bits. No condition. -/
namespace Go.Proofs.Ytdjclllnmclocaa
open Go.RowKit
set_option linter.unusedVariables false
set_option linter.unusedSimpArgs false

/-- the digits -/
abbrev D16 : ByteArray := { data := #[48, 49, 50, 51, 52, 53, 54, 55, 56, 57, 97, 98, 99, 100, 101, 102] }
theorem fin16 {n : Int} (h : 0 ≤ n ∧ n ≤ 15) : ∃ k : Fin 16, n = (k.1 : Int) := ⟨⟨n.toNat, by omega⟩, by show n = (n.toNat : Int); omega⟩
theorem run_idxS (s : ByteArray) (k : IntKind) (i : Nat) (hi : i < s.size) (W : World) : (Instr.index 9 (.string s) (.int k i)).run Try.prog W = .ok (.int .u8 (s.data.toList.getD i 0).toNat) W := by
  rw [run_index_string W _ s k i Try.underlying9]
  rw [dif_pos (by omega)]
  simp only [bytes_getD, Int.toNat_natCast]
theorem run_digit {n : Int} (h : 0 ≤ n ∧ n ≤ 15) (k : IntKind) (W : World) : (Instr.index 9 (.string D16) (.int k n)).run Try.prog W = .ok (.int .u8 (hexD n)) W := by
  obtain ⟨q, rfl⟩ := fin16 h
  rw [run_idxS D16 k q.1 q.2 W]
  have key : ∀ q : Fin 16, ((D16.data.toList.getD q.1 0).toNat : Int) = hexD (q.1 : Int) := by decide
  rw [key q]
theorem firstIdx_dig {n : Int} (h : 0 ≤ n ∧ n ≤ 15) : firstIdx D16 (hexD n).toNat.toUInt8 = n := by
  obtain ⟨q, rfl⟩ := fin16 h
  have key : ∀ q : Fin 16, firstIdx D16 (hexD (q.1 : Int)).toNat.toUInt8 = (q.1 : Int) := by decide
  exact key q
theorem and15 {b : Int} (h : 0 ≤ b ∧ b ≤ 255) : bits .and .u8 b 15 = b % 16 := by
  obtain ⟨a, rfl, ha⟩ := byteN h
  have key : ∀ a : Fin 256, bits .and .u8 ((a.1 : Nat) : Int) 15 = ((a.1 : Nat) : Int) % 16 := by decide +kernel
  exact key ⟨a, ha⟩
set_option maxHeartbeats 1000000 in
set_option maxRecDepth 100000 in
theorem idxLite_any (n : Int) (h : 0 ≤ n ∧ n ≤ 15) (w : World) : Calls Try.prog 91 #[.string D16, .int .u8 (hexD n)] w fun e w' => e = .returned (.int .i64 n) ∧ w = w' := by
  have hx : ∀ W, (callFunc 108 #[.string D16, .int .u8 (hexD n)]).run Try.prog W = .ok (.value (.int .i64 n)) W := fun W => by
    rw [run_callFunc_extern Try.func108 (by kernel_rfl) (by kernel_rfl) (by kernel_rfl) (e := Extern.BytealgIndexByte.indexByte) (by kernel_rfl), run_indexByte_string, firstIdx_dig h]
    rfl
  go_enter Try.func91, Try.ntmps91
  go_wp2
  go_ret
  exact ⟨rfl, rfl⟩
set_option maxHeartbeats 1000000 in
set_option maxRecDepth 100000 in
theorem idxByte_any (n : Int) (h : 0 ≤ n ∧ n ≤ 15) (w : World) : Calls Try.prog 62 #[.string D16, .int .u8 (hexD n)] w fun e w' => e = .returned (.int .i64 n) ∧ w = w' := by
  have hc := fun W => idxLite_any n h W
  generalize hexD n = c at hc ⊢
  go_enter Try.func62, Try.ntmps62
  go_wp2_with fail
  refine (hc _).mono ?_
  rintro e w' ⟨rfl, rfl⟩
  go_wp2
  go_ret
  exact ⟨rfl, rfl⟩
set_option maxHeartbeats 1000000 in
set_option maxRecDepth 100000 in
theorem isDigits_any (t : List Int) (ht : ∀ c ∈ t, ∃ n, 0 ≤ n ∧ n ≤ 15 ∧ c = hexD n) (hl : t.length ≤ 1000) (w : World) : Calls Try.prog 61 #[.string (strOfNums t)] w fun e w' => e = .returned (.bool true) ∧ w = w' := by
  have hat : ∀ i (hi : i < t.length) W, (Instr.index 9 (.string (strOfNums t)) (.int .i64 i)).run Try.prog W = .ok (.int .u8 t[i]) W := fun i hi W => by
    rw [run_idxS _ _ _ (by rw [strOfNums_size]; exact hi), strOfNums_data]
    obtain ⟨n, h0, h1, h2⟩ := ht _ (List.getElem_mem hi)
    have h3 := hexD_ok ⟨h0, h1⟩
    rw [List.getD_eq_getElem?_getD, List.getElem?_map, List.getElem?_eq_getElem hi, h2]
    simp
    omega
  have HAT := Lib.hid hat
  have HT := Lib.hid ht
  have hsz := strOfNums_size t
  obtain ⟨n, hn⟩ : ∃ n, t.length = n := ⟨_, rfl⟩
  have HN := Lib.hid hn
  rw [hn] at hsz
  generalize strOfNums t = T at HAT hsz ⊢
  have hn9 : n ≤ 1000 := by omega
  clear hat ht hl hn
  go_enter Try.func61, Try.ntmps61
  go_wp2
  go_loopw [3, 6] (fun _ i wr => ∃ k : Nat, k ≤ n ∧ i = .int .i64 k ∧ wr = w) (fun _ i _ => n - (intOf i).toNat)
  case atStart => exact ⟨0, by omega, rfl, rfl⟩
  case round =>
    obtain ⟨k, hk, rfl, rfl⟩ := hrel
    by_cases hlt : k < n
    · have hkI : (k : Int) < (n : Int) := by omega
      have hk0 : (0 : Int) ≤ (k : Int) := by omega
      have hi := HAT.out k (by rw [HN.out]; exact hlt)
      obtain ⟨q, h0, h1, h2⟩ := HT.out _ (List.getElem_mem (show k < t.length by rw [HN.out]; exact hlt))
      have hc := idxByte_any q ⟨h0, h1⟩
      rw [h2] at hi
      generalize hexD q = c at hi hc
      clear h2
      have HC := Lib.hid hc
      clear hc
      go_wp2_with fail
      refine (HC.out _).mono ?_
      rintro e w' ⟨rfl, rfl⟩
      have hq : ¬ q < 0 := by omega
      go_wp2
      go_roundw
      case rel => exact ⟨k + 1, by omega, by go_num, by simp⟩
      case measure => simp [intOf]; omega
    · obtain rfl : k = n := by omega
      go_wp2
      go_ret
      exact ⟨rfl, rfl⟩
theorem rd_two8 {w : World} {a b : Int} (ha : 0 ≤ a ∧ a ≤ 255) (hb : 0 ≤ b ∧ b ≤ 255) (t : TypeId) : Rd (w.alloc (.cells #[.int .u8 a, .int .u8 b] t)) (fun _ => True) tByte.sz (some ⟨w.heap.size, 0, none⟩) [a, b].length ([a, b].flatMap tByte.enc) := by
  refine ⟨rfl, fun _ => ⟨_, 0, rfl, trivial, fun j u hu => ?_⟩⟩
  rw [Nat.zero_add, (Blk.new w t _).cell]
  simpa [tByte] using hu
set_option maxHeartbeats 1000000 in
set_option maxRecDepth 100000 in
theorem keyText_any (k : List Int) (hk : K32 k) (w : World) : Calls Try.prog 24 #[.agg (numsA .u8 k)] w fun e w' => e = .returned (.string (strOfNums (textK k))) ∧ Ext w w' := by
  have hks := sizeN (k := .u8) hk.1
  have HK := Lib.hid hk
  have B0 := Lib.hid (Blk.new w 28 (numsA .u8 k))
  go_enter Try.func24, Try.ntmps24
  go_wp2_with (refine wpl_loadB ((Blk.new w 28 (numsA .u8 k)).alloc _) aggKey hks rfl _ rfl rfl ?_)
  go_loopw [3, 5, 8] (fun o _ i wr => ∃ q : Nat, q ≤ 32 ∧ i = .int .i64 q ∧ Own tByte 5 wr w.heap.size o (textK (k.take q)) ∧ Ext w wr) (fun _ _ i _ => 32 - (intOf i).toNat)
  case atStart => exact ⟨0, by omega, rfl, by rw [List.take_zero, textK_nil]; exact Own.empty' tByte (by simp) _ _ (by simp), (ext_alloc _ _).alloc _⟩
  case round =>
    obtain ⟨q, hq, rfl, ho, hx⟩ := hrel
    obtain ⟨C, cn, cc, rfl⟩ := ho.shape3
    have HX := Lib.hid hx
    have HO := Lib.hid ho
    clear hx ho B0
    by_cases hlt : q < 32
    · have hqI : (q : Int) < 32 := by omega
      have hq0 : (0 : Int) ≤ (q : Int) := by omega
      have hat := numsA_at .u8 k q (by rw [HK.out.1]; exact hlt)
      have hidx : (Instr.index 28 (.agg (numsA .u8 k)) (.int .i64 q)).run Try.prog wr = .ok (.int .u8 (gI k q)) wr := by
        have h1 : (isAgg 5).run Try.prog wr = .ok false wr := by kernel_rfl
        have h2 : (sizeOf 5).run Try.prog wr = .ok 1 wr := by kernel_rfl
        simp [Instr.index, asIntOf, run_underlying (show Try.prog.underlying 28 = some (.array 32 5) by kernel_rfl), hqI, hlt, part, h1, h2, hat]
      have HTS := Lib.hid (show textK (k.take (q + 1)) = textK (k.take q) ++ [hexD (gI k q / 16), hexD (gI k q % 16)] by rw [take_snoc k q (by rw [HK.out.1]; exact hlt), textK_snoc])
      have HTL := Lib.hid (show (textK (k.take q)).length ≤ 64 by rw [textK_length, List.length_take]; omega)
      have hz := HK.out.2.get q
      clear hat
      generalize gI k q = z at hidx HTS hz
      have ha := hexD_ok (n := z / 16) (by omega)
      have hb := hexD_ok (n := z % 16) (by omega)
      have hand := and15 hz
      have hd1 := fun W => run_digit (n := z / 16) (by omega) .u8 W
      have hd2 := fun W => run_digit (n := z % 16) (by omega) .u8 W
      generalize hexD (z / 16) = da at hd1 HTS ha
      generalize hexD (z % 16) = db at hd2 HTS hb
      go_wp2_with fail
      refine wp_region_held_drew (S := fun W => Ext w W) (by kernel_rfl) HX.out.drew (fun hHeld => ?_)
      iterate 7
        refine tkD 0 (by simp only [List.size_toArray, List.length_cons, List.length_nil]; rfl) (by simp only [List.getElem?_toArray, List.getElem?_cons_zero, List.getElem?_cons_succ]; rfl) (by kernel_rfl) (by exact fun _ _ _ h => h) (by first | (exact Or.inl ⟨by rfl, by intro w hSw; (try dsimp only at hSw); go_simp; with_reducible rfl⟩) | (exact Or.inr ⟨by rfl, by rfl⟩)) (by assumption) ?_
        try simp only [Act.put, List.setIfInBounds_toArray, List.set_cons_zero, List.set_cons_succ]
      refine wpAnyH_ready (rs := [7]) (by kernel_rfl) (by simp) (AllReadyH.cons (o := ?oy87) ?hy87 (fun K hK => ?sy87) AllReadyH.nil)
      case hy87 => simp only [List.getElem?_toArray, List.getElem?_cons_zero, List.getElem?_cons_succ]; rfl
      go_simp
      have hE := ext_alloc wr.drew (.cells #[.int .u8 da, .int .u8 db] 5)
      have hH2 := hHeld.trans hE
      refine hK.out _ _ hH2 (fun _ => ?_)
      clear hHeld hK K
      have hHeld := hH2
      clear hH2
      try simp only [Act.put, List.setIfInBounds_toArray, List.set_cons_zero, List.set_cons_succ]
      clear hE
      refine wpAnyH_ready (rs := [8]) (by kernel_rfl) (by simp) (AllReadyH.cons (o := ?oy98) ?hy98 (fun K hK => ?sy98) AllReadyH.nil)
      case hy98 => simp only [List.getElem?_toArray, List.getElem?_cons_zero, List.getElem?_cons_succ]; rfl
      refine stp_append rowByteA rfl _ _ rfl (v := .slice C cn cc) rfl (HO.out.drew.alloc (.cells #[.int .u8 da, .int .u8 db] 5)) _ _ rfl (ys := [da, db]) rfl (rd_two8 (by omega) (by omega) _) (by intro y hy; rcases List.mem_cons.1 hy with rfl | hy; exact ⟨by omega, by omega⟩; obtain rfl := List.mem_singleton.1 hy; exact ⟨by omega, by omega⟩) (by have := HTL.out; simp; omega) hHeld.size ?_
      intro v9 w9 ho9 hg9 hat9
      have HO9 := Lib.hid ho9
      obtain ⟨C9, n9, c9, rfl⟩ := ho9.shape3
      have hX9 := (HO.out.drew.alloc (.cells #[.int .u8 da, .int .u8 db] 5)).ext_app hHeld hg9
      clear ho9 hg9 hat9
      have hH2 := hX9
      refine hK.out _ _ hH2 (fun _ => ?_)
      clear hHeld hK K
      have hHeld := hH2
      clear hH2
      try simp only [Act.put, List.setIfInBounds_toArray, List.set_cons_zero, List.set_cons_succ]
      refine tkI 9 (by simp only [List.getElem?_toArray, List.getElem?_cons_zero, List.getElem?_cons_succ]; rfl) (by kernel_rfl) (by exact fun _ _ _ h => h) (by first | (exact Or.inl ⟨by rfl, by intro w hSw; (try dsimp only at hSw); go_simp; with_reducible rfl⟩) | (exact Or.inr ⟨by rfl, by rfl⟩)) (by assumption) ?_
      try simp only [Act.put, List.setIfInBounds_toArray, List.set_cons_zero, List.set_cons_succ]
      refine wpAnyH_done (by kernel_rfl) ?_ _
      go_wp2_with fail
      go_roundw
      case rel => exact ⟨q + 1, by omega, by go_num, by rw [HTS.out]; exact HO9.out, hHeld⟩
      case measure => simp [intOf]; omega
    · obtain rfl : q = 32 := by omega
      have hT : textK (k.take 32) = textK k := by rw [List.take_of_length_le (by rw [HK.out.1]; decide)]
      rw [hT] at HO
      have hcv := conv_str HO.out.rd
      clear hT
      obtain ⟨T, hT⟩ : ∃ T, strOfNums (textK k) = T := ⟨_, rfl⟩
      have HT := Lib.hid hT
      rw [hT] at hcv
      clear hT
      go_wp2
      go_ret
      exact ⟨by rw [HT.out]; rfl, HX.out⟩
set_option maxHeartbeats 1000000 in
set_option maxRecDepth 100000 in
theorem xorKeys_any (a b : List Int) (ha : K32 a) (hb : K32 b) (w : World) : Calls Try.prog 25 #[.agg (numsA .u8 a), .agg (numsA .u8 b)] w fun e w' => e = .returned (.agg (numsA .u8 (xorL a b))) ∧ Ext w w' := by
  have hsa := sizeN (k := .u8) ha.1
  have hsb := sizeN (k := .u8) hb.1
  have HA := Lib.hid ha
  have HB := Lib.hid hb
  have HXL := Lib.hid (fun i (h : i < 32) => xorL_at (a := a) (b := b) (by rw [ha.1, hb.1]) i (by rw [ha.1]; exact h))
  have HXO := Lib.hid (xorL_ok ha hb).1
  generalize xorL a b = X at HXL HXO ⊢
  have hzA : (Try.prog.info? 28).map (·.zero) = some (some (.agg (numsA .u8 (List.replicate 32 0)))) := by kernel_rfl
  have HZS := Lib.hid (show (numsA .u8 (List.replicate 32 0)).size = 32 by simp [numsA, nums])
  generalize numsA .u8 (List.replicate 32 0) = Z at hzA HZS
  have B0 := Lib.hid (((Blk.new w 28 (numsA .u8 a)).alloc (.cells (numsA .u8 b) 28)).alloc (.cells Z 28))
  have B1 := Lib.hid ((Blk.new' (g := w.heap.size + 1) (w := w.alloc (.cells (numsA .u8 a) 28)) (by simp) 28 (numsA .u8 b)).alloc (.cells Z 28))
  have B2 := Lib.hid (Blk.new' (g := w.heap.size + 2) (w := (w.alloc (.cells (numsA .u8 a) 28)).alloc (.cells (numsA .u8 b) 28)) (by simp) 28 Z)
  have HX := Lib.hid (((ext_alloc w (.cells (numsA .u8 a) 28)).alloc (.cells (numsA .u8 b) 28)).alloc (.cells Z 28))
  clear ha hb
  go_enter Try.func25, Try.ntmps25
  go_wp2_with (first
    | (refine wpl_alloc Z hzA rfl rfl ?_)
    | (refine wpl_loadB B1.out aggKey hsb rfl _ rfl rfl ?_))
  generalize ((w.alloc (.cells (numsA .u8 a) 28)).alloc (.cells (numsA .u8 b) 28)).alloc (.cells Z 28) = w3 at B0 B1 B2 HX ⊢
  go_loopw [5, 6, 8] (fun _ _ i wr => ∃ (q : Nat) (z : List Int), q ≤ 32 ∧ i = .int .i64 q ∧ z.length = 32 ∧ (∀ j, j < q → gI z j = xB (gI a j) (gI b j)) ∧ (∀ j, q ≤ j → gI z j = gI a j) ∧ Blk wr w.heap.size 28 (numsA .u8 z) ∧ Blk wr (w.heap.size + 2) 28 Z ∧ Ext w wr) (fun _ _ i _ => 32 - (intOf i).toNat)
  case atStart => exact ⟨0, a, by omega, rfl, HA.out.1, fun j h => by omega, fun j _ => rfl, B0.out, B2.out, HX.out⟩
  case round =>
    clear B0 B1 B2 HX
    obtain ⟨q, z, hq, rfl, hzl, hz1, hz2, hb0, hb2, hx⟩ := hrel
    have HX := Lib.hid hx
    have B0 := Lib.hid hb0
    have B2 := Lib.hid hb2
    have HZ1 := Lib.hid hz1
    have HZ2 := Lib.hid hz2
    have HZL := Lib.hid hzl
    clear hx hb0 hb2 hz1 hz2 hzl
    by_cases hlt : q < 32
    · have hqI : (q : Int) < 32 := by omega
      have hq0 : (0 : Int) ≤ (q : Int) := by omega
      have hat := numsA_at .u8 b q (by rw [HB.out.1]; exact hlt)
      have hidx : (Instr.index 28 (.agg (numsA .u8 b)) (.int .i64 q)).run Try.prog wr = .ok (.int .u8 (gI b q)) wr := by
        have h1 : (isAgg 5).run Try.prog wr = .ok false wr := by kernel_rfl
        have h2 : (sizeOf 5).run Try.prog wr = .ok 1 wr := by kernel_rfl
        simp [Instr.index, asIntOf, run_underlying (show Try.prog.underlying 28 = some (.array 32 5) by kernel_rfl), hqI, hlt, part, h1, h2, hat]
      have c0 := B0.out.num q (by rw [HZL.out]; exact hlt)
      have f0 := B0.out.free q
      rw [HZ2.out q (Nat.le_refl _)] at c0
      have hxe := xB_eq (gI a q) (gI b q)
      have BS := Lib.hid (show Blk (wr.setCell ⟨w.heap.size, q, none⟩ (.int .u8 (xB (gI a q) (gI b q)))) w.heap.size 28 (numsA .u8 (z.set q (xB (gI a q) (gI b q)))) by
        have := B0.out.set q (.int .u8 (xB (gI a q) (gI b q)))
        rwa [numsA_set] at this)
      have BS2 := Lib.hid (B2.out.far (p := ⟨w.heap.size, q, none⟩) (by show w.heap.size + 2 ≠ w.heap.size; omega) (.int .u8 (xB (gI a q) (gI b q))))
      have HXS := Lib.hid (HX.out.set (p := ⟨w.heap.size, q, none⟩) (Nat.le_refl _) (.int .u8 (xB (gI a q) (gI b q))))
      clear hat
      go_wp2
      go_roundw
      case rel =>
        refine ⟨q + 1, z.set q (xB (gI a q) (gI b q)), by omega, by go_num, by rw [List.length_set]; exact HZL.out, fun j hj => ?_, fun j hj => ?_, BS.out, BS2.out, HXS.out⟩
        · rw [gI_set _ _ _ _ (by rw [HZL.out]; exact hlt)]
          by_cases e : q = j
          · rw [if_pos e, e]
          · rw [if_neg e]; exact HZ1.out j (by omega)
        · rw [gI_set _ _ _ _ (by rw [HZL.out]; exact hlt), if_neg (by omega)]
          exact HZ2.out j (by omega)
      case measure => simp [intOf]; omega
    · obtain rfl : q = 32 := by omega
      have e : z = X := gI_ext (by rw [HZL.out, HXO.out]) (fun j hj => by rw [HZ1.out j (by rw [HZL.out] at hj; exact hj), HXL.out j (by rw [HZL.out] at hj; exact hj)])
      have HE := Lib.hid e
      have hzs := sizeN (k := .u8) HZL.out
      have hzl := HZL.out
      clear e
      go_wp2_with (first
        | (refine wpl_loadB B0.out aggKey hzs rfl _ rfl rfl ?_)
        | (refine wpl_storeN B2.out aggKey hzl HZS.out rfl _ _ rfl rfl rfl rfl ?_))
      refine bodyPost_ret (results_blk rfl _ rfl aggKey hzl (B2.out.setRow _)) rfl ?_
      exact ⟨by rw [HE.out], HX.out.setRow (by omega) _⟩
set_option maxHeartbeats 1000000 in
set_option maxRecDepth 100000 in
theorem compareKeysI_any (a b : List Int) (ha : K32 a) (hb : K32 b) (w : World) : Calls Try.prog 27 #[.agg (numsA .u8 a), .agg (numsA .u8 b)] w fun e w' => e = .returned (.int .i64 (cmpL a b)) ∧ Ext w w' := by
  have hsa := sizeN (k := .u8) ha.1
  have hsb := sizeN (k := .u8) hb.1
  have HC := Lib.hid (fun W => compareKeys_any a b ha hb W)
  have B0 := Lib.hid ((Blk.new w 28 (numsA .u8 a)).alloc (.cells (numsA .u8 b) 28))
  have B1 := Lib.hid (Blk.new' (g := w.heap.size + 1) (w := w.alloc (.cells (numsA .u8 a) 28)) (by simp) 28 (numsA .u8 b))
  have hc3 := cmpL_vals a b
  generalize cmpL a b = c at HC hc3 ⊢
  have hcw : IntKind.i64.wrap c = c := IntWalk.i64_in _ (by omega)
  clear ha hb hc3
  go_enter Try.func27, Try.ntmps27
  go_wp2_with (first
    | (refine wpl_loadB B0.out aggKey hsa rfl _ rfl rfl ?_)
    | (refine wpl_loadB B1.out aggKey hsb rfl _ rfl rfl ?_))
  refine (HC.out _).mono ?_
  rintro e w1 ⟨rfl, hx⟩
  have HX := Lib.hid (((ext_alloc w (.cells (numsA .u8 a) 28)).alloc (.cells (numsA .u8 b) 28)).trans hx)
  clear hx
  go_wp2
  go_ret
  exact ⟨rfl, HX.out⟩
end Go.Proofs.Ytdjclllnmclocaa
/- Sorted keys, each once; keys with a prefix; the nearest keys. Plain. No condition. -/
namespace Go.Proofs.Ytdjclllnmclocaa
open Go.RowKit
set_option linter.unusedVariables false
set_option linter.unusedSimpArgs false

theorem compactL_mem : ∀ (L : List (List Int)) (x : List Int), x ∈ L → x ∈ compactL L
  | [], _, h => h
  | [x], _, h => h
  | x :: y :: r, z, h => by
    rw [compactL]
    by_cases e : x = y
    · rw [if_pos e]
      rcases List.mem_cons.1 h with rfl | h
      · exact compactL_mem (y :: r) z (by rw [e]; simp)
      · exact compactL_mem (y :: r) z h
    · rw [if_neg e]
      rcases List.mem_cons.1 h with rfl | h
      · simp
      · exact List.mem_cons_of_mem _ (compactL_mem (y :: r) z h)
theorem compactL_pw : ∀ (L : List (List Int)), (∀ x ∈ L, x.length = 32) → L.Pairwise (fun a b => cmpL a b ≤ 0) → (compactL L).Pairwise (fun a b => cmpL a b < 0)
  | [], _, _ => List.Pairwise.nil
  | [x], _, _ => List.pairwise_singleton _ _
  | x :: y :: r, hl, h => by
    have h2 := List.pairwise_cons.1 h
    have ih := compactL_pw (y :: r) (fun z hz => hl z (List.mem_cons_of_mem _ hz)) h2.2
    rw [compactL]
    by_cases e : x = y
    · rw [if_pos e]; exact ih
    · rw [if_neg e]
      refine List.Pairwise.cons (fun z hz => ?_) ih
      have hz2 := compactL_sub _ _ hz
      have hlx := hl x (by simp)
      have hly := hl y (by simp)
      have hlz := hl z (List.mem_cons_of_mem _ hz2)
      have h3 := h2.1 z hz2
      have h4 := h2.1 y (by simp)
      have h5 : cmpL y z ≤ 0 := by
        rcases List.mem_cons.1 hz2 with rfl | hr
        · rw [cmpL_self]; exact Int.le_refl _
        · exact (List.pairwise_cons.1 h2.2).1 z hr
      by_cases h6 : cmpL x z = 0
      · have e2 := cmpL7_zero (by rw [hlx, hlz]) h6
        subst e2
        have h7 := cmpL7_neg x y
        exact absurd (cmpL7_zero (by rw [hlx, hly]) (by omega)) e
      · omega
def insK (x : List Int) : List (List Int) → List (List Int)
  | [] => [x]
  | y :: r => if cmpL x y ≤ 0 then x :: y :: r else y :: insK x r
theorem insK_perm (x : List Int) : ∀ L, (insK x L).Perm (x :: L)
  | [] => List.Perm.refl _
  | y :: r => by
    rw [insK]
    split
    · exact List.Perm.refl _
    · exact ((insK_perm x r).cons y).trans (List.Perm.swap x y r)
theorem insK_pw (x : List Int) (hx : x.length = 32) : ∀ L, (∀ y ∈ L, y.length = 32) → L.Pairwise (fun a b => cmpL a b ≤ 0) → (insK x L).Pairwise (fun a b => cmpL a b ≤ 0)
  | [], _, _ => List.pairwise_singleton _ _
  | y :: r, hl, h => by
    have h2 := List.pairwise_cons.1 h
    have hy := hl y (by simp)
    rw [insK]
    split
    · rename_i hle
      refine List.Pairwise.cons (fun z hz => ?_) h
      rcases List.mem_cons.1 hz with rfl | hz
      · exact hle
      · exact cmpL7_trans x y z (by rw [hx, hy]) (by rw [hy, hl z (List.mem_cons_of_mem _ hz)]) hle (h2.1 z hz)
    · rename_i hle
      refine List.Pairwise.cons (fun z hz => ?_) (insK_pw x hx r (fun z hz => hl z (List.mem_cons_of_mem _ hz)) h2.2)
      rcases List.mem_cons.1 ((insK_perm x r).subset hz) with rfl | hz
      · have := cmpL7_neg z y; omega
      · exact h2.1 z hz
def srtK : List (List Int) → List (List Int)
  | [] => []
  | x :: r => insK x (srtK r)
theorem srtK_perm : ∀ L, (srtK L).Perm L
  | [] => List.Perm.refl _
  | x :: r => (insK_perm x (srtK r)).trans ((srtK_perm r).cons x)
theorem srtK_pw : ∀ L, (∀ y ∈ L, y.length = 32) → (srtK L).Pairwise (fun a b => cmpL a b ≤ 0)
  | [], _ => List.Pairwise.nil
  | x :: r, h => insK_pw x (h x (by simp)) _ (fun y hy => h y (List.mem_cons_of_mem _ ((srtK_perm r).subset hy))) (srtK_pw r fun y hy => h y (List.mem_cons_of_mem _ hy))
/-- the keys of a list in order, each once -/
@[irreducible] def sK (L : List (List Int)) : List (List Int) := compactL (srtK L)
theorem sK_of {L D : List (List Int)} (hl : ∀ x ∈ L, K32 x) (hp : D.Perm L) (hs : D.Pairwise fun a b => cmpL a b ≤ 0) : compactL D = sK L := by
  have e : D = srtK L := by
    refine List.Perm.eq_of_pairwise (le := fun a b => cmpL a b ≤ 0) (fun a b ha hb h1 h2 => ?_) hs (srtK_pw L fun x hx => (hl x hx).1) (hp.trans (srtK_perm L).symm)
    have h3 := cmpL7_neg a b
    exact cmpL7_zero (by rw [(hl a (hp.subset ha)).1, (hl b ((srtK_perm L).subset hb)).1]) (by omega)
  rw [e, sK]
theorem mem_sK {L : List (List Int)} {x : List Int} : x ∈ sK L ↔ x ∈ L := by
  rw [sK]
  exact ⟨fun h => (srtK_perm L).subset (compactL_sub _ _ h), fun h => compactL_mem _ _ ((srtK_perm L).symm.subset h)⟩
theorem sK_ok {L : List (List Int)} (h : ∀ x ∈ L, K32 x) : ∀ x ∈ sK L, K32 x := fun x hx => h x (mem_sK.1 hx)
theorem sK_pw {L : List (List Int)} (h : ∀ x ∈ L, K32 x) : (sK L).Pairwise (fun a b => cmpL a b < 0) := by
  rw [sK]
  exact compactL_pw _ (fun x hx => (h x ((srtK_perm L).subset hx)).1) (srtK_pw L fun x hx => (h x hx).1)
theorem sK_len (L : List (List Int)) : (sK L).length ≤ L.length := by
  rw [sK]
  have h1 := compactL_len (srtK L)
  have h2 := (srtK_perm L).length_eq
  omega
/-- a key's text begins with P -/
@[irreducible] def hasP (P : List Int) (k : List Int) : Bool := decide ((textK k).take P.length = P)
theorem hasP_eq (P k : List Int) : hasP P k = decide ((textK k).take P.length = P) := by rw [hasP]
@[irreducible] def withP (L : List (List Int)) (P : List Int) : List (List Int) := (sK L).filter (hasP P)
theorem withP_eq (L : List (List Int)) (P : List Int) : withP L P = (sK L).filter (hasP P) := by rw [withP]
theorem withP_ok {L : List (List Int)} (h : ∀ x ∈ L, K32 x) (P : List Int) : ∀ x ∈ withP L P, K32 x := fun x hx => by
  rw [withP] at hx
  exact sK_ok h x (List.mem_filter.1 hx).1
theorem hasP_own (k : List Int) (n : Nat) : hasP ((textK k).take n) k = true := by
  rw [hasP, decide_eq_true_iff, List.length_take]
  rcases Nat.le_total n (textK k).length with h | h
  · rw [Nat.min_eq_left h]
  · rw [Nat.min_eq_right h, List.take_of_length_le h, List.take_of_length_le (Nat.le_refl _)]
theorem withP_mem {L : List (List Int)} {k : List Int} (hk : k ∈ L) (n : Nat) : k ∈ withP L ((textK k).take n) := by
  rw [withP, List.mem_filter]
  exact ⟨mem_sK.2 hk, hasP_own k n⟩
theorem withP_pos {L : List (List Int)} {k : List Int} (hk : k ∈ L) (n : Nat) : 0 < (withP L ((textK k).take n)).length := List.length_pos_of_mem (withP_mem hk n)
theorem withP_one {L : List (List Int)} {k : List Int} (hk : k ∈ L) (n : Nat) (h : (withP L ((textK k).take n)).length = 1) : withP L ((textK k).take n) = [k] := by
  have hm := withP_mem hk n
  match withP L ((textK k).take n), h, hm with
  | [x], _, hm => rw [List.mem_singleton.1 hm]
theorem withP_full {L : List (List Int)} (hL : ∀ x ∈ L, K32 x) {k : List Int} (hk : k ∈ L) (n : Nat) (hn : 64 ≤ n) : (withP L ((textK k).take n)).length = 1 := by
  have hkk := hL k hk
  have hpos := withP_pos hk n
  have htl : (textK k).length = 64 := by rw [textK_length, hkk.1]
  have hall : ∀ x ∈ withP L ((textK k).take n), x = k := fun x hx => by
    rw [withP, List.mem_filter, hasP_eq, decide_eq_true_iff] at hx
    obtain ⟨h1, h2⟩ := hx
    have hx32 := (sK_ok hL x h1).1
    have e : (textK k).take n = textK k := List.take_of_length_le (by omega)
    rw [e, htl, List.take_of_length_le (by rw [textK_length, hx32]; omega)] at h2
    exact textK_inj (sK_ok hL x h1) hkk h2
  have hpw : (withP L ((textK k).take n)).Pairwise (fun a b => cmpL a b < 0) := by
    rw [withP]
    exact (sK_pw hL).filter _
  match withP L ((textK k).take n), hpos, hall, hpw with
  | [x], _, _, _ => rfl
  | x :: y :: r, _, hall, hpw =>
    have h1 := (List.pairwise_cons.1 hpw).1 y (by simp)
    rw [hall x (by simp), hall y (by simp), cmpL_self] at h1
    omega
/-- the keys' order by their distances from a key -/
theorem near_pw {L D : List (List Int)} (hL : ∀ x ∈ L, K32 x) {f : List Int} (hf : K32 f) (hp : D.Perm (sK L)) (hs : D.Pairwise fun a b => cmpL (xorL a f) (xorL b f) ≤ 0) : D.Pairwise fun a b => cmpL (xorL a f) (xorL b f) = -1 := by
  have hnd : (sK L).Pairwise (fun a b => a ≠ b) := (sK_pw hL).imp fun {a b} h e => by subst e; rw [cmpL_self] at h; omega
  have hnd2 : D.Pairwise (fun a b => a ≠ b) := (List.Perm.pairwise_iff (R := fun a b : List Int => a ≠ b) (fun {x y} h => Ne.symm h) hp).2 hnd
  have h3 := hnd2.and hs
  refine List.Pairwise.imp_of_mem (fun {a b} ha hb h => ?_) h3
  have hka := sK_ok hL a (hp.subset ha)
  have hkb := sK_ok hL b (hp.subset hb)
  rcases cmpL_vals (xorL a f) (xorL b f) with e | e | e
  · exact e
  · exact absurd (xorL_inj hka hkb hf (cmpL7_zero (by rw [(xorL_ok hka hf).1, (xorL_ok hkb hf).1]) e)) h.1
  · have := h.2; omega
theorem near_step {D : List (List Int)} {f : List Int} (h : D.Pairwise fun a b => cmpL (xorL a f) (xorL b f) = -1) (m i : Nat) (h0 : 0 < i) (hi : i < (D.take m).length) :
    cmpL (xorL ((D.take m)[i - 1]'(by omega)) f) (xorL (D.take m)[i] f) = -1 := by
  have h2 := List.pairwise_iff_getElem.1 (h.sublist (List.take_sublist m D))
  exact h2 (i - 1) i (by omega) hi (by omega)
theorem near_far {D : List (List Int)} {f : List Int} (h : D.Pairwise fun a b => cmpL (xorL a f) (xorL b f) = -1) (m i : Nat) (hi : i < (D.take m).length) (x : List Int) (hx : x ∈ D) (hn : x ∉ D.take m) :
    cmpL (xorL x f) (xorL (D.take m)[i] f) = 1 := by
  rw [← List.take_append_drop m D] at hx h
  have hxd : x ∈ D.drop m := (List.mem_append.1 hx).resolve_left hn
  have h3 := (List.pairwise_append.1 h).2.2 _ (List.getElem_mem hi) x hxd
  rw [cmpL7_neg, h3]
  rfl
end Go.Proofs.Ytdjclllnmclocaa
/- compareKeys: what it does to the world, told whole. No condition. -/
namespace Go.Proofs.Ytdjclllnmclocaa
open Go.RowKit
set_option linter.unusedVariables false
set_option linter.unusedSimpArgs false

set_option maxHeartbeats 1000000 in
set_option maxRecDepth 100000 in
theorem slCompare_d (v u : Value) (a b : List Int) (w : World) (S S' : Nat → Prop) (h : RdL tByte w S v a) (h' : RdL tByte w S' u b) (hl : a.length = b.length) :
    Calls Try.prog 93 #[v, u] w fun e w' => e = .returned (.int .i64 (cmpL a b)) ∧ Drawn w w' := by
  obtain ⟨A, cap, rfl, hcap, hlen, hrd, hok⟩ := h
  obtain ⟨A', cap', rfl, hcap', hlen', hrd', hok'⟩ := h'
  have Hrd := Lib.hid (show Rd w S 1 A a.length (nums .u8 a) by rw [← flat_bytes]; exact hrd)
  have Hrd' := Lib.hid (show Rd w S' 1 A' b.length (nums .u8 b) by rw [← flat_bytes]; exact hrd')
  have Hl := Lib.hid hl
  clear hrd hrd' hl
  go_enter Try.func93, Try.ntmps93
  go_wp2
  go_loopw [11] (fun i wr => ∃ k : Nat, k ≤ a.length ∧ i = .int .i64 k ∧ a.take k = b.take k ∧ Drawn w wr) (fun i _ => a.length - (intOf i).toNat)
  case atStart => exact ⟨0, by omega, rfl, by simp, Drawn.refl _⟩
  case round =>
    obtain ⟨k, hk, rfl, ht, hx⟩ := hrel
    have Ht := Lib.hid ht
    have HX := Lib.hid hx
    clear ht hx
    have hbl : (b.length : Int) = a.length := by rw [Hl.out]
    by_cases hlt : k < a.length
    · have hlt' : k < b.length := by rw [← Hl.out]; exact hlt
      obtain ⟨g, o, rfl, hs, hc⟩ := (Hrd.out).byte k hlt
      obtain ⟨g', o', rfl, hs', hc'⟩ := (Hrd'.out).byte k hlt'
      have hd := HX.out.ext.cell hc
      have hd' := HX.out.ext.cell hc'
      have hi : (0 : Int) ≤ (k : Int) := by omega
      have hi2 : (k : Int) < (a.length : Int) := by omega
      have hi3 : (k : Int) < (b.length : Int) := by omega
      clear hc hc' hbl
      have hcm := fun W => cmpB_any (gI a k) (gI b k) W
      by_cases he : gI a k = gI b k
      · have He := Lib.hid he
        simp only [if_pos he] at hcm
        clear he
        go_wp2_with fail
        refine (hcm _).mono ?_
        rintro e w' ⟨rfl, rfl⟩
        go_wp2
        go_roundw
        case rel => exact ⟨k + 1, by omega, by go_num, take_eq_step hlt hlt' Ht.out He.out, HX.out⟩
        case measure => simp [intOf]; omega
      · have HC := Lib.hid (cmpL_at a b k hlt hlt' Ht.out he)
        simp only [if_neg he] at hcm
        clear he
        by_cases hlx : gI a k < gI b k
        · have Hlx := Lib.hid hlx
          simp only [if_pos hlx] at hcm
          clear hlx
          go_wp2_with fail
          refine (hcm _).mono ?_
          rintro e w' ⟨rfl, rfl⟩
          go_wp2
          go_ret
          exact ⟨by rw [HC.out, if_pos Hlx.out]; rfl, HX.out⟩
        · have Hlx := Lib.hid (Int.not_lt.1 hlx)
          simp only [if_neg hlx] at hcm
          clear hlx
          go_wp2_with fail
          refine (hcm _).mono ?_
          rintro e w' ⟨rfl, rfl⟩
          go_wp2
          go_ret
          exact ⟨by rw [HC.out, if_neg (Int.not_lt.2 Hlx.out)]; rfl, HX.out⟩
    · have hq : ¬ (a.length : Int) < (b.length : Int) := by omega
      clear hbl
      go_wp2
      go_ret
      obtain rfl : k = a.length := by omega
      refine ⟨?_, HX.out⟩
      have e := Ht.out
      rw [List.take_of_length_le (by omega), List.take_of_length_le (by rw [← Hl.out]; omega)] at e
      subst e; rw [cmpL_self]; rfl
set_option maxHeartbeats 1000000 in
set_option maxRecDepth 100000 in
theorem compareKeys_d (a b : List Int) (ha : K32 a) (hb : K32 b) (w : World) :
    Calls Try.prog 64 #[.agg (numsA .u8 a), .agg (numsA .u8 b)] w fun e w' => e = .returned (.int .i64 (cmpL a b)) ∧ ∃ q os', w' = Go.Sort.grow (w.drewN q) os' := by
  have HA := Lib.hid ha
  have HB := Lib.hid hb
  clear ha hb
  go_enter Try.func64, Try.ntmps64
  go_wp2_with fail
  go_region_held3 (fun W => Drawn ((w.alloc (.cells (numsA .u8 a) 28)).alloc (.cells (numsA .u8 b) 28)) W) (first | exact Drawn.refl _ | exact (Drawn.refl _).drewN 1 | exact Drawn.trans (by assumption) (by assumption))
    (first
    | (go_at_call 93; refine (slCompare_d _ _ a b _ _ _ (rdl_blk (((Blk.new w 28 (numsA .u8 a)).alloc _).ext ((Ext.refl _).drew)) numsA_full HA.out.1 HA.out.2 (by decide) 32 (Nat.le_refl _)) (rdl_blk ((Blk.new' (g := w.heap.size + 1) (w := w.alloc (.cells (numsA .u8 a) 28)) (by simp) 28 (numsA .u8 b)).ext ((Ext.refl _).drew)) numsA_full HB.out.1 HB.out.2 (by decide) 32 (Nat.le_refl _)) (by rw [HA.out.1, HB.out.1])).mono ?_; rintro e p1 ⟨rfl, hx⟩))
  go_wp2
  go_ret
  refine ⟨rfl, ?_⟩
  have hD : Drawn ((w.alloc (.cells (numsA .u8 a) 28)).alloc (.cells (numsA .u8 b) 28)) p1 := by assumption
  obtain ⟨n, hn⟩ := hD
  exact ⟨n, #[.cells (numsA .u8 a) 28, .cells (numsA .u8 b) 28], by rw [hn, Go.Sort.alloc_eq_grow, Go.Sort.alloc_eq_grow, Go.Sort.grow_grow]; rfl⟩

end Go.Proofs.Ytdjclllnmclocaa
/- The order of keys, as the sort's contract asks it. No condition. -/
namespace Go.Proofs.Ytdjclllnmclocaa
open Go.RowKit Go.Shelf Go.Lib Go.Sort
set_option linter.unusedVariables false
set_option linter.unusedSimpArgs false

/-- keys of 32 bytes -/
abbrev K7 := { l : List Int // K32 l }
instance : Inhabited K7 := ⟨⟨List.replicate 32 0, zero_ok⟩⟩
def cfK (x y : K7) : Int := cmpL x.1 y.1
theorem swoK : SWO (ltOf cfK) where
  irrefl x := by
    unfold ltOf cfK
    rw [cmpL_self]
    rfl
  trans x y z h1 h2 := by
    unfold ltOf cfK at *
    simp only [decide_eq_true_iff] at *
    have l1 : x.1.length = y.1.length := by rw [x.2.1, y.2.1]
    have l2 : y.1.length = z.1.length := by rw [y.2.1, z.2.1]
    have h3 := cmpL7_trans x.1 y.1 z.1 l1 l2 (by omega) (by omega)
    have h4 : cmpL x.1 z.1 ≠ 0 := fun e => by
      have e2 := cmpL7_zero (l1.trans l2) e
      rw [← e2] at h2
      have := cmpL7_neg x.1 y.1
      omega
    omega
  ntrans x y z h1 h2 := by
    unfold ltOf cfK at *
    simp only [decide_eq_false_iff_not] at *
    have l1 : x.1.length = y.1.length := by rw [x.2.1, y.2.1]
    have l2 : y.1.length = z.1.length := by rw [y.2.1, z.2.1]
    have n1 := cmpL7_neg x.1 y.1
    have n2 := cmpL7_neg y.1 z.1
    have n3 := cmpL7_neg x.1 z.1
    have := cmpL7_trans z.1 y.1 x.1 l2.symm l1.symm (by omega) (by omega)
    omega
def encK (x : K7) : List Value := nums .u8 x.1
theorem encK_len (x : K7) : (encK x).length = 32 := by unfold encK; rw [nums_length, x.2.1]
theorem encK_one (x : K7) : ∀ v ∈ encK x, v.oneCell' = true := one_nums _ _
theorem cmpLaysK (blk off size : Nat) (w : World) : CmpLays Try.prog 64 #[] encK 32 cfK blk off size w := fun m os dk hd x y => compareKeys_d x.1 y.1 x.2 y.2 _
/-- a row of one's own, as the sort reads it -/
theorem holdsK_of {w : World} {g t : Nat} {cur : Array Value} (D : Array K7) (hb : Blk w g t cur) (hat : ∀ i (h : i < D.size), AtK cur i D[i].1) : HoldsK encK 32 w g 0 D := by
  intro j hj
  rw [size_flatK] at hj
  refine ⟨?_, hb.free _⟩
  have hi : j / 32 < D.size := by omega
  have hl : (encK D[j / 32]).length = 32 := encK_len _
  have h1 := hat (j / 32) hi (j % 32) _ (List.getElem?_eq_getElem (by show j % 32 < (encK D[j / 32]).length; omega))
  rw [show j / 32 * 32 + j % 32 = j by omega] at h1
  rw [Nat.zero_add, hb.cell, h1, get_flatK _ _ _ _ hj, getElem!_pos D (j / 32) hi, getElem!_pos (encK D[j / 32]) (j % 32) (by omega)]
  rfl
/-- what the sort leaves -/
theorem sortWorld_blk {w : World} {g t : Nat} {cur : Array Value} (n : Nat) (D : Array K7) (os : Array Obj) (hb : Blk w g t cur) (hs : D.size * 32 ≤ cur.size) :
    ∃ cur', Blk (sortWorldK encK 32 w g 0 n D os) g t cur' ∧ cur'.size = cur.size ∧ (∀ i (h : i < D.size), AtK cur' i D[i].1) ∧ w.grownBy (sortWorldK encK 32 w g 0 n D os) (some g) := by
  have hg := hb.lt
  have hb' : w.heap[g]? = some (.cells cur t (0, 0)) := hb
  refine ⟨putCells id 0 (flatK encK 32 D) cur, ?_, by simp [putCells], fun i hi j u hu => ?_, ?_⟩
  · show (sortWorldK encK 32 w g 0 n D os).heap[g]? = _
    have hge : w.heap[g] = .cells cur t (0, 0) := (Array.getElem?_eq_some_iff.1 hb').2
    simp [sortWorldK, grow, putRowK, putRow, mapBlock, ahead, Array.getElem?_append, Array.getElem_modify, hge, onCells, hg]
  · have hj : j < 32 := by
      have := (List.getElem?_eq_some_iff.1 hu).1
      rw [nums_length, D[i].2.1] at this
      exact this
    have hlt : i * 32 + j < D.size * 32 := by omega
    have hc : i * 32 + j < cur.size := by omega
    have e := get_flatK encK 32 D (i * 32 + j) hlt
    rw [show (i * 32 + j) / 32 = i by omega, show (i * 32 + j) % 32 = j by omega, getElem!_pos D i hi] at e
    have hu2 : (encK D[i])[j]! = u := by
      have hl := encK_len D[i]
      rw [getElem!_pos (encK D[i]) j (by omega)]
      exact (List.getElem?_eq_some_iff.1 hu).2
    rw [putCells, Array.getElem?_mapIdx, Array.getElem?_eq_getElem hc]
    simp only [Option.map_some, Nat.zero_le, true_and, Nat.zero_add, size_flatK, if_pos hlt, Nat.sub_zero, e, hu2, id]
  · refine ⟨rfl, rfl, rfl, by simp [sortWorldK, grow, putRowK, putRow, mapBlock, ahead], fun k hk hne => ?_⟩
    have hkg : ¬ g = k := fun e => hne (by rw [e])
    simp [sortWorldK, grow, putRowK, putRow, mapBlock, ahead, Array.getElem?_append, Array.getElem_modify, hk, hkg, Array.getElem?_eq_getElem hk]
end Go.Proofs.Ytdjclllnmclocaa
/- Arrays of bytes held against each other by == and !=. No condition. -/
namespace Go.Proofs.Ytdjclllnmclocaa
open Go.RowKit
set_option linter.unusedVariables false
set_option linter.unusedSimpArgs false

def eqArr (d : Nat) (e : TypeId) (n : Nat) (xs ys : Array Value) : List Nat → Sem Bool
  | [] => pure true
  | i :: is => do
    let a ← part e xs (i * n)
    let b ← part e ys (i * n)
    let r ← Op.equalIn d e a b
    if (!r) = true then pure false else eqArr d e n xs ys is
section
variable {P : Program} (w : World)
theorem run_equalIn_array (d : Nat) (t e : TypeId) (len n : Nat) (xs ys : Array Value) (ht : P.underlying t = some (.array len e)) (hn : ∀ w, (sizeOf e).run P w = .ok n w) :
    (Op.equalIn (d + 1) t (.agg xs) (.agg ys)).run P w = (eqArr d e n xs ys (List.range' 0 len)).run P w := by
  simp only [Op.equalIn, Sem.run_bind, run_underlying ht, Result.andThen_ok, hn]
  rw [Std.Legacy.Range.forIn_eq_forIn_range']
  simp only [Std.Legacy.Range.size, Nat.sub_zero, Nat.add_sub_cancel, Nat.div_one]
  generalize List.range' 0 len = l
  clear ht
  induction l generalizing w with
  | nil => simp [eqArr]
  | cons f fs ih =>
    simp only [List.forIn_cons, eqArr, Sem.run_bind, Sem.run_ite]
    generalize (part e xs (f * n)).run P w = r1
    cases r1 with
    | ok a w1 =>
      simp only [Result.andThen_ok]
      generalize (part e ys (f * n)).run P w1 = r2
      cases r2 with
      | ok b w2 =>
        simp only [Result.andThen_ok]
        generalize (Op.equalIn d e a b).run P w2 = r3
        cases r3 with
        | ok r w3 =>
          cases r
          · simp only [Result.andThen_ok, Bool.not_false, if_true, Sem.run_pure]
          · simp only [Result.andThen_ok, Bool.not_true, Bool.false_eq_true, if_false, Sem.run_pure]
            exact ih w3
        | halt x w3 => simp [Result.andThen]
      | halt x w2 => simp [Result.andThen]
    | halt x w1 => simp [Result.andThen]
theorem run_eqArr (d : Nat) (e : TypeId) (k' : IntKind) (he : P.underlying e = some (.int k')) (k : IntKind) (a b : List Int) (hl : a.length = b.length) (m i : Nat) (hi : i + m = a.length) :
    (eqArr (d + 1) e 1 (numsA k a) (numsA k b) (List.range' i m)).run P w = .ok (decide (a.drop i = b.drop i)) w := by
  have hagg : (isAgg e).run P w = .ok false w := by
    unfold isAgg
    rw [Sem.run_bind, run_underlying he w]
    rfl
  induction m generalizing i with
  | zero =>
    rw [List.drop_eq_nil_of_le (by omega), List.drop_eq_nil_of_le (by omega)]
    simp [eqArr]
  | succ m ih =>
    have h1 : i < a.length := by omega
    have h2 : i < b.length := by omega
    have e1 := numsA_at k a i h1
    have e2 := numsA_at k b i h2
    rw [List.range'_succ]
    simp only [eqArr, Sem.run_bind, part, hagg, Result.andThen_ok, Bool.false_eq_true, if_false, Nat.mul_one, e1, e2, Sem.run_pure, run_equalIn_int w d e k k' _ _ he, Sem.run_ite]
    rw [List.drop_eq_getElem_cons h1, List.drop_eq_getElem_cons h2]
    by_cases hq : gI a i = gI b i
    · have h3 : (gI a i == gI b i) = true := by simpa using hq
      simp only [h3, Bool.not_true, Bool.false_eq_true, if_false]
      rw [ih (i + 1) (by omega)]
      rw [gI_lt h1, gI_lt h2] at hq
      simp only [List.cons.injEq, hq, true_and]
    · have h3 : (gI a i == gI b i) = false := by simpa using hq
      simp only [h3, Bool.not_false, if_true]
      rw [gI_lt h1, gI_lt h2] at hq
      simp only [List.cons.injEq, hq, false_and, decide_false]
end
theorem run_eqKey (a b : List Int) (ha : K32 a) (hb : K32 b) (W : World) : (binOp .eql 28 (.agg (numsA .u8 a)) (.agg (numsA .u8 b))).run Try.prog W = .ok (.bool (decide (a = b))) W := by
  rw [run_eql_struct, run_equalIn_array (P := Try.prog) W 9999 28 5 32 1 _ _ (by kernel_rfl) (fun w => by kernel_rfl), run_eqArr (P := Try.prog) W 9998 5 .u8 (by kernel_rfl) .u8 a b (by rw [ha.1, hb.1]) 32 0 (by rw [ha.1])]
  simp
theorem run_neqKey (a b : List Int) (ha : K32 a) (hb : K32 b) (W : World) : (binOp .neq 28 (.agg (numsA .u8 a)) (.agg (numsA .u8 b))).run Try.prog W = .ok (.bool (!decide (a = b))) W := by
  rw [run_neq_struct, run_equalIn_array (P := Try.prog) W 9999 28 5 32 1 _ _ (by kernel_rfl) (fun w => by kernel_rfl), run_eqArr (P := Try.prog) W 9998 5 .u8 (by kernel_rfl) .u8 a b (by rw [ha.1, hb.1]) 32 0 (by rw [ha.1])]
  simp

end Go.Proofs.Ytdjclllnmclocaa
/- slices.Compact on a row of keys of one's own. No condition. -/
namespace Go.Proofs.Ytdjclllnmclocaa
open Go.RowKit
set_option linter.unusedVariables false
set_option linter.unusedSimpArgs false

set_option maxHeartbeats 4000000 in
set_option maxRecDepth 100000 in
theorem compactK_any (v : Value) (xs : List (List Int)) (w : World) (base : Nat) (h : Own tKey 28 w base v xs) :
    Calls Try.prog 99 #[v] w fun q w' => ∃ v', q = .returned v' ∧ Own tKey 28 w' base v' (compactL xs) ∧ w.grownBy w' v.ownBlock := by
  have HO := Lib.hid h
  have hlen := h.2.1
  obtain ⟨A, cap0, rfl⟩ := h.shape
  clear h
  by_cases h2 : xs.length < 2
  · have HE := Lib.hid (show compactL xs = xs by
      have := compactL_same (L := xs) xs.length (Nat.le_refl _) (fun k hk => by omega)
      rwa [List.take_length] at this)
    have i1 : decide ((xs.length : Int) < 2) = true := decide_eq_true (by omega)
    clear h2
    go_enter Try.func99, Try.ntmps99
    go_wp2
    go_ret
    exact ⟨_, rfl, by rw [HE.out]; exact HO.out, grown_refl _ _⟩
  obtain ⟨g, cap, cur, e, hgb, hgl, hB, hcs, hnc, hcm, hat⟩ := at_of_ownK HO.out (by omega)
  obtain ⟨rfl, _, rfl⟩ := Value.slice.inj e
  have HB := Lib.hid hB
  have HAT := Lib.hid hat
  have HOK := Lib.hid HO.out.2.2
  have i1 : decide ((xs.length : Int) < 2) = false := decide_eq_false (by omega)
  clear hB hat e
  go_enter Try.func99, Try.ntmps99
  go_wp2
  go_loopw [3] (fun a wr => ∃ j : Nat, 1 ≤ j ∧ j ≤ xs.length ∧ a = .int .i64 j ∧ (∀ k (h : k + 1 < xs.length), k + 1 < j → xs[k + 1] ≠ xs[k]) ∧ Ext w wr) (fun a _ => xs.length - (intOf a).toNat)
  case atStart => exact ⟨1, by omega, by omega, rfl, fun k h hk => by omega, Ext.refl _⟩
  case round =>
    obtain ⟨j, hj1, hj, rfl, hne, hx⟩ := hrel
    have HX := Lib.hid hx
    have HNE := Lib.hid hne
    clear hx hne i1
    by_cases hlj : j < xs.length
    · have HK := Lib.hid (show K32 xs[j] from HOK.out _ (List.getElem_mem hlj))
      have HK1 := Lib.hid (show K32 (xs[j - 1]'(by omega)) from HOK.out _ (List.getElem_mem _))
      have HB1 := Lib.hid (HB.out.ext HX.out)
      have HD0 := Lib.hid (show ∀ q u, (nums .u8 xs[j])[q]? = some u → wr.cell? ⟨g, j * 32 + q, none⟩ = some u from fun q u hu => by
        rw [HB1.out.cell]
        exact HAT.out j hlj q u hu)
      have HD1 := Lib.hid (show ∀ q u, (nums .u8 (xs[j - 1]'(by omega)))[q]? = some u → wr.cell? ⟨g, (j - 1) * 32 + q, none⟩ = some u from fun q u hu => by
        rw [HB1.out.cell]
        exact HAT.out (j - 1) (by omega) q u hu)
      have hj0 : (0 : Int) ≤ (j : Int) := by omega
      have hj2 : (j : Int) < (xs.length : Int) := by omega
      have hjm : (j : Int) - 1 = ((j - 1 : Nat) : Int) := by omega
      have hjw : IntKind.i64.wrap ((j : Int) - 1) = ((j - 1 : Nat) : Int) := by rw [IntWalk.i64_in _ (by omega)]; exact hjm
      have hj3 : ((j - 1 : Nat) : Int) < (xs.length : Int) := by omega
      have hj4 : (0 : Int) ≤ ((j - 1 : Nat) : Int) := by omega
      clear hjm
      have hj5 : j - 1 < xs.length := by omega
      cases hq : decide (xs[j] = xs[j - 1]'(by omega)) with
      | false =>
        have heq : ∀ W, (binOp .eql 28 (.agg (nums .u8 xs[j]).toArray) (.agg (nums .u8 xs[j - 1]).toArray)).run Try.prog W = .ok (.bool false) W := fun W => by
          have := run_eqKey xs[j] (xs[j - 1]'(by omega)) HK.out HK1.out W
          rw [hq] at this
          exact this
        have HQ := Lib.hid (of_decide_eq_false hq)
        clear hq
        go_wp2_with fail
        refine wp_region_held_drew (S := fun W => Ext wr W) (by kernel_rfl) (Ext.refl _).drew (fun hHeld => ?_)
        iterate 3
          refine tkD 0 (by simp only [List.size_toArray, List.length_cons, List.length_nil]; rfl) (by simp only [List.getElem?_toArray, List.getElem?_cons_zero, List.getElem?_cons_succ]; rfl) (by kernel_rfl) (by exact fun _ _ _ h => h) (by first | (exact Or.inl ⟨by rfl, by intro w hSw; (try dsimp only at hSw); go_simp; with_reducible rfl⟩) | (exact Or.inr ⟨by rfl, by rfl⟩)) (by assumption) ?_
          try simp only [Act.put, List.setIfInBounds_toArray, List.set_cons_zero, List.set_cons_succ]
        refine tkI 3 (v := (.agg (nums .u8 xs[j]).toArray)) (by simp only [List.getElem?_toArray, List.getElem?_cons_zero, List.getElem?_cons_succ]; rfl) (by kernel_rfl) (by exact fun _ _ _ h => h) (by refine yields_loadR g (j * 32) (nums .u8 xs[j]) (by rw [nums_length, HK.out.1]; exact aggKey) HD0.out ?_ _ rfl rfl; rfl) (by assumption) ?_
        try simp only [Act.put, List.setIfInBounds_toArray, List.set_cons_zero, List.set_cons_succ]
        iterate 4
          refine tkD 0 (by simp only [List.size_toArray, List.length_cons, List.length_nil]; rfl) (by simp only [List.getElem?_toArray, List.getElem?_cons_zero, List.getElem?_cons_succ]; rfl) (by kernel_rfl) (by exact fun _ _ _ h => h) (by first | (exact Or.inl ⟨by rfl, by intro w hSw; (try dsimp only at hSw); go_simp; with_reducible rfl⟩) | (exact Or.inr ⟨by rfl, by rfl⟩)) (by assumption) ?_
          try simp only [Act.put, List.setIfInBounds_toArray, List.set_cons_zero, List.set_cons_succ]
        refine tkI 8 (v := (.agg (nums .u8 (xs[j - 1]'(by omega))).toArray)) (by simp only [List.getElem?_toArray, List.getElem?_cons_zero, List.getElem?_cons_succ]; rfl) (by kernel_rfl) (by exact fun _ _ _ h => h) (by refine yields_loadR g ((j - 1) * 32) (nums .u8 (xs[j - 1]'(by omega))) (by rw [nums_length, HK1.out.1]; exact aggKey) HD1.out ?_ _ rfl rfl; rfl) (by assumption) ?_
        try simp only [Act.put, List.setIfInBounds_toArray, List.set_cons_zero, List.set_cons_succ]
        refine tkI 9 (by simp only [List.getElem?_toArray, List.getElem?_cons_zero, List.getElem?_cons_succ]; rfl) (by kernel_rfl) (by exact fun _ _ _ h => h) (by first | (exact Or.inl ⟨by rfl, by intro w hSw; (try dsimp only at hSw); go_simp; with_reducible rfl⟩) | (exact Or.inr ⟨by rfl, by rfl⟩)) (by assumption) ?_
        try simp only [Act.put, List.setIfInBounds_toArray, List.set_cons_zero, List.set_cons_succ]
        refine wpAnyH_done (by kernel_rfl) ?_ _
        have HX2 := Lib.hid (HX.out.trans hHeld)
        clear hHeld
        go_wp2
        go_roundw
        case rel => exact ⟨j + 1, by omega, by omega, by go_num, fun k hk hlt => by
          by_cases e : k + 1 = j
          · intro q
            refine HQ.out ?_
            have e2 : k = j - 1 := by omega
            subst e2
            have e3 : j - 1 + 1 = j := by omega
            simp only [e3] at q
            exact q
          · exact HNE.out k hk (by omega), HX2.out⟩
        case measure => simp [intOf]; omega
      | true =>
        have heq : ∀ W, (binOp .eql 28 (.agg (nums .u8 xs[j]).toArray) (.agg (nums .u8 xs[j - 1]).toArray)).run Try.prog W = .ok (.bool true) W := fun W => by
          have := run_eqKey xs[j] (xs[j - 1]'(by omega)) HK.out HK1.out W
          rw [hq] at this
          exact this
        have HQ := Lib.hid (of_decide_eq_true hq)
        clear hq
        go_wp2_with fail
        refine wp_region_held_drew (S := fun W => Ext wr W) (by kernel_rfl) (Ext.refl _).drew (fun hHeld => ?_)
        iterate 3
          refine tkD 0 (by simp only [List.size_toArray, List.length_cons, List.length_nil]; rfl) (by simp only [List.getElem?_toArray, List.getElem?_cons_zero, List.getElem?_cons_succ]; rfl) (by kernel_rfl) (by exact fun _ _ _ h => h) (by first | (exact Or.inl ⟨by rfl, by intro w hSw; (try dsimp only at hSw); go_simp; with_reducible rfl⟩) | (exact Or.inr ⟨by rfl, by rfl⟩)) (by assumption) ?_
          try simp only [Act.put, List.setIfInBounds_toArray, List.set_cons_zero, List.set_cons_succ]
        refine tkI 3 (v := (.agg (nums .u8 xs[j]).toArray)) (by simp only [List.getElem?_toArray, List.getElem?_cons_zero, List.getElem?_cons_succ]; rfl) (by kernel_rfl) (by exact fun _ _ _ h => h) (by refine yields_loadR g (j * 32) (nums .u8 xs[j]) (by rw [nums_length, HK.out.1]; exact aggKey) HD0.out ?_ _ rfl rfl; rfl) (by assumption) ?_
        try simp only [Act.put, List.setIfInBounds_toArray, List.set_cons_zero, List.set_cons_succ]
        iterate 4
          refine tkD 0 (by simp only [List.size_toArray, List.length_cons, List.length_nil]; rfl) (by simp only [List.getElem?_toArray, List.getElem?_cons_zero, List.getElem?_cons_succ]; rfl) (by kernel_rfl) (by exact fun _ _ _ h => h) (by first | (exact Or.inl ⟨by rfl, by intro w hSw; (try dsimp only at hSw); go_simp; with_reducible rfl⟩) | (exact Or.inr ⟨by rfl, by rfl⟩)) (by assumption) ?_
          try simp only [Act.put, List.setIfInBounds_toArray, List.set_cons_zero, List.set_cons_succ]
        refine tkI 8 (v := (.agg (nums .u8 (xs[j - 1]'(by omega))).toArray)) (by simp only [List.getElem?_toArray, List.getElem?_cons_zero, List.getElem?_cons_succ]; rfl) (by kernel_rfl) (by exact fun _ _ _ h => h) (by refine yields_loadR g ((j - 1) * 32) (nums .u8 (xs[j - 1]'(by omega))) (by rw [nums_length, HK1.out.1]; exact aggKey) HD1.out ?_ _ rfl rfl; rfl) (by assumption) ?_
        try simp only [Act.put, List.setIfInBounds_toArray, List.set_cons_zero, List.set_cons_succ]
        refine tkI 9 (by simp only [List.getElem?_toArray, List.getElem?_cons_zero, List.getElem?_cons_succ]; rfl) (by kernel_rfl) (by exact fun _ _ _ h => h) (by first | (exact Or.inl ⟨by rfl, by intro w hSw; (try dsimp only at hSw); go_simp; with_reducible rfl⟩) | (exact Or.inr ⟨by rfl, by rfl⟩)) (by assumption) ?_
        try simp only [Act.put, List.setIfInBounds_toArray, List.set_cons_zero, List.set_cons_succ]
        refine wpAnyH_done (by kernel_rfl) ?_ _
        have HX2 := Lib.hid (HX.out.trans hHeld)
        clear hHeld
        go_wp2
        have HN0 := Lib.hid (compactL_same (L := xs) j (by omega) HNE.out)
        have HSTEP := Lib.hid (fun q h0 h => compactL_step xs q h0 h)
        have hc1 : (j : Int) ≤ (cap0 : Int) := by omega
        have B2 := Lib.hid (HB.out.ext HX2.out)
        clear HD0 HD1 HB1 heq hjw hj3 hj4
        go_loopw [3, 5] (fun a b wz => ∃ i m : Nat, 1 ≤ m ∧ j + m ≤ xs.length ∧ i < j + m ∧ a = .int .i64 i ∧ b = .int .i64 m ∧ (∃ F, compactL (xs.take (j + m)) = F ∧ F.length = i ∧ ∃ cur', Blk wz g 28 cur' ∧ cur'.size = cap0 * 32 ∧ (∀ q (hq : q < F.length), AtK cur' q F[q]) ∧ (∀ q (hq : q < xs.length), j + m ≤ q + 1 → AtK cur' q xs[q])) ∧ w.grownBy wz (some g)) (fun _ b _ => xs.length - (intOf b).toNat)
        case atStart => exact ⟨j, 1, by omega, by omega, by omega, rfl, rfl, ⟨xs.take j, by rw [HSTEP.out j (by omega) hlj, if_pos HQ.out, List.append_nil, HN0.out], by rw [List.length_take]; omega, cur, B2.out, hcs, fun q hq => by rw [List.getElem_take]; exact HAT.out q _, fun q hq _ => HAT.out q hq⟩, ext_grown _ HX2.out⟩
        case round =>
          obtain ⟨i, m, hm1, hjm, him, rfl, rfl, ⟨F, hF, hFl, cur', hB', hs', ha1, ha2⟩, hg⟩ := hrel
          have HB3 := Lib.hid hB'
          have HA1 := Lib.hid ha1
          have HA2 := Lib.hid ha2
          have HF := Lib.hid hF
          have HG := Lib.hid hg
          have HFO := Lib.hid (show ∀ x ∈ F, x.length = 32 from fun x hx => by rw [← hF] at hx; exact (HOK.out x (List.mem_of_mem_take (compactL_sub _ _ hx))).1)
          clear hB' ha1 ha2 hF hg B2 HX2
          by_cases hlm : j + m < xs.length
          · have HKm := Lib.hid (show K32 xs[j + m] from HOK.out _ (List.getElem_mem hlm))
            have hpm : j + m - 1 < xs.length := by omega
            have HKp := Lib.hid (show K32 (xs[j + m - 1]'hpm) from HOK.out _ (List.getElem_mem _))
            have hkl := HKm.out.1
            have HD0 := Lib.hid (show ∀ q u, (nums .u8 xs[j + m])[q]? = some u → wr.cell? ⟨g, j * 32 + m * 32 + q, none⟩ = some u from fun q u hu => by
              rw [HB3.out.cell, show j * 32 + m * 32 + q = (j + m) * 32 + q by omega]
              exact HA2.out (j + m) hlm (by omega) q u hu)
            have HD1 := Lib.hid (show ∀ q u, (nums .u8 (xs[j + m - 1]'hpm))[q]? = some u → wr.cell? ⟨g, j * 32 + (m - 1) * 32 + q, none⟩ = some u from fun q u hu => by
              rw [HB3.out.cell, show j * 32 + (m - 1) * 32 + q = (j + m - 1) * 32 + q by omega]
              exact HA2.out (j + m - 1) hpm (by omega) q u hu)
            have k0 : (0 : Int) ≤ (m : Int) := by omega
            have k1 : (m : Int) < ((xs.length - j : Nat) : Int) := by omega
            have k2 : m < xs.length - j := by omega
            have k3 : m - 1 < xs.length - j := by omega
            have k4 : i < xs.length := by omega
            have k5 : (0 : Int) ≤ (i : Int) := by omega
            have k6 : (i : Int) < (xs.length : Int) := by omega
            have kw : IntKind.i64.wrap ((m : Int) - 1) = ((m - 1 : Nat) : Int) := by rw [IntWalk.i64_in _ (by omega)]; omega
            have hst2 : St 32 (numsA .u8 xs[j + m]) := St.nums hkl
            have hsz2 := sizeN (k := .u8) hkl
            cases hq2 : decide (xs[j + m] = xs[j + m - 1]'hpm) with
            | true =>
              have hneq : ∀ W, (binOp .neq 28 (.agg (nums .u8 xs[j + m]).toArray) (.agg (nums .u8 (xs[j + m - 1]'hpm)).toArray)).run Try.prog W = .ok (.bool false) W := fun W => by
                have := run_neqKey xs[j + m] (xs[j + m - 1]'hpm) HKm.out HKp.out W
                rw [hq2] at this
                exact this
              have HQ2 := Lib.hid (of_decide_eq_true hq2)
              clear hq2
              go_wp2_with fail
              refine wp_region_held_drew (S := fun W => Ext wr W) (by kernel_rfl) (Ext.refl _).drew (fun hHeld => ?_)
              iterate 3
                refine tkD 0 (by simp only [List.size_toArray, List.length_cons, List.length_nil]; rfl) (by simp only [List.getElem?_toArray, List.getElem?_cons_zero, List.getElem?_cons_succ]; rfl) (by kernel_rfl) (by exact fun _ _ _ h => h) (by first | (exact Or.inl ⟨by rfl, by intro w hSw; (try dsimp only at hSw); go_simp; with_reducible rfl⟩) | (exact Or.inr ⟨by rfl, by rfl⟩)) (by assumption) ?_
                try simp only [Act.put, List.setIfInBounds_toArray, List.set_cons_zero, List.set_cons_succ]
              refine tkI 3 (v := (.agg (nums .u8 xs[j + m]).toArray)) (by simp only [List.getElem?_toArray, List.getElem?_cons_zero, List.getElem?_cons_succ]; rfl) (by kernel_rfl) (by exact fun _ _ _ h => h) (by refine yields_loadR g (j * 32 + m * 32) (nums .u8 xs[j + m]) (by rw [nums_length, HKm.out.1]; exact aggKey) HD0.out ?_ _ rfl rfl; rfl) (by assumption) ?_
              try simp only [Act.put, List.setIfInBounds_toArray, List.set_cons_zero, List.set_cons_succ]
              iterate 4
                refine tkD 0 (by simp only [List.size_toArray, List.length_cons, List.length_nil]; rfl) (by simp only [List.getElem?_toArray, List.getElem?_cons_zero, List.getElem?_cons_succ]; rfl) (by kernel_rfl) (by exact fun _ _ _ h => h) (by first | (exact Or.inl ⟨by rfl, by intro w hSw; (try dsimp only at hSw); go_simp; with_reducible rfl⟩) | (exact Or.inr ⟨by rfl, by rfl⟩)) (by assumption) ?_
                try simp only [Act.put, List.setIfInBounds_toArray, List.set_cons_zero, List.set_cons_succ]
              refine tkI 8 (v := (.agg (nums .u8 (xs[j + m - 1]'hpm)).toArray)) (by simp only [List.getElem?_toArray, List.getElem?_cons_zero, List.getElem?_cons_succ]; rfl) (by kernel_rfl) (by exact fun _ _ _ h => h) (by refine yields_loadR g (j * 32 + (m - 1) * 32) (nums .u8 (xs[j + m - 1]'hpm)) (by rw [nums_length, HKp.out.1]; exact aggKey) HD1.out ?_ _ rfl rfl; rfl) (by assumption) ?_
              try simp only [Act.put, List.setIfInBounds_toArray, List.set_cons_zero, List.set_cons_succ]
              refine tkI 9 (by simp only [List.getElem?_toArray, List.getElem?_cons_zero, List.getElem?_cons_succ]; rfl) (by kernel_rfl) (by exact fun _ _ _ h => h) (by first | (exact Or.inl ⟨by rfl, by intro w hSw; (try dsimp only at hSw); go_simp; with_reducible rfl⟩) | (exact Or.inr ⟨by rfl, by rfl⟩)) (by assumption) ?_
              try simp only [Act.put, List.setIfInBounds_toArray, List.set_cons_zero, List.set_cons_succ]
              refine wpAnyH_done (by kernel_rfl) ?_ _
              have HB4 := Lib.hid (HB3.out.ext hHeld)
              have HG2 := Lib.hid (grown_ext HG.out hHeld)
              clear hHeld
              go_wp2
              go_roundw
              case rel => exact ⟨i, m + 1, by omega, by omega, by omega, rfl, by go_num, ⟨F, by rw [← Nat.add_assoc, HSTEP.out (j + m) (by omega) hlm, if_pos HQ2.out, List.append_nil, HF.out], hFl, cur', HB4.out, hs', HA1.out, fun q hq h => HA2.out q hq (by omega)⟩, HG2.out⟩
              case measure => simp [intOf]; omega
            | false =>
              have hneq : ∀ W, (binOp .neq 28 (.agg (nums .u8 xs[j + m]).toArray) (.agg (nums .u8 (xs[j + m - 1]'hpm)).toArray)).run Try.prog W = .ok (.bool true) W := fun W => by
                have := run_neqKey xs[j + m] (xs[j + m - 1]'hpm) HKm.out HKp.out W
                rw [hq2] at this
                exact this
              have HQ2 := Lib.hid (of_decide_eq_false hq2)
              clear hq2
              go_wp2_with fail
              refine wp_region_held_drew (S := fun W => Ext wr W) (by kernel_rfl) (Ext.refl _).drew (fun hHeld => ?_)
              iterate 3
                refine tkD 0 (by simp only [List.size_toArray, List.length_cons, List.length_nil]; rfl) (by simp only [List.getElem?_toArray, List.getElem?_cons_zero, List.getElem?_cons_succ]; rfl) (by kernel_rfl) (by exact fun _ _ _ h => h) (by first | (exact Or.inl ⟨by rfl, by intro w hSw; (try dsimp only at hSw); go_simp; with_reducible rfl⟩) | (exact Or.inr ⟨by rfl, by rfl⟩)) (by assumption) ?_
                try simp only [Act.put, List.setIfInBounds_toArray, List.set_cons_zero, List.set_cons_succ]
              refine tkI 3 (v := (.agg (nums .u8 xs[j + m]).toArray)) (by simp only [List.getElem?_toArray, List.getElem?_cons_zero, List.getElem?_cons_succ]; rfl) (by kernel_rfl) (by exact fun _ _ _ h => h) (by refine yields_loadR g (j * 32 + m * 32) (nums .u8 xs[j + m]) (by rw [nums_length, HKm.out.1]; exact aggKey) HD0.out ?_ _ rfl rfl; rfl) (by assumption) ?_
              try simp only [Act.put, List.setIfInBounds_toArray, List.set_cons_zero, List.set_cons_succ]
              iterate 4
                refine tkD 0 (by simp only [List.size_toArray, List.length_cons, List.length_nil]; rfl) (by simp only [List.getElem?_toArray, List.getElem?_cons_zero, List.getElem?_cons_succ]; rfl) (by kernel_rfl) (by exact fun _ _ _ h => h) (by first | (exact Or.inl ⟨by rfl, by intro w hSw; (try dsimp only at hSw); go_simp; with_reducible rfl⟩) | (exact Or.inr ⟨by rfl, by rfl⟩)) (by assumption) ?_
                try simp only [Act.put, List.setIfInBounds_toArray, List.set_cons_zero, List.set_cons_succ]
              refine tkI 8 (v := (.agg (nums .u8 (xs[j + m - 1]'hpm)).toArray)) (by simp only [List.getElem?_toArray, List.getElem?_cons_zero, List.getElem?_cons_succ]; rfl) (by kernel_rfl) (by exact fun _ _ _ h => h) (by refine yields_loadR g (j * 32 + (m - 1) * 32) (nums .u8 (xs[j + m - 1]'hpm)) (by rw [nums_length, HKp.out.1]; exact aggKey) HD1.out ?_ _ rfl rfl; rfl) (by assumption) ?_
              try simp only [Act.put, List.setIfInBounds_toArray, List.set_cons_zero, List.set_cons_succ]
              refine tkI 9 (by simp only [List.getElem?_toArray, List.getElem?_cons_zero, List.getElem?_cons_succ]; rfl) (by kernel_rfl) (by exact fun _ _ _ h => h) (by first | (exact Or.inl ⟨by rfl, by intro w hSw; (try dsimp only at hSw); go_simp; with_reducible rfl⟩) | (exact Or.inr ⟨by rfl, by rfl⟩)) (by assumption) ?_
              try simp only [Act.put, List.setIfInBounds_toArray, List.set_cons_zero, List.set_cons_succ]
              refine wpAnyH_done (by kernel_rfl) ?_ _
              have HB4 := Lib.hid (HB3.out.ext hHeld)
              have HG2 := Lib.hid (grown_ext HG.out hHeld)
              have HD2 := Lib.hid (fun q u hu => hHeld.cell (HD0.out q u hu))
              have hin : i * 32 + 32 ≤ cur'.size := by rw [hs']; omega
              clear hHeld
              go_wp2_with (first
                | (refine wpl_load ⟨g, j * 32 + m * 32, none⟩ (nums .u8 xs[j + m]) (by rw [nums_length, hkl]; exact aggKey) rfl _ rfl rfl (fun q u hu => by rw [Addr.add_lit]; exact HD2.out q u hu) ?_)
                | (refine wpl_storeP (off := i * 32) HB4.out aggKey hst2 hin rfl _ _ rfl rfl rfl rfl ?_))
              go_roundw
              case rel => exact ⟨i + 1, m + 1, by omega, by omega, by omega, by go_num, by go_num, ⟨F ++ [xs[j + m]], by rw [← Nat.add_assoc, HSTEP.out (j + m) (by omega) hlm, if_neg HQ2.out, HF.out], by simp [hFl], _, HB4.out.setRow _, by rw [splice_size _ _ _ (by simpa [numsA, nums_length, hkl] using hin), hs'], fun q hq => by
                by_cases e : q = i
                · subst e
                  have e2 : (F ++ [xs[j + m]])[q] = xs[j + m] := by rw [List.getElem_append_right (by omega)]; simp
                  rw [e2]
                  exact at_putK cur' q xs[j + m] hkl (by omega)
                · have hqF : q < F.length := by simp at hq; omega
                  rw [List.getElem_append_left hqF]
                  exact at_farK hkl (HFO.out _ (List.getElem_mem hqF)) hin e (HA1.out q hqF), fun q hq h => at_farK hkl (HOK.out _ (List.getElem_mem hq)).1 hin (by omega) (HA2.out q hq (by omega))⟩, grown_row HG2.out _⟩
              case measure => simp [intOf]; omega
          · have hme : j + m = xs.length := by omega
            have HF2 := Lib.hid (show compactL xs = F by have := HF.out; rwa [hme, List.take_length] at this)
            obtain ⟨cs, hcs1, hcs2, hcl⟩ := run_clearK (off := i * 32) (n := xs.length - i) (by omega) HB3.out (by rw [hs']; omega)
            have HC2 := Lib.hid hcs2
            have hi0 : (0 : Int) ≤ (i : Int) := by omega
            have hi2 : (i : Int) ≤ (xs.length : Int) := by omega
            have hi3 : (xs.length : Int) ≤ (cap0 : Int) := by omega
            have hi4 : (i : Int) ≤ (cap0 : Int) := by omega
            have hi5 : ¬ (m : Int) < ((xs.length - j : Nat) : Int) := by omega
            have hi6 : ¬ m < xs.length - j := by omega
            clear hcs2 hme
            go_wp2
            go_ret
            obtain rfl := hFl
            refine ⟨_, rfl, ?_, grown_row HG.out _⟩
            rw [HF2.out]
            refine own_of_atK (HB3.out.setRow cs) hgb (by rw [hcs1, hs']) (by omega) hcm (by omega) (fun x hx => ?_) (fun q hq z u hu => ?_)
            · rw [← HF2.out] at hx; exact HOK.out x (compactL_sub _ _ hx)
            · have hz : z < 32 := by
                have := (List.getElem?_eq_some_iff.1 hu).1
                rw [nums_length, (HFO.out _ (List.getElem_mem hq))] at this
                exact this
              rw [HC2.out _ (by omega)]
              exact HA1.out q hq z u hu
    · obtain rfl : j = xs.length := by omega
      have HE := Lib.hid (show compactL xs = xs by
        have := compactL_same (L := xs) xs.length (Nat.le_refl _) HNE.out
        rwa [List.take_length] at this)
      go_wp2
      go_ret
      exact ⟨_, rfl, by rw [HE.out]; exact HO.out.ext HX.out, ext_grown _ HX.out⟩
end Go.Proofs.Ytdjclllnmclocaa
/- The kit's contract of slices.SortFunc, laid at the keys of this seat. No condition. Printed by lay_key.py. -/
namespace Go.Proofs.Ytdjclllnmclocaa
open Go.Shelf
def sortKey_ren : Go.Shelf.Ren := ⟨fun | 6 => 84 | 15 => 97 | 14 => 105 | 28 => 111 | 29 => 110 | 20 => 114 | 21 => 115 | 22 => 116 | 23 => 117 | 24 => 118 | 25 => 119 | 26 => 120 | 27 => 121 | 46 => 126 | 47 => 127 | 48 => 128 | 49 => 129 | 50 => 130 | 57 => 132 | n => n, fun | 22 => 47 | 24 => 28 | 25 => 95 | 3 => 3 | 39 => 38 | 0 => 0 | 53 => 34 | 55 => 83 | 4 => 4 | 46 => 131 | 45 => 130 | 50 => 135 | 5 => 5 | 9 => 9 | 66 => 139 | 70 => 143 | 76 => 146 | 77 => 147 | n => n, fun | n => n⟩
theorem sortKey : Go.Proofs.SlLaysF0.n6 Try.prog sortKey_ren := {
  mixed := by kernel_rfl,
  f6 := ⟨Try.f84.name, by decide, Try.func84.trans (congrArg some (by kernel_rfl))⟩,
  f14 := ⟨Try.f105.name, by decide, Try.func105.trans (congrArg some (by kernel_rfl))⟩,
  f15 := Try.func97.trans (congrArg some (by kernel_rfl)),
  f20 := ⟨Try.f114.name, by decide, Try.func114.trans (congrArg some (by kernel_rfl))⟩,
  f21 := ⟨Try.f115.name, by decide, Try.func115.trans (congrArg some (by kernel_rfl))⟩,
  f22 := ⟨Try.f116.name, by decide, Try.func116.trans (congrArg some (by kernel_rfl))⟩,
  f23 := ⟨Try.f117.name, by decide, Try.func117.trans (congrArg some (by kernel_rfl))⟩,
  f24 := ⟨Try.f118.name, by decide, Try.func118.trans (congrArg some (by kernel_rfl))⟩,
  f25 := ⟨Try.f119.name, by decide, Try.func119.trans (congrArg some (by kernel_rfl))⟩,
  f26 := ⟨Try.f120.name, by decide, Try.func120.trans (congrArg some (by kernel_rfl))⟩,
  f27 := ⟨Try.f121.name, by decide, Try.func121.trans (congrArg some (by kernel_rfl))⟩,
  f28 := Try.func111.trans (congrArg some (by kernel_rfl)),
  f29 := Try.func110.trans (congrArg some (by kernel_rfl)),
  f46 := ⟨Try.f126.name, by decide, Try.func126.trans (congrArg some (by kernel_rfl))⟩,
  f47 := Try.func127.trans (congrArg some (by kernel_rfl)),
  f48 := Try.func128.trans (congrArg some (by kernel_rfl)),
  f49 := ⟨Try.f129.name, by decide, Try.func129.trans (congrArg some (by kernel_rfl))⟩,
  f50 := ⟨Try.f130.name, by decide, Try.func130.trans (congrArg some (by kernel_rfl))⟩,
  f57 := ⟨Try.f132.name, by decide, Try.func132.trans (congrArg some (by kernel_rfl))⟩,
  t0 := Try.underlying0,
  a0 := Try.isAgg0,
  z0 := Try.sizeOf0,
  v0 := Try.zeroValue0,
  t3 := Try.underlying3,
  a3 := Try.isAgg3,
  z3 := Try.sizeOf3,
  v3 := Try.zeroValue3,
  t4 := Try.underlying4,
  a4 := Try.isAgg4,
  z4 := Try.sizeOf4,
  v4 := Try.zeroValue4,
  t5 := Try.underlying5,
  a5 := Try.isAgg5,
  z5 := Try.sizeOf5,
  v5 := Try.zeroValue5,
  t9 := Try.underlying9,
  a9 := Try.isAgg9,
  z9 := Try.sizeOf9,
  v9 := Try.zeroValue9,
  t22 := Try.underlying47,
  a22 := Try.isAgg47,
  z22 := Try.sizeOf47,
  v22 := Try.zeroValue47,
  t25 := Try.underlying95,
  a25 := Try.isAgg95,
  z25 := Try.sizeOf95,
  v25 := Try.zeroValue95,
  t39 := Try.underlying38,
  a39 := Try.isAgg38,
  z39 := Try.sizeOf38,
  v39 := Try.zeroValue38,
  t45 := Try.underlying130,
  a45 := Try.isAgg130,
  z45 := Try.sizeOf130,
  v45 := Try.zeroValue130,
  t46 := Try.underlying131,
  a46 := Try.isAgg131,
  z46 := Try.sizeOf131,
  v46 := Try.zeroValue131,
  t50 := Try.underlying135,
  a50 := Try.isAgg135,
  z50 := Try.sizeOf135,
  v50 := Try.zeroValue135,
  t53 := Try.underlying34,
  a53 := Try.isAgg34,
  z53 := Try.sizeOf34,
  v53 := Try.zeroValue34,
  t55 := Try.underlying83,
  a55 := Try.isAgg83,
  z55 := Try.sizeOf83,
  v55 := Try.zeroValue83,
  t66 := Try.underlying139,
  a66 := Try.isAgg139,
  z66 := Try.sizeOf139,
  v66 := Try.zeroValue139,
  t70 := Try.underlying143,
  a70 := Try.isAgg143,
  z70 := Try.sizeOf143,
  v70 := Try.zeroValue143,
  t76 := Try.underlying146,
  a76 := Try.isAgg146,
  z76 := Try.sizeOf146,
  v76 := Try.zeroValue146,
  t77 := Try.underlying147,
  a77 := Try.isAgg147,
  z77 := Try.sizeOf147,
  v77 := Try.zeroValue147 }
end Go.Proofs.Ytdjclllnmclocaa
/- The program's sort of keys: what the kit's contract of slices.SortFunc leaves of a row of one's own; the sorted list of keys, each once. No condition. -/
namespace Go.Proofs.Ytdjclllnmclocaa
open Go.RowKit Go.Shelf Go.Lib Go.Sort
set_option linter.unusedVariables false
set_option linter.unusedSimpArgs false

/-- a list of keys, each with its proof -/
def keys7 (xs : List (List Int)) (h : ∀ x ∈ xs, K32 x) : List K7 := xs.pmap (fun l p => ⟨l, p⟩) h
theorem keys7_len (xs : List (List Int)) (h : ∀ x ∈ xs, K32 x) : (keys7 xs h).length = xs.length := by simp [keys7]
theorem keys7_map (xs : List (List Int)) (h : ∀ x ∈ xs, K32 x) : (keys7 xs h).map (·.1) = xs := by
  unfold keys7
  rw [List.map_pmap]
  simp
set_option maxHeartbeats 2000000 in
set_option maxRecDepth 100000 in
/-- slices.SortFunc with any order of keys on a row of one's own -/
theorem sortRowG (g : Nat) (cb : Array Value) (cf : K7 → K7 → Int) (hO : SWO (ltOf cf)) (eg : ∀ args w, (callFunc g args).run Try.prog w = .ok (.enter g args) w)
    (v : Value) (xs : List (List Int)) (w : World) (base : Nat) (h : Own tKey 28 w base v xs) (hcmp : ∀ blk size, base ≤ blk → CmpLays Try.prog g cb encK 32 cf blk 0 size w) :
    Calls Try.prog 84 #[v, .func (.func g) #[] cb] w fun q w' => q = .returned (.tuple #[]) ∧ ∃ E : List K7, (E.map (·.1)).Perm xs ∧ E.Pairwise (fun x y => ltOf cf y x = false) ∧ Own tKey 28 w' base v (E.map (·.1)) ∧ w.grownBy w' v.ownBlock := by
  have HO := Lib.hid h
  have hok : ∀ x ∈ xs, K32 x := h.2.2
  have hlen := h.2.1
  obtain ⟨A, cap0, rfl⟩ := h.shape
  clear h
  by_cases h0 : xs.length = 0
  · obtain rfl : xs = [] := List.eq_nil_of_length_eq_zero h0
    have hn := AnyF.slices_SortFunc_none (P := Try.prog) (ρ := sortKey_ren) sortKey A cap0 (.func (.func g) #[] cb) w
    change Calls Try.prog 84 _ _ _ at hn
    refine hn.mono ?_
    rintro e w' ⟨rfl, rfl⟩
    exact ⟨rfl, [], by simp, List.Pairwise.nil, HO.out, grown_refl _ _⟩
  obtain ⟨gb, cap, cur, e, hgb, hgl, hB, hcs, hnc, hcm, hat⟩ := at_of_ownK HO.out (by omega)
  obtain ⟨rfl, _, rfl⟩ := Value.slice.inj e
  obtain ⟨D, hD⟩ : ∃ D, (keys7 xs hok).toArray = D := ⟨_, rfl⟩
  have hDs : D.size = xs.length := by rw [← hD, List.size_toArray, keys7_len]
  have hDl : D.toList.map (·.1) = xs := by rw [← hD]; exact keys7_map xs hok
  have hDi : ∀ i (h : i < D.size), D[i].1 = xs[i]'(by omega) := by
    intro i h
    have e2 : (D.toList.map (·.1))[i]? = xs[i]? := by rw [hDl]
    rw [List.getElem?_map, Array.getElem?_toList, Array.getElem?_eq_getElem h, List.getElem?_eq_getElem (by omega : i < xs.length)] at e2
    simpa using e2
  have hH : HoldsK encK 32 w gb 0 D := holdsK_of D hB (fun i hi => by rw [hDi i hi]; exact hat i (by omega))
  have hcon := AnyQ.slices_SortFunc (P := Try.prog) (ρ := sortKey_ren) sortKey 32 Try.isAgg28 Try.sizeOf28 encK encK_len encK_one cf hO g cb gb 0 cap0 D w eg (hcmp gb D.size hgb) hH hgl (by omega)
  rw [hDs] at hcon
  change Calls Try.prog 84 _ _ _ at hcon
  refine hcon.mono ?_
  rintro e w' ⟨rfl, d', n, os, ⟨hp1, _, hp2⟩, hs, rfl⟩
  have e1 : d'.extract 0 xs.length = d' := by rw [← hDs, ← hp1]; exact Array.extract_size
  have e2 : D.extract 0 xs.length = D := by rw [← hDs]; exact Array.extract_size
  rw [e1, e2] at hp2
  have hperm : (d'.toList.map (·.1)).Perm xs := by rw [← hDl]; exact hp2.map _
  obtain ⟨cur', hB', hs', hat', hg⟩ := sortWorld_blk n d' os hB (by rw [hp1, hDs, hcs]; omega)
  have hlen' : (d'.toList.map (·.1)).length = xs.length := hperm.length_eq
  refine ⟨rfl, d'.toList, hperm, ?_, ?_, hg⟩
  · rw [List.pairwise_iff_getElem]
    intro i j hi hj hij
    have hi' : i < d'.size := by simpa using hi
    have hj' : j < d'.size := by simpa using hj
    have := hs i j (Nat.zero_le _) hij (by omega)
    rw [getElem!_pos d' j hj', getElem!_pos d' i hi'] at this
    simpa using this
  · rw [← hlen']
    refine own_of_atK hB' hgb (by rw [hs', hcs]) (by omega) hcm (by omega) (fun x hx => hok x (hperm.subset hx)) (fun i hi => ?_)
    rw [List.length_map, Array.length_toList] at hi
    have := hat' i hi
    simpa using this
/-- slices.SortFunc with compareKeys -/
theorem sortRowK (v : Value) (xs : List (List Int)) (w : World) (base : Nat) (h : Own tKey 28 w base v xs) :
    Calls Try.prog 84 #[v, .func (.func 64) #[] #[]] w fun q w' => q = .returned (.tuple #[]) ∧ ∃ D : List (List Int), D.Perm xs ∧ D.Pairwise (fun a b => cmpL a b ≤ 0) ∧ Own tKey 28 w' base v D ∧ w.grownBy w' v.ownBlock := by
  refine (sortRowG 64 #[] cfK swoK (enters_of Try.func64 (by kernel_rfl) rfl) v xs w base h (fun blk size _ => cmpLaysK blk 0 size w)).mono ?_
  rintro q w' ⟨rfl, E, h1, h2, h3, h4⟩
  refine ⟨rfl, E.map (·.1), h1, ?_, h3, h4⟩
  rw [List.pairwise_map]
  refine h2.imp ?_
  intro a b hab
  unfold ltOf cfK at hab
  simp only [decide_eq_false_iff_not] at hab
  have := cmpL7_neg a.1 b.1
  omega
/-- the sorted keys, each once -/
theorem sortedK_any (v : Value) (xs : List (List Int)) (w : World) (S : Nat → Prop) (h : RdL tKey w S v xs) (hl : xs.length ≤ 1048576) :
    Calls Try.prog 80 #[v] w fun q w' => ∃ v' D, q = .returned v' ∧ D.Perm xs ∧ D.Pairwise (fun a b => cmpL a b ≤ 0) ∧ Own tKey 28 w' w.heap.size v' (compactL D) ∧ Ext w w' := by
  have hcl := cloneK_any v xs w S h (by omega)
  obtain ⟨A, cap, rfl, _⟩ := id h
  clear h
  go_enter Try.func80, Try.ntmps80
  go_wp2_with fail
  refine hcl.mono ?_
  rintro e w1 ⟨v1, rfl, ho, hx⟩
  have hsr := sortRowK v1 xs w1 _ ho
  obtain ⟨A1, cap1, rfl⟩ := ho.shape
  have HX := Lib.hid hx
  clear ho hx hcl
  go_wp2_with fail
  refine hsr.mono ?_
  rintro e w2 ⟨rfl, D, hp, hs, ho, hg⟩
  have hcp := compactK_any _ D w2 _ ho
  have HX2 := Lib.hid (HX.out.grown hg (fun k hk => (ho.base_le k hk).1))
  have HO := Lib.hid ho
  have HP := Lib.hid hp
  have HS := Lib.hid hs
  clear hg ho hsr hp hs
  go_wp2_with fail
  refine hcp.mono ?_
  rintro e w3 ⟨v3, rfl, ho, hg⟩
  have HX3 := Lib.hid (HX2.out.grown hg (fun k hk => (HO.out.base_le k hk).1))
  have HO3 := Lib.hid ho
  obtain ⟨A3, cap3, rfl⟩ := ho.shape
  clear hg ho hcp
  go_wp2
  go_ret
  exact ⟨_, D, rfl, HP.out, HS.out, HO3.out, HX3.out⟩
end Go.Proofs.Ytdjclllnmclocaa
/- Two variables of a struct's type, made and filled at once. No condition. -/
namespace Go.Proofs.Ytdjclllnmclocaa
open Go.RowKit Go.BigFrame
set_option linter.unusedVariables false
set_option linter.unusedSimpArgs false

end Go.Proofs.Ytdjclllnmclocaa
/- Texts of keys by the reference; prefixes; keys that have one. No condition. -/
namespace Go.Proofs.Ytdjclllnmclocaa
open Go.RowKit
set_option linter.unusedVariables false
set_option linter.unusedSimpArgs false

set_option maxHeartbeats 1000000 in
set_option maxRecDepth 100000 in
theorem l01Digit_any (k : List Int) (hk : K32 k) (i : Nat) (hi : i < 64) (w : World) : Calls Try.prog 104 #[.agg (numsA .u8 k), .int .i64 i] w fun e w' => e = .returned (.int .u8 (if i % 2 = 0 then gI k (i / 2) / 16 else gI k (i / 2) % 16)) ∧ Ext w w' := by
  have c0 := (Blk.new w 28 (numsA .u8 k)).num (i / 2) (by rw [hk.1]; omega)
  have hz := hk.2.get (i / 2)
  have HX := Lib.hid (ext_alloc w (.cells (numsA .u8 k) 28))
  generalize gI k (i / 2) = z at c0 hz ⊢
  have q0 : (0 : Int) ≤ (i : Int) := by omega
  have q1 : Int.tmod (i : Int) 2 = ((i % 2 : Nat) : Int) := by rw [Int.tmod_eq_emod_of_nonneg (by omega)]; omega
  have q2 : Int.tdiv (i : Int) 2 = ((i / 2 : Nat) : Int) := by rw [Int.tdiv_eq_ediv_of_nonneg (by omega)]; omega
  have q3 : ((i / 2 : Nat) : Int) < 32 := by omega
  have q4 : Int.tdiv z 16 = z / 16 := by rw [Int.tdiv_eq_ediv_of_nonneg (by omega)]
  have q5 : Int.tmod z 16 = z % 16 := by rw [Int.tmod_eq_emod_of_nonneg (by omega)]
  have q6 : (i : Int) / 2 < 32 := by omega
  have q7 : 0 ≤ (i : Int) / 2 := by omega
  by_cases h2 : i % 2 = 0
  · rw [if_pos h2]
    have p1 : ((i : Int) % 2 == 0) = true := by rw [beq_iff_eq]; omega
    go_enter Try.func104, Try.ntmps104
    go_wp2
    go_ret
    exact ⟨rfl, HX.out⟩
  · rw [if_neg h2]
    have p1 : ((i : Int) % 2 == 0) = false := by rw [beq_eq_false_iff_ne]; omega
    go_enter Try.func104, Try.ntmps104
    go_wp2
    go_ret
    exact ⟨rfl, HX.out⟩
theorem textK_dg (k : List Int) (hk : k.length = 32) (i : Nat) (hi : i < 64) : gI (textK k) i = hexD (if i % 2 = 0 then gI k (i / 2) / 16 else gI k (i / 2) % 16) := by
  obtain ⟨h1, h2⟩ := textK_at k (i / 2) (by omega)
  by_cases h : i % 2 = 0
  · rw [if_pos h, ← h1]; congr 1; omega
  · rw [if_neg h, ← h2]; congr 1; omega
theorem own_ne {v v' : Value} {n g0 : Nat} (hn : ∀ g, v.ownBlock = some g → g ≠ g0) (hat : v'.ownBlock = v.ownBlock ∨ v'.ownBlock = some n) (hlt : g0 < n) : ∀ g, v'.ownBlock = some g → g ≠ g0 := fun g hg => by
  rcases hat with h | h
  · exact hn g (by rw [← h]; exact hg)
  · rw [h] at hg
    have := Option.some.inj hg
    omega
set_option maxHeartbeats 1000000 in
set_option maxRecDepth 100000 in
theorem l01Text_any (k : List Int) (hk : K32 k) (w : World) : Calls Try.prog 83 #[.agg (numsA .u8 k)] w fun e w' => e = .returned (.string (strOfNums (textK k))) ∧ Ext w w' := by
  have hks := sizeN (k := .u8) hk.1
  have HK := Lib.hid hk
  have HTL := Lib.hid (show (textK k).length = 64 by rw [textK_length, hk.1])
  have B0 := Lib.hid ((Blk.new w 28 (numsA .u8 k)).alloc (.cells #[] 5))
  have HX0 := Lib.hid ((ext_alloc w (.cells (numsA .u8 k) 28)).alloc (.cells #[] 5))
  have HO0 := Lib.hid (show Own tByte 5 ((w.alloc (.cells (numsA .u8 k) 28)).alloc (.cells #[] 5)) w.heap.size (.slice (some ⟨w.heap.size + 1, 0, none⟩) 0 0) [] from Own.empty' tByte (by simp) _ _ (by simp))
  clear hk
  go_enter Try.func83, Try.ntmps83
  go_wp2
  go_loopw [3, 4] (fun o i wr => ∃ q : Nat, q ≤ 64 ∧ i = .int .i64 q ∧ Own tByte 5 wr w.heap.size o ((textK k).take q) ∧ Blk wr w.heap.size 28 (numsA .u8 k) ∧ (∀ g, o.ownBlock = some g → g ≠ w.heap.size) ∧ Ext w wr) (fun _ i _ => 64 - (intOf i).toNat)
  case atStart => exact ⟨0, by omega, rfl, by rw [List.take_zero]; exact HO0.out, B0.out, fun g hg => (have e : w.heap.size + 1 = g := (by simpa [Value.ownBlock] using hg); by omega), HX0.out⟩
  case round =>
    obtain ⟨q, hq, rfl, ho, hb, hne, hx⟩ := hrel
    obtain ⟨C, cn, cc, rfl⟩ := ho.shape3
    have HX := Lib.hid hx
    have HO := Lib.hid ho
    have HB := Lib.hid hb
    have HNE := Lib.hid hne
    clear hx ho hb hne B0 HX0 HO0
    by_cases hlt : q < 64
    · have hqI : (q : Int) < 64 := by omega
      have hq0 : (0 : Int) ≤ (q : Int) := by omega
      have HTS := Lib.hid (take_snoc (textK k) q (by rw [HTL.out]; exact hlt))
      have hdg := textK_dg k HK.out.1 q hlt
      have HDC := Lib.hid (fun W => l01Digit_any k HK.out q hlt W)
      have hz := HK.out.2.get (q / 2)
      have hz2 : 0 ≤ (if q % 2 = 0 then gI k (q / 2) / 16 else gI k (q / 2) % 16) ∧ (if q % 2 = 0 then gI k (q / 2) / 16 else gI k (q / 2) % 16) ≤ 15 := by split <;> omega
      generalize (if q % 2 = 0 then gI k (q / 2) / 16 else gI k (q / 2) % 16) = n at hdg HDC hz2
      rw [hdg] at HTS
      have hd1 := fun W => run_digit hz2 .u8 W
      have hdk := hexD_ok hz2
      generalize hexD n = d at HTS hd1 hdk
      have HDD := Lib.hid (show tByte.ok d from ⟨by omega, by omega⟩)
      clear hdg hz
      go_wp2_with (refine wpl_loadB HB.out aggKey hks rfl _ rfl rfl ?_)
      refine (HDC.out _).mono ?_
      rintro e w5 ⟨rfl, hx⟩
      have HX5 := Lib.hid (HX.out.trans hx)
      have HO5 := Lib.hid (HO.out.ext hx)
      have HB5 := Lib.hid (HB.out.ext hx)
      have HTK := Lib.hid (show ((textK k).take q).length ≤ 64 by rw [List.length_take]; omega)
      clear hx HDC HX HO HB
      go_wp2_with (at_builtin; refine wpl_append rowByteA rfl _ _ rfl (v := .slice C cn cc) rfl (HO5.out.alloc (.cells #[.int .u8 d] 5)) _ _ rfl (A := some ⟨w5.heap.size, 0, none⟩) (ys := [d]) rfl (rd_one (T := tByte) w5 d HDD.out _) (by intro y hy; obtain rfl := List.mem_singleton.1 hy; exact HDD.out) (by have := HTK.out; simp; omega) (HX5.out.alloc _).size ?_; intro v9 w9 ho9 hg9 hat9; have HX9 := Lib.hid ((HO5.out.alloc (.cells #[.int .u8 d] 5)).ext_app (HX5.out.alloc _) hg9); have HO9 := Lib.hid ho9; have HB9 := Lib.hid ((HB5.out.alloc (.cells #[.int .u8 d] 5)).grown hg9 (fun e => HNE.out _ e.symm rfl)); have HN9 := Lib.hid (show ∀ g, v9.ownBlock = some g → g ≠ w.heap.size from own_ne HNE.out hat9 (Nat.lt_of_lt_of_le HB5.out.lt (by simp))); obtain ⟨C9, n9, c9, rfl⟩ := ho9.shape3; clear ho9 hg9 hat9)
      go_roundw
      case rel => exact ⟨q + 1, by omega, by go_num, by rw [HTS.out]; exact HO9.out, HB9.out, HN9.out, HX9.out⟩
      case measure => simp [intOf]; omega
    · obtain rfl : q = 64 := by omega
      have hT : (textK k).take 64 = textK k := by rw [List.take_of_length_le (by rw [HTL.out]; exact Nat.le_refl _)]
      rw [hT] at HO
      have hcv := conv_str HO.out.rd
      obtain ⟨T, hT2⟩ : ∃ T, strOfNums (textK k) = T := ⟨_, rfl⟩
      have HT := Lib.hid hT2
      rw [hT2] at hcv
      clear hT2 hT
      go_wp2
      go_ret
      exact ⟨by rw [HT.out]; rfl, HX.out⟩
set_option maxHeartbeats 1000000 in
set_option maxRecDepth 100000 in
theorem specKeyText_any (k : List Int) (hk : K32 k) (w : World) : Calls Try.prog 42 #[.agg (numsA .u8 k)] w fun e w' => e = .returned (.string (strOfNums (textK k))) ∧ Ext w w' := by
  have hks := sizeN (k := .u8) hk.1
  have HC := Lib.hid (fun W => l01Text_any k hk W)
  have B0 := Lib.hid (Blk.new w 28 (numsA .u8 k))
  generalize strOfNums (textK k) = T at HC ⊢
  go_enter Try.func42, Try.ntmps42
  go_wp2_with (refine wpl_loadB B0.out aggKey hks rfl _ rfl rfl ?_)
  refine (HC.out _).mono ?_
  rintro e w1 ⟨rfl, hx⟩
  have HX := Lib.hid ((ext_alloc w (.cells (numsA .u8 k) 28)).trans hx)
  clear hx
  go_wp2
  go_ret
  exact ⟨rfl, HX.out⟩
theorem str_take (xs : List Int) (n : Nat) (h : n ≤ xs.length) : (strOfNums xs).extract 0 n = strOfNums (xs.take n) := by
  apply ByteArray.ext
  apply Array.toList_inj.1
  simp [strOfNums, ByteArray.data_extract, Array.toList_extract, List.extract, List.map_take]
set_option maxHeartbeats 1000000 in
set_option maxRecDepth 100000 in
theorem hasLite_any (T P : List Int) (hT : B8 T) (hP : B8 P) (hl : P.length ≤ T.length) (w : World) : Calls Try.prog 113 #[.string (strOfNums T), .string (strOfNums P)] w fun e w' => e = .returned (.bool (decide (T.take P.length = P))) ∧ w = w' := by
  have h1 := strOf_eq (xs := T.take P.length) (ys := P) (hT.take _) hP
  rw [← str_take T P.length hl] at h1
  have h2 : (T.take P.length == P) = decide (T.take P.length = P) := by rw [Bool.eq_iff_iff, beq_iff_eq, decide_eq_true_iff]
  rw [h2] at h1
  have s1 := strOfNums_size T
  have s2 := strOfNums_size P
  generalize decide (T.take P.length = P) = R at h1 ⊢
  generalize strOfNums T = ST at h1 s1 ⊢
  generalize strOfNums P = SP at h1 s2 ⊢
  have q1 : (P.length : Int) ≤ (T.length : Int) := by omega
  have q2 : (0 : Int) ≤ (P.length : Int) := by omega
  clear h2 hT hP
  go_enter Try.func113, Try.ntmps113
  go_wp2
  go_ret
  exact ⟨rfl, rfl⟩
set_option maxHeartbeats 1000000 in
set_option maxRecDepth 100000 in
theorem hasPrefix_any (T P : List Int) (hT : B8 T) (hP : B8 P) (hl : P.length ≤ T.length) (w : World) : Calls Try.prog 103 #[.string (strOfNums T), .string (strOfNums P)] w fun e w' => e = .returned (.bool (decide (T.take P.length = P))) ∧ w = w' := by
  have HC := Lib.hid (fun W => hasLite_any T P hT hP hl W)
  generalize decide (T.take P.length = P) = R at HC ⊢
  generalize strOfNums T = ST at HC ⊢
  generalize strOfNums P = SP at HC ⊢
  go_enter Try.func103, Try.ntmps103
  go_wp2_with fail
  refine (HC.out _).mono ?_
  rintro e w' ⟨rfl, rfl⟩
  go_wp2
  go_ret
  exact ⟨rfl, rfl⟩
end Go.Proofs.Ytdjclllnmclocaa
/- Keys with a prefix: the program. No condition. -/
namespace Go.Proofs.Ytdjclllnmclocaa
open Go.RowKit
set_option linter.unusedVariables false
set_option linter.unusedSimpArgs false

set_option maxHeartbeats 1000000 in
set_option maxRecDepth 100000 in
theorem prefFn_any (x P : List Int) (hx : K32 x) (hP : B8 P) (hPl : P.length ≤ 64) (p : Nat) (w : World) (hp : Blk w p 9 #[.string (strOfNums P)]) :
    Calls Try.prog 102 #[.agg (numsA .u8 x), .pointer (some ⟨p, 0, none⟩)] w fun q w' => q = .returned (.bool (!hasP P x)) ∧ Ext w w' := by
  have hs1 := sizeN (k := .u8) hx.1
  have BX := Lib.hid (Blk.new w 28 (numsA .u8 x))
  have HE := Lib.hid (ext_alloc w (.cells (numsA .u8 x) 28))
  have HP := Lib.hid (hp.alloc (.cells (numsA .u8 x) 28))
  have HT := Lib.hid (fun W => keyText_any x hx W)
  have HC := Lib.hid (fun W => hasPrefix_any (textK x) P (textK_ok hx.2) hP (by rw [textK_length, hx.1]; exact hPl) W)
  rw [← hasP_eq] at HC
  generalize strOfNums (textK x) = TX at HT HC
  generalize strOfNums P = TP at hp HP HC
  generalize hasP P x = R at HC ⊢
  clear hp hx hP hPl
  go_enter Try.func102, Try.ntmps102
  go_wp2_with fail
  generalize w.alloc (.cells (numsA .u8 x) 28) = w1 at BX HE HP ⊢
  refine wp_region_held_drew (S := fun W => Ext w1 W) (by kernel_rfl) (Ext.refl _).drew (fun hHeld => ?_)
  refine tkI 0 (v := (.agg (numsA .u8 x))) (by simp only [List.getElem?_toArray, List.getElem?_cons_zero, List.getElem?_cons_succ]; rfl) (by kernel_rfl) (by exact fun _ _ _ h => h) (by refine yields_loadBSP (fun W hW => BX.out.ext hW) aggKey hs1 ?_ _ rfl rfl; rfl) (by assumption) ?_
  try simp only [Act.put, List.setIfInBounds_toArray, List.set_cons_zero, List.set_cons_succ]
  refine tkI 2 (by simp only [List.getElem?_toArray, List.getElem?_cons_zero, List.getElem?_cons_succ]; rfl) (by kernel_rfl) (by exact fun _ _ _ h => h) (by exact Or.inl ⟨by rfl, by intro W hSw; have e8 := (HP.out.ext hSw).at_ 0 rfl; go_simp; with_reducible rfl⟩) (by assumption) ?_
  try simp only [Act.put, List.setIfInBounds_toArray, List.set_cons_zero, List.set_cons_succ]
  refine wpAnyH_ready (rs := [1]) (by kernel_rfl) (by simp) (AllReadyH.cons (o := ?oy31) ?hy31 (fun K hK => ?sy31) AllReadyH.nil)
  case hy31 => simp only [List.getElem?_toArray, List.getElem?_cons_zero, List.getElem?_cons_succ]; rfl
  go_simp
  refine (HT.out _).mono ?_
  rintro e w2 ⟨rfl, hx⟩
  have hH2 := hHeld.trans hx
  refine hK.out _ _ hH2 (fun _ => ?_)
  clear hHeld hK K
  have hHeld := hH2
  clear hH2
  try simp only [Act.put, List.setIfInBounds_toArray, List.set_cons_zero, List.set_cons_succ]
  refine wpAnyH_ready (rs := [3]) (by kernel_rfl) (by simp) (AllReadyH.cons (o := ?oy43) ?hy43 (fun K hK => ?sy43) AllReadyH.nil)
  case hy43 => simp only [List.getElem?_toArray, List.getElem?_cons_zero, List.getElem?_cons_succ]; rfl
  go_simp
  refine (HC.out _).mono ?_
  rintro e w3 ⟨rfl, rfl⟩
  have hH2 := hHeld.trans (Ext.refl _)
  refine hK.out _ _ hH2 (fun _ => ?_)
  clear hHeld hK K
  have hHeld := hH2
  clear hH2
  try simp only [Act.put, List.setIfInBounds_toArray, List.set_cons_zero, List.set_cons_succ]
  iterate 2
    refine tkD 0 (by simp only [List.size_toArray, List.length_cons, List.length_nil]; rfl) (by simp only [List.getElem?_toArray, List.getElem?_cons_zero, List.getElem?_cons_succ]; rfl) (by kernel_rfl) (by exact fun _ _ _ h => h) (by first | (exact Or.inl ⟨by rfl, by intro w hSw; (try dsimp only at hSw); go_simp; with_reducible rfl⟩) | (exact Or.inr ⟨by rfl, by rfl⟩)) (by assumption) ?_
    try simp only [Act.put, List.setIfInBounds_toArray, List.set_cons_zero, List.set_cons_succ]
  refine wpAnyH_done (by kernel_rfl) ?_ _
  have HF := Lib.hid (HE.out.trans hHeld)
  clear hHeld
  go_wp2
  go_ret
  exact ⟨rfl, HF.out⟩
theorem filter_next8 (p : List Int → Bool) (L : List (List Int)) (k : Nat) (h : k < L.length) : (L.take (k + 1)).filter p = (L.take k).filter p ++ (if p L[k] then [L[k]] else []) := by
  rw [List.take_succ_eq_append_getElem h, List.filter_append]
  congr 1
  by_cases hp : p L[k] <;> simp [hp]
theorem filter_all8 {p : List Int → Bool} {L : List (List Int)} {k : Nat} (hk : k ≤ L.length) (h : ∀ j (hj : j < L.length), j < k → p L[j] = true) : (L.take k).filter p = L.take k := by
  rw [List.filter_eq_self]
  intro x hx
  obtain ⟨i, hi, rfl⟩ := List.getElem_of_mem hx
  rw [List.getElem_take]
  rw [List.length_take] at hi
  exact h i (by omega) (by omega)
set_option maxHeartbeats 1000000 in
set_option maxRecDepth 100000 in
theorem prefIdx_any (v : Value) (xs : List (List Int)) (P : List Int) (hP : B8 P) (hPl : P.length ≤ 64) (p : Nat) (w : World) (S : Nat → Prop) (h : RdL tKey w S v xs) (hp : Blk w p 9 #[.string (strOfNums P)]) :
    Calls Try.prog 112 #[v, .func (.func 102) #[] #[.pointer (some ⟨p, 0, none⟩)]] w fun q w' => (∃ k : Nat, k ≤ xs.length ∧ (∀ j (hj : j < xs.length), j < k → hasP P xs[j] = true) ∧ ((k = xs.length ∧ q = .returned (.int .i64 (-1))) ∨ (∃ hk : k < xs.length, hasP P xs[k] = false ∧ q = .returned (.int .i64 k)))) ∧ Ext w w' := by
  obtain ⟨A, cap, rfl, hcap, hlen, hrd, hok⟩ := h
  have Hrd := Lib.hid hrd
  have Hok := Lib.hid hok
  have HP := Lib.hid hp
  clear hrd hok hp
  go_enter Try.func112, Try.ntmps112
  go_wp2
  go_loopw [8] (fun i wr => ∃ k : Nat, k ≤ xs.length ∧ i = .int .i64 k ∧ (∀ j (hj : j < xs.length), j < k → hasP P xs[j] = true) ∧ Ext w wr) (fun i _ => xs.length - (intOf i).toNat)
  case atStart => exact ⟨0, by omega, rfl, fun j hj h => by omega, Ext.refl _⟩
  case round =>
    obtain ⟨k, hk, rfl, hm, hx⟩ := hrel
    have HX := Lib.hid hx
    have HM := Lib.hid hm
    clear hx hm
    by_cases hlt : k < xs.length
    · obtain ⟨g, o, rfl, hs0, hc⟩ := Hrd.out.elem Hok.out k hlt
      have HD0 := Lib.hid (show ∀ j u, (nums .u8 xs[k])[j]? = some u → wr.cell? ⟨g, o + k * 32 + j, none⟩ = some u from fun j u hu => HX.out.cell (hc j u hu))
      have HK := Lib.hid (show K32 xs[k] from Hok.out _ (List.getElem_mem hlt))
      have hkl := HK.out.1
      have hf := prefFn_any xs[k] P HK.out hP hPl p wr (HP.out.ext HX.out)
      have hk0 : (0 : Int) ≤ (k : Int) := by omega
      have hk2 : (k : Int) < (xs.length : Int) := by omega
      clear hc
      cases hq : hasP P xs[k] with
      | true =>
        simp only [hq] at hf
        go_wp2_with (refine wpl_load ⟨g, o + k * 32, none⟩ (nums .u8 xs[k]) (by rw [nums_length, hkl]; exact aggKey) rfl _ rfl rfl (fun j u hu => by rw [Addr.add_lit]; exact HD0.out j u hu) ?_)
        refine hf.mono ?_
        rintro e w1 ⟨rfl, hx⟩
        have HX1 := Lib.hid (HX.out.trans hx)
        clear hx hf
        go_wp2
        go_roundw
        case rel => exact ⟨k + 1, by omega, by go_num, fun j hj h => by
          by_cases e : j = k
          · subst e; exact hq
          · exact HM.out j hj (by omega), HX1.out⟩
        case measure => simp [intOf]; omega
      | false =>
        simp only [hq] at hf
        go_wp2_with (refine wpl_load ⟨g, o + k * 32, none⟩ (nums .u8 xs[k]) (by rw [nums_length, hkl]; exact aggKey) rfl _ rfl rfl (fun j u hu => by rw [Addr.add_lit]; exact HD0.out j u hu) ?_)
        refine hf.mono ?_
        rintro e w1 ⟨rfl, hx⟩
        have HX1 := Lib.hid (HX.out.trans hx)
        clear hx hf
        go_wp2
        go_ret
        exact ⟨⟨k, hk, HM.out, .inr ⟨hlt, hq, rfl⟩⟩, HX1.out⟩
    · obtain rfl : k = xs.length := by omega
      go_wp2
      go_ret
      exact ⟨⟨xs.length, hk, HM.out, .inl ⟨rfl, rfl⟩⟩, HX.out⟩
set_option maxHeartbeats 1000000 in
set_option maxRecDepth 100000 in
theorem prefDel_any (v : Value) (xs : List (List Int)) (P : List Int) (hP : B8 P) (hPl : P.length ≤ 64) (p : Nat) (w : World) (base : Nat) (h : Own tKey 28 w base v xs) (hpb : p < base) (hp : Blk w p 9 #[.string (strOfNums P)]) :
    Calls Try.prog 101 #[v, .func (.func 102) #[] #[.pointer (some ⟨p, 0, none⟩)]] w fun q w' => ∃ v', q = .returned v' ∧ Own tKey 28 w' base v' (xs.filter (hasP P)) ∧ w.grownBy w' v.ownBlock := by
  have hix := prefIdx_any v xs P hP hPl p w _ h.rd hp
  have HO := Lib.hid h
  have HP := Lib.hid hp
  have hlen := h.2.1
  obtain ⟨A, n, cap, rfl⟩ := h.shape3
  clear hp h
  go_enter Try.func101, Try.ntmps101
  go_wp2_with fail
  refine hix.mono ?_
  rintro q w1 ⟨⟨k, hk, hm, hq⟩, hx⟩
  have HX := Lib.hid hx
  clear hx hix
  rcases hq with ⟨rfl, rfl⟩ | ⟨hlt, hout, rfl⟩
  · have e : xs.filter (hasP P) = xs := by
      have := filter_all8 (p := hasP P) hk hm
      rwa [List.take_length] at this
    have HE := Lib.hid e
    clear e hm
    go_wp2
    go_ret
    exact ⟨_, rfl, by rw [HE.out]; exact HO.out.ext HX.out, ext_grown _ HX.out⟩
  · obtain ⟨g, cap', cur, e, hgb, hgl, hB, hcs, hnc, hcm, hat⟩ := at_of_ownK HO.out (by omega)
    obtain ⟨rfl, rfl, rfl⟩ := Value.slice.inj e
    have HB := Lib.hid (hB.ext HX.out)
    have HAT := Lib.hid hat
    have HOK := Lib.hid HO.out.2.2
    have HF := Lib.hid (filter_all8 (p := hasP P) hk hm)
    have hki : ((k : Int) == -1) = false := by rw [beq_eq_false_iff_ne]; omega
    clear hB hat hm e
    go_wp2
    go_loopw [5, 6] (fun a b wr => ∃ i j : Nat, i < j ∧ j ≤ xs.length ∧ a = .int .i64 i ∧ b = .int .i64 j ∧ (∃ F, (xs.take j).filter (hasP P) = F ∧ F.length = i ∧ ∃ cur', Blk wr g 28 cur' ∧ cur'.size = cap * 32 ∧ (∀ q (hq : q < F.length), AtK cur' q F[q]) ∧ (∀ q (hq : q < xs.length), j ≤ q → AtK cur' q xs[q])) ∧ w.grownBy wr (some g)) (fun _ b _ => xs.length - (intOf b).toNat)
    case atStart => exact ⟨k, k + 1, by omega, by omega, rfl, by go_num, ⟨xs.take k, by rw [filter_next8 _ _ _ hlt, HF.out, hout]; simp, by rw [List.length_take]; omega, cur, HB.out, hcs, fun q hq => by rw [List.getElem_take]; exact HAT.out q _, fun q hq _ => HAT.out q hq⟩, ext_grown _ HX.out⟩
    case round =>
      clear HB HAT HF
      obtain ⟨i, j, hij, hj, rfl, rfl, ⟨F, hF, hFl, cur', hB', hs', ha1, ha2⟩, hg⟩ := hrel
      have HB := Lib.hid hB'
      have HA1 := Lib.hid ha1
      have HA2 := Lib.hid ha2
      have HF := Lib.hid hF
      have HG := Lib.hid hg
      have HFO := Lib.hid (show ∀ x ∈ F, x.length = 32 from fun x hx => by rw [← hF] at hx; exact (HOK.out x (List.mem_of_mem_take (List.mem_filter.1 hx).1)).1)
      clear hB' ha1 ha2 hF hg
      by_cases hlj : j < xs.length
      · have hcell := (HA2.out j hlj (Nat.le_refl _))
        have HK := Lib.hid (show K32 xs[j] from HOK.out _ (List.getElem_mem hlj))
        have hkl := HK.out.1
        have hkn : (nums .u8 xs[j]).length = 32 := by rw [nums_length, hkl]
        have HD0 := Lib.hid (show ∀ q u, (nums .u8 xs[j])[q]? = some u → wr.cell? ⟨g, 0 + j * 32 + q, none⟩ = some u from fun q u hu => by
          rw [HB.out.cell, Nat.zero_add]
          exact hcell q u hu)
        clear hcell
        have hj0 : (0 : Int) ≤ (j : Int) := by omega
        have hj2 : (j : Int) < (xs.length : Int) := by omega
        have hi0 : (0 : Int) ≤ (i : Int) := by omega
        have hi2 : (i : Int) < (xs.length : Int) := by omega
        have hpg : p ≠ g := by omega
        have HPw := Lib.hid (HP.out.grown HG.out (fun e => hpg (Option.some.inj e)))
        have hst2 : St 32 (numsA .u8 xs[j]) := St.nums hkl
        have hsz2 := sizeN (k := .u8) hkl
        have hf := fun W hp => prefFn_any xs[j] P HK.out hP hPl p W hp
        have HN := Lib.hid (filter_next8 (hasP P) xs j hlj)
        go_wp2_with (first
          | (refine wpl_load ⟨g, j * 32, none⟩ (nums .u8 xs[j]) (by rw [hkn]; exact aggKey) rfl _ rfl rfl (fun q u hu => by rw [Addr.add_lit, ← HD0.out q u hu, Nat.zero_add]) ?_)
          | (refine wpl_storeNewB aggKey hst2 rfl rfl _ _ rfl rfl rfl rfl ?_)
          | (refine wpl_loadB (Blk.new wr _ _) aggKey hsz2 rfl _ rfl rfl ?_))
        refine (hf _ (HPw.out.alloc _)).mono ?_
        rintro e w2 ⟨rfl, hx⟩
        have HB2 := Lib.hid ((HB.out.alloc (.cells (numsA .u8 xs[j]) 28)).ext hx)
        have BV := Lib.hid ((Blk.new wr 28 (numsA .u8 xs[j])).ext hx)
        have HG2 := Lib.hid (grown_ext HG.out ((ext_alloc _ _).trans hx))
        clear hx hf HB HG HPw HD0
        cases hq : hasP P xs[j] with
        | false =>
          go_wp2
          go_roundw
          case rel => exact ⟨i, j + 1, by omega, by omega, rfl, by go_num, ⟨F, by rw [HN.out, HF.out, hq]; simp, hFl, cur', HB2.out, hs', HA1.out, fun q hq h => HA2.out q hq (by omega)⟩, HG2.out⟩
          case measure => simp [intOf]; omega
        | true =>
          have hin : i * 32 + 32 ≤ cur'.size := by rw [hs']; omega
          go_wp2_with (first
            | (refine wpl_loadB BV.out aggKey hsz2 rfl _ rfl rfl ?_)
            | (refine wpl_storeP (off := i * 32) HB2.out aggKey hst2 hin rfl _ _ rfl rfl rfl rfl ?_))
          go_roundw
          case rel => exact ⟨i + 1, j + 1, by omega, by omega, by go_num, by go_num, ⟨F ++ [xs[j]], by rw [HN.out, HF.out, hq]; simp, by simp [hFl], _, HB2.out.setRow _, by rw [splice_size _ _ _ (by simpa [numsA, nums_length, hkl] using hin), hs'], fun q hq => by
            by_cases e : q = i
            · subst e
              have e2 : (F ++ [xs[j]])[q] = xs[j] := by rw [List.getElem_append_right (by omega)]; simp
              rw [e2]
              exact at_putK cur' q xs[j] hkl (by omega)
            · have hqF : q < F.length := by simp at hq; omega
              rw [List.getElem_append_left hqF]
              exact at_farK hkl (HFO.out _ (List.getElem_mem hqF)) hin e (HA1.out q hqF), fun q hq h => at_farK hkl (HOK.out _ (List.getElem_mem hq)).1 hin (by omega) (HA2.out q hq (by omega))⟩, grown_row HG2.out _⟩
          case measure => simp [intOf]; omega
      · obtain rfl : j = xs.length := by omega
        rw [List.take_length] at HF
        obtain ⟨cs, hcs1, hcs2, hcl⟩ := run_clearK (off := i * 32) (n := xs.length - i) (by omega) HB.out (by rw [hs']; omega)
        have HC2 := Lib.hid hcs2
        have hi0 : (0 : Int) ≤ (i : Int) := by omega
        have hi2 : (i : Int) ≤ (xs.length : Int) := by omega
        have hi3 : (xs.length : Int) ≤ (cap : Int) := by omega
        have hi4 : (i : Int) ≤ (cap : Int) := by omega
        clear hcs2
        go_wp2
        go_ret
        obtain rfl := hFl
        refine ⟨_, rfl, ?_, grown_row HG.out _⟩
        rw [HF.out]
        refine own_of_atK (HB.out.setRow cs) hgb (by rw [hcs1, hs']) (by omega) hcm (by omega) (fun x hx => ?_) (fun q hq z u hu => ?_)
        · rw [← HF.out] at hx; exact HOK.out x (List.mem_filter.1 hx).1
        · have hz : z < 32 := by
            have := (List.getElem?_eq_some_iff.1 hu).1
            rw [nums_length, (HFO.out _ (List.getElem_mem hq))] at this
            exact this
          rw [HC2.out _ (by omega)]
          exact HA1.out q hq z u hu

set_option maxHeartbeats 1000000 in
set_option maxRecDepth 100000 in
theorem withPrefix_any (v : Value) (xs : List (List Int)) (P : List Int) (hP : B8 P) (hPl : P.length ≤ 64) (w : World) (S : Nat → Prop) (h : RdL tKey w S v xs) (hl : xs.length ≤ 1048576) :
    Calls Try.prog 82 #[v, .string (strOfNums P)] w fun q w' => ∃ v', q = .returned v' ∧ Own tKey 28 w' w.heap.size v' (withP xs P) ∧ Ext w w' := by
  have hok : ∀ x ∈ xs, K32 x := h.choose_spec.choose_spec.2.2.2.2
  obtain ⟨A, cap, rfl, _⟩ := id h
  have HR := Lib.hid h
  have HB0 := Lib.hid (Blk.new w 9 #[.string (strOfNums P)])
  have HE0 := Lib.hid (ext_alloc w (.cells #[.string (strOfNums P)] 9))
  have HSK := Lib.hid (fun (D : List (List Int)) (h1 : D.Perm xs) (h2 : D.Pairwise fun a b => cmpL a b ≤ 0) => sK_of hok h1 h2)
  have HWP := Lib.hid (withP_eq xs P)
  have HPF := Lib.hid (fun v xs p w base h hpb hp => prefDel_any v xs P hP hPl p w base h hpb hp)
  obtain ⟨TP, hTP⟩ : ∃ TP, strOfNums P = TP := ⟨_, rfl⟩
  rw [hTP] at HB0 HE0 HPF ⊢
  clear h hok hP hPl hTP
  go_enter Try.func82, Try.ntmps82
  go_wp2_with fail
  generalize w.alloc (.cells #[.string TP] 9) = w1 at HB0 HE0 ⊢
  refine (sortedK_any _ xs w1 S (HR.out.ext (by decide) HE0.out) hl).mono ?_
  rintro e w2 ⟨v2, D, rfl, hp, hs, ho, hx⟩
  rw [HSK.out D hp hs] at ho
  have hdel := HPF.out v2 (sK xs) w.heap.size w2 w1.heap.size ho HB0.out.lt (HB0.out.ext hx)
  obtain ⟨A2, cap2, rfl⟩ := ho.shape
  have HX := Lib.hid (HE0.out.trans hx)
  have HO := Lib.hid ho
  have HE1 := Lib.hid HE0.out.size
  have HX2 := Lib.hid hx
  clear hp hs ho hx HSK HPF HB0 HR
  go_wp2_with fail
  refine hdel.mono ?_
  rintro e w3 ⟨v3, rfl, ho, hg⟩
  rw [← HWP.out] at ho
  have HX3 := Lib.hid (HX.out.grown hg (fun k hk => Nat.le_trans HE1.out (HO.out.base_le k hk).1))
  have HO3 := Lib.hid (ho.le HE1.out)
  obtain ⟨A3, n3, cap3, rfl⟩ := ho.shape3
  clear ho hg hdel
  go_wp2
  go_ret
  exact ⟨_, rfl, HO3.out, HX3.out⟩
end Go.Proofs.Ytdjclllnmclocaa
/- Where a key stands in a list: plain, and the program. No condition. -/
namespace Go.Proofs.Ytdjclllnmclocaa
open Go.RowKit
set_option linter.unusedVariables false
set_option linter.unusedSimpArgs false

/-- where a key stands first -/
@[irreducible] def fdK (ks : List (List Int)) (k : List Int) : Nat := ks.findIdx (fun x => decide (x = k))
theorem fdK_le (ks : List (List Int)) (k : List Int) : fdK ks k ≤ ks.length := by rw [fdK]; exact List.findIdx_le_length
theorem fdK_lt {ks : List (List Int)} {k : List Int} : fdK ks k < ks.length ↔ k ∈ ks := by
  rw [fdK, List.findIdx_lt_length]
  constructor
  · rintro ⟨x, hx, h⟩
    rw [decide_eq_true_iff] at h
    exact h ▸ hx
  · exact fun h => ⟨k, h, decide_eq_true rfl⟩
theorem fdK_at {ks : List (List Int)} {k : List Int} (n : Nat) (hn : n < ks.length) (h0 : ∀ j (hj : j < ks.length), j < n → ks[j] ≠ k) (h : ks[n] = k) : fdK ks k = n := by
  rw [fdK, List.findIdx_eq hn]
  exact ⟨decide_eq_true h, fun j hj => decide_eq_false (h0 j (by omega) hj)⟩
theorem fdK_none {ks : List (List Int)} {k : List Int} (h0 : ∀ j (hj : j < ks.length), ks[j] ≠ k) : fdK ks k = ks.length := by
  have h1 := fdK_le ks k
  have h2 : ¬ fdK ks k < ks.length := fun h => by
    obtain ⟨j, hj, e⟩ := List.getElem_of_mem (fdK_lt.1 h)
    exact h0 j hj e
  omega
/-- the same as the program tells it: -1 for 'not there' -/
@[irreducible] def fdI (ks : List (List Int)) (k : List Int) : Int := if fdK ks k < ks.length then (fdK ks k : Int) else -1
theorem fdI_lt {ks : List (List Int)} {k : List Int} (h : k ∈ ks) : fdI ks k = fdK ks k ∧ fdK ks k < ks.length := by rw [fdI, if_pos (fdK_lt.2 h)]; exact ⟨rfl, fdK_lt.2 h⟩
theorem fdI_at {ks : List (List Int)} {k : List Int} (n : Nat) (hn : n < ks.length) (h0 : ∀ j (hj : j < ks.length), j < n → ks[j] ≠ k) (h : ks[n] = k) : fdI ks k = n := by
  have e := fdK_at n hn h0 h
  rw [fdI, e, if_pos hn]
theorem fdI_no {ks : List (List Int)} {k : List Int} (h0 : ∀ j (hj : j < ks.length), ks[j] ≠ k) : fdI ks k = -1 := by
  rw [fdI, fdK_none h0, if_neg (Nat.lt_irrefl _)]
set_option maxHeartbeats 1000000 in
set_option maxRecDepth 100000 in
theorem idxK_any (v : Value) (xs : List (List Int)) (K : List Int) (hK : K32 K) (w : World) (S : Nat → Prop) (h : RdL tKey w S v xs) :
    Calls Try.prog 100 #[v, .agg (numsA .u8 K)] w fun q w' => q = .returned (.int .i64 (fdI xs K)) ∧ Ext w w' := by
  obtain ⟨A, cap, rfl, hcap, hlen, hrd, hok⟩ := h
  have Hrd := Lib.hid hrd
  have Hok := Lib.hid hok
  have HKK := Lib.hid hK
  have hks := sizeN (k := .u8) hK.1
  have BK := Lib.hid (Blk.new w 28 (numsA .u8 K))
  clear hrd hok hK
  go_enter Try.func100, Try.ntmps100
  go_wp2
  go_loopw [5, 8] (fun _ i wr => ∃ k : Nat, k ≤ xs.length ∧ i = .int .i64 k ∧ (∀ j (hj : j < xs.length), j < k → xs[j] ≠ K) ∧ Ext (w.alloc (.cells (numsA .u8 K) 28)) wr) (fun _ i _ => xs.length - (intOf i).toNat)
  case atStart => exact ⟨0, by omega, rfl, fun j hj h => by omega, Ext.refl _⟩
  case round =>
    obtain ⟨k, hk, rfl, hm, hx⟩ := hrel
    have B1 := Lib.hid (BK.out.ext hx)
    have HX := Lib.hid ((ext_alloc w (.cells (numsA .u8 K) 28)).trans hx)
    have HX0 := Lib.hid hx
    have HM := Lib.hid hm
    clear hx hm
    by_cases hlt : k < xs.length
    · obtain ⟨g, o, rfl, hs0, hc⟩ := Hrd.out.elem Hok.out k hlt
      have HC := Lib.hid (show ∀ j u, (nums .u8 xs[k])[j]? = some u → wr.cell? ⟨g, o + k * 32 + j, none⟩ = some u from fun j u hu => HX.out.cell (hc j u hu))
      have HE := Lib.hid (show K32 xs[k] from Hok.out _ (List.getElem_mem hlt))
      have heq := run_eqKey K xs[k] HKK.out HE.out
      have HEL := Lib.hid (show (nums .u8 xs[k]).length = 32 by rw [nums_length, HE.out.1])
      have hk0 : (0 : Int) ≤ (k : Int) := by omega
      have hk2 : (k : Int) < (xs.length : Int) := by omega
      obtain ⟨R, hR⟩ : ∃ R, decide (K = xs[k]) = R := ⟨_, rfl⟩
      rw [hR] at heq
      have HR := Lib.hid hR
      obtain ⟨y, hy⟩ : ∃ y, xs[k] = y := ⟨_, rfl⟩
      have HY := Lib.hid hy
      rw [hy] at HC HE heq HEL
      clear hc hR hy
      cases R with
      | true =>
        go_wp2_with fail
        refine wp_region_held_drew (S := fun W => Ext wr W) (by kernel_rfl) (Ext.refl _).drew (fun hHeld => ?_)
        refine tkI 0 (v := (.agg (numsA .u8 K))) (by simp only [List.getElem?_toArray, List.getElem?_cons_zero, List.getElem?_cons_succ]; rfl) (by kernel_rfl) (by exact fun _ _ _ h => h) (by refine yields_loadBSP (fun W hW => B1.out.ext hW) aggKey hks ?_ _ rfl rfl; rfl) (by assumption) ?_
        try simp only [Act.put, List.setIfInBounds_toArray, List.set_cons_zero, List.set_cons_succ]
        iterate 3
          refine tkD 0 (by simp only [List.size_toArray, List.length_cons, List.length_nil]; rfl) (by simp only [List.getElem?_toArray, List.getElem?_cons_zero, List.getElem?_cons_succ]; rfl) (by kernel_rfl) (by exact fun _ _ _ h => h) (by first | (exact Or.inl ⟨by rfl, by intro w hSw; (try dsimp only at hSw); go_simp; with_reducible rfl⟩) | (exact Or.inr ⟨by rfl, by rfl⟩)) (by assumption) ?_
          try simp only [Act.put, List.setIfInBounds_toArray, List.set_cons_zero, List.set_cons_succ]
        refine tkI 4 (v := (.agg (numsA .u8 y))) (by simp only [List.getElem?_toArray, List.getElem?_cons_zero, List.getElem?_cons_succ]; rfl) (by kernel_rfl) (by exact fun _ _ _ h => h) (by refine yields_loadSP g (o + k * 32) (nums .u8 y) (by rw [HEL.out]; exact aggKey) (fun W hW j u hu => hW.cell (HC.out j u hu)) ?_ _ rfl rfl; rfl) (by assumption) ?_
        try simp only [Act.put, List.setIfInBounds_toArray, List.set_cons_zero, List.set_cons_succ]
        refine tkI 5 (by simp only [List.getElem?_toArray, List.getElem?_cons_zero, List.getElem?_cons_succ]; rfl) (by kernel_rfl) (by exact fun _ _ _ h => h) (by first | (exact Or.inl ⟨by rfl, by intro w hSw; (try dsimp only at hSw); go_simp; with_reducible rfl⟩) | (exact Or.inr ⟨by rfl, by rfl⟩)) (by assumption) ?_
        try simp only [Act.put, List.setIfInBounds_toArray, List.set_cons_zero, List.set_cons_succ]
        refine wpAnyH_done (by kernel_rfl) ?_ _

        have HXF := Lib.hid (HX.out.trans hHeld)
        have hI := fdI_at k hlt HM.out (by have := of_decide_eq_true HR.out; exact this.symm)
        have HI := Lib.hid hI
        clear hHeld hI
        go_wp2
        go_ret
        exact ⟨ret_int HI.out.symm, HXF.out⟩
      | false =>
        go_wp2_with fail
        refine wp_region_held_drew (S := fun W => Ext wr W) (by kernel_rfl) (Ext.refl _).drew (fun hHeld => ?_)
        refine tkI 0 (v := (.agg (numsA .u8 K))) (by simp only [List.getElem?_toArray, List.getElem?_cons_zero, List.getElem?_cons_succ]; rfl) (by kernel_rfl) (by exact fun _ _ _ h => h) (by refine yields_loadBSP (fun W hW => B1.out.ext hW) aggKey hks ?_ _ rfl rfl; rfl) (by assumption) ?_
        try simp only [Act.put, List.setIfInBounds_toArray, List.set_cons_zero, List.set_cons_succ]
        iterate 3
          refine tkD 0 (by simp only [List.size_toArray, List.length_cons, List.length_nil]; rfl) (by simp only [List.getElem?_toArray, List.getElem?_cons_zero, List.getElem?_cons_succ]; rfl) (by kernel_rfl) (by exact fun _ _ _ h => h) (by first | (exact Or.inl ⟨by rfl, by intro w hSw; (try dsimp only at hSw); go_simp; with_reducible rfl⟩) | (exact Or.inr ⟨by rfl, by rfl⟩)) (by assumption) ?_
          try simp only [Act.put, List.setIfInBounds_toArray, List.set_cons_zero, List.set_cons_succ]
        refine tkI 4 (v := (.agg (numsA .u8 y))) (by simp only [List.getElem?_toArray, List.getElem?_cons_zero, List.getElem?_cons_succ]; rfl) (by kernel_rfl) (by exact fun _ _ _ h => h) (by refine yields_loadSP g (o + k * 32) (nums .u8 y) (by rw [HEL.out]; exact aggKey) (fun W hW j u hu => hW.cell (HC.out j u hu)) ?_ _ rfl rfl; rfl) (by assumption) ?_
        try simp only [Act.put, List.setIfInBounds_toArray, List.set_cons_zero, List.set_cons_succ]
        refine tkI 5 (by simp only [List.getElem?_toArray, List.getElem?_cons_zero, List.getElem?_cons_succ]; rfl) (by kernel_rfl) (by exact fun _ _ _ h => h) (by first | (exact Or.inl ⟨by rfl, by intro w hSw; (try dsimp only at hSw); go_simp; with_reducible rfl⟩) | (exact Or.inr ⟨by rfl, by rfl⟩)) (by assumption) ?_
        try simp only [Act.put, List.setIfInBounds_toArray, List.set_cons_zero, List.set_cons_succ]
        refine wpAnyH_done (by kernel_rfl) ?_ _

        have HXF := Lib.hid (HX0.out.trans hHeld)
        clear hHeld
        go_wp2
        go_roundw
        case rel => exact ⟨k + 1, by omega, by go_num, fun j hj h => by
          by_cases e : j = k
          · subst e; exact fun q => of_decide_eq_false HR.out q.symm
          · exact HM.out j hj (by omega), HXF.out⟩
        case measure => simp [intOf]; omega
    · obtain rfl : k = xs.length := by omega
      have HI := Lib.hid (fdI_no (fun j hj => HM.out j hj hj))
      go_wp2
      go_ret
      exact ⟨ret_int HI.out.symm, HX.out⟩
set_option maxHeartbeats 1000000 in
set_option maxRecDepth 100000 in
theorem containsK_any (v : Value) (xs : List (List Int)) (K : List Int) (hK : K32 K) (hin : K ∈ xs) (w : World) (S : Nat → Prop) (h : RdL tKey w S v xs) :
    Calls Try.prog 81 #[v, .agg (numsA .u8 K)] w fun q w' => q = .returned (.bool true) ∧ Ext w w' := by
  obtain ⟨h1, h2⟩ := fdI_lt hin
  have HE0 := Lib.hid (ext_alloc w (.cells (numsA .u8 K) 28))
  have BK := Lib.hid (Blk.new w 28 (numsA .u8 K))
  have HC := Lib.hid (idxK_any v xs K hK _ S (h.ext (by decide) HE0.out))
  have hks := sizeN (k := .u8) hK.1
  have hge : ¬ fdI xs K < 0 := by omega
  have hge2 : (0 : Int) ≤ fdI xs K := by omega
  obtain ⟨A, cap, rfl, _⟩ := id h
  generalize fdI xs K = I at HC hge hge2
  clear h h1 h2 hK hin
  go_enter Try.func81, Try.ntmps81
  go_wp2_with (refine wpl_loadB BK.out aggKey hks rfl _ rfl rfl ?_)
  refine HC.out.mono ?_
  rintro e w1 ⟨rfl, hx⟩
  have HX := Lib.hid (HE0.out.trans hx)
  clear hx HC
  go_wp2
  go_ret
  exact ⟨rfl, HX.out⟩
end Go.Proofs.Ytdjclllnmclocaa
/- Sorted keys; a key found by its prefix; the shortest prefix; whether a list has a key. No condition. -/
namespace Go.Proofs.Ytdjclllnmclocaa
open Go.RowKit
set_option linter.unusedVariables false
set_option linter.unusedSimpArgs false

theorem one_list {L : List (List Int)} (h : L.length = 1) : L = [L[0]'(by omega)] := by
  match L, h with
  | [x], _ => rfl
set_option maxHeartbeats 1000000 in
set_option maxRecDepth 100000 in
theorem sortKeys_any (v : Value) (xs : List (List Int)) (hl : xs.length ≤ 256) (w : World) (S : Nat → Prop) (h : RdL tKey w S v xs) :
    Calls Try.prog 39 #[v] w fun q w' => ∃ v', q = .returned (.tuple #[v', .int .i64 0]) ∧ Own tKey 28 w' w.heap.size v' (sK xs) ∧ Ext w w' := by
  have hok : ∀ x ∈ xs, K32 x := h.choose_spec.choose_spec.2.2.2.2
  have HC := Lib.hid (sortedK_any v xs w S h (by omega))
  have HSK := Lib.hid (fun (D : List (List Int)) (h1 : D.Perm xs) (h2 : D.Pairwise fun a b => cmpL a b ≤ 0) => sK_of hok h1 h2)
  obtain ⟨A, cap, rfl, _⟩ := id h
  have hd : decide ((256 : Int) < (xs.length : Int)) = false := decide_eq_false (by omega)
  clear h hok
  go_enter Try.func39, Try.ntmps39
  go_wp2_with fail
  refine HC.out.mono ?_
  rintro e w1 ⟨v1, D, rfl, hp, hs, ho, hx⟩
  rw [HSK.out D hp hs] at ho
  have HX := Lib.hid hx
  have HO := Lib.hid ho
  obtain ⟨A1, n1, c1, rfl⟩ := ho.shape3
  clear hp hs ho hx HC HSK
  go_wp2
  go_ret2
  exact ⟨_, rfl, HO.out, HX.out⟩
set_option maxHeartbeats 2000000 in
set_option maxRecDepth 100000 in
theorem findKey_any (v : Value) (xs : List (List Int)) (hl : xs.length ≤ 256) (P : List Int) (hP : ∀ c ∈ P, ∃ n, 0 ≤ n ∧ n ≤ 15 ∧ c = hexD n) (hPl : P.length ≤ 64) (h0 : 0 < (withP xs P).length) (w : World) (S : Nat → Prop) (h : RdL tKey w S v xs) :
    Calls Try.prog 43 #[v, .string (strOfNums P)] w fun q w' => ∃ (r : List Int) (code : Int), q = .returned (.tuple #[.agg (numsA .u8 r), .int .i64 code]) ∧ K32 r ∧ ((withP xs P).length = 1 → withP xs P = [r] ∧ code = 0) ∧ (2 ≤ (withP xs P).length → code = 4) ∧ Ext w w' := by
  have hok : ∀ x ∈ xs, K32 x := h.choose_spec.choose_spec.2.2.2.2
  have hPB : B8 P := fun c hc => by
    obtain ⟨n, h0, h1, rfl⟩ := hP c hc
    have := hexD_ok ⟨h0, h1⟩
    omega
  have HDG := Lib.hid (fun W => isDigits_any P hP (by omega) W)
  have HWP := Lib.hid (fun W hW => withPrefix_any v xs P hPB hPl W S hW (by omega))
  have HR := Lib.hid h
  have HL0 := Lib.hid h0
  have HOK := Lib.hid (withP_ok hok P)
  obtain ⟨A, cap, rfl, _⟩ := id h
  obtain ⟨L, hL⟩ : ∃ L, withP xs P = L := ⟨_, rfl⟩
  rw [hL] at HL0 HOK ⊢
  simp only [hL] at HWP
  have hsz := strOfNums_size P
  generalize strOfNums P = T at HDG HWP hsz ⊢
  have hd : decide ((256 : Int) < (xs.length : Int)) = false := decide_eq_false (by omega)
  have hd2 : decide ((64 : Int) < (P.length : Int)) = false := decide_eq_false (by omega)
  have HZO := Lib.hid zero_ok
  have hzA : (Try.prog.info? 28).map (·.zero) = some (some (.agg (numsA .u8 (List.replicate 32 0)))) := by kernel_rfl
  have hbz := built_zeroA
  generalize List.replicate 32 (0 : Int) = Z at hzA hbz HZO
  have hzl := HZO.out.1
  have hzs := sizeN (k := .u8) hzl
  have B0 := Lib.hid (Blk.new w 28 (numsA .u8 Z))
  have HE0 := Lib.hid (ext_alloc w (.cells (numsA .u8 Z) 28))
  clear h hok hPB hP hL h0
  go_enter Try.func43, Try.ntmps43
  go_wp2_with (refine wpl_alloc (numsA .u8 Z) hzA rfl rfl ?_)
  generalize w.alloc (.cells (numsA .u8 Z) 28) = w1 at B0 HE0 ⊢
  refine (HDG.out _).mono ?_
  rintro e w' ⟨rfl, rfl⟩
  go_wp2_with fail
  refine (HWP.out _ (HR.out.ext (by decide) HE0.out)).mono ?_
  rintro e w2 ⟨v2, rfl, ho, hx⟩
  replace B0 := Lib.hid (B0.out.ext hx)
  have HX := Lib.hid (HE0.out.trans hx)
  obtain ⟨A2, c2, e1, hc2, hn2, hrd, hkd⟩ := ho.rd
  subst e1
  clear ho hx HWP HR HE0 HDG hzA
  by_cases h1 : L.length = 1
  · obtain ⟨g, o, rfl, _, hc⟩ := hrd.elem hkd 0 (by omega)
    have hLe : L = [L[0]] := one_list h1
    have hk0 := HOK.out L[0] (List.getElem_mem _)
    generalize L[0] = r at hc hLe hk0
    have HKR := Lib.hid hk0
    have HLE := Lib.hid hLe
    have HC := Lib.hid (show ∀ j u, (nums .u8 r)[j]? = some u → w2.cell? ((⟨g, o, none⟩ : Addr).add j) = some u from fun j u hu => by rw [Addr.add_lit]; have := hc j u hu; simpa using this)
    have hkl := hk0.1
    have q1 : (L.length : Int) = 1 := by omega
    clear hc hLe hk0 hrd hkd
    have p1 : ((L.length : Int) == 0) = false := by rw [q1]; rfl
    have p2 : ((L.length : Int) == 1) = true := by rw [q1]; rfl
    have p3 : (0 : Int) < (L.length : Int) := by omega
    have HN1 := Lib.hid h1
    clear q1 h1 hn2 hc2
    go_wp2_with (first
      | (refine wpl_load ⟨g, o, none⟩ (nums .u8 r) (by rw [nums_length, hkl]; exact aggKey) rfl _ rfl rfl HC.out ?_)
      | (refine wpl_storeN B0.out aggKey hkl hzs rfl _ _ rfl rfl rfl rfl ?_))
    refine bodyPost_ret (results_kc rfl _ rfl aggKey (sizeN hkl) (B0.out.setRow _) rfl) rfl ?_
    refine ⟨r, 0, rfl, HKR.out, fun _ => ⟨HLE.out, rfl⟩, fun h => by have := HN1.out; omega, ?_⟩
    exact HX.out.setRow (Nat.le_refl _) _
  · have hge : 2 ≤ L.length := by have := HL0.out; omega
    have p1 : ((L.length : Int) == 0) = false := by rw [beq_eq_false_iff_ne]; omega
    have p2 : ((L.length : Int) == 1) = false := by rw [beq_eq_false_iff_ne]; omega
    have HN1 := Lib.hid h1
    clear h1 hrd hkd
    go_wp2_with (first
      | (refine wpl_buildN rfl rfl hbz ?_)
      | (refine wpl_storeN B0.out aggKey hzl hzs rfl _ _ rfl rfl rfl rfl ?_))
    refine bodyPost_ret (results_kc rfl _ rfl aggKey (sizeN hzl) (B0.out.setRow _) rfl) rfl ?_
    refine ⟨Z, 4, rfl, HZO.out, fun h => absurd h HN1.out, fun _ => rfl, ?_⟩
    exact HX.out.setRow (Nat.le_refl _) _
set_option maxHeartbeats 2000000 in
set_option maxRecDepth 100000 in
theorem shortestPrefix_any (v : Value) (xs : List (List Int)) (hl : xs.length ≤ 256) (K : List Int) (hin : K ∈ xs) (w : World) (S : Nat → Prop) (h : RdL tKey w S v xs) :
    Calls Try.prog 41 #[v, .agg (numsA .u8 K)] w fun q w' => ∃ n : Nat, q = .returned (.tuple #[.int .i64 n, .int .i64 0]) ∧ 1 ≤ n ∧ n ≤ 64 ∧ (withP xs ((textK K).take n)).length = 1 ∧ (1 < n → 2 ≤ (withP xs ((textK K).take (n - 1))).length) ∧ Ext w w' := by
  have hok : ∀ x ∈ xs, K32 x := h.choose_spec.choose_spec.2.2.2.2
  have hK := hok K hin
  have hks := sizeN (k := .u8) hK.1
  have HR := Lib.hid h
  have HTL := Lib.hid (show (textK K).length = 64 by rw [textK_length, hK.1])
  have HCT := Lib.hid (fun W hW => containsK_any v xs K hK hin W S hW)
  have HTX := Lib.hid (fun W => keyText_any K hK W)
  have HWP := Lib.hid (fun n W hW => withPrefix_any v xs ((textK K).take n) ((textK_ok hK.2).take n) (by rw [List.length_take, HTL.out]; omega) W S hW (by omega))
  have HPOS := Lib.hid (fun n => withP_pos hin n)
  have HFULL := Lib.hid (fun n h => withP_full hok hin n h)
  have HST := Lib.hid (fun n h => str_take (textK K) n h)
  have hsz : (strOfNums (textK K)).size = 64 := by rw [strOfNums_size, HTL.out]
  obtain ⟨A, cap, rfl, _⟩ := id h
  have hd : decide ((256 : Int) < (xs.length : Int)) = false := decide_eq_false (by omega)
  have BK0 := Lib.hid (Blk.new w 28 (numsA .u8 K))
  have HE0 := Lib.hid (ext_alloc w (.cells (numsA .u8 K) 28))
  generalize strOfNums (textK K) = T at HTX HST hsz
  clear h hok hin hK
  go_enter Try.func41, Try.ntmps41
  go_wp2_with (refine wpl_loadB BK0.out aggKey hks rfl _ rfl rfl ?_)
  refine (HCT.out _ (HR.out.ext (by decide) HE0.out)).mono ?_
  rintro e w1 ⟨rfl, hx⟩
  have BK := Lib.hid (BK0.out.ext hx)
  have HX := Lib.hid (HE0.out.trans hx)
  clear hx BK0 HE0 HCT
  go_wp2_with fail
  go_loopw [6] (fun i wr => ∃ n : Nat, 1 ≤ n ∧ n ≤ 64 ∧ i = .int .i64 n ∧ (1 < n → 2 ≤ (withP xs ((textK K).take (n - 1))).length) ∧ Ext w1 wr) (fun i _ => 64 - (intOf i).toNat)
  case atStart => exact ⟨1, by omega, by omega, rfl, fun h => by omega, Ext.refl _⟩
  case round =>
    obtain ⟨n, hn1, hn2, rfl, hm, hx⟩ := hrel
    have HM := Lib.hid hm
    have BK1 := Lib.hid (BK.out.ext hx)
    have HX1 := Lib.hid (HX.out.trans hx)
    have HXW := Lib.hid hx
    clear hm hx
    have q1 : (0 : Int) ≤ (n : Int) := by omega
    have q2 : (n : Int) ≤ 64 := by omega
    have he := HST.out n (by rw [HTL.out]; exact hn2)
    have HW := Lib.hid (fun W hW => HWP.out n W hW)
    have HP := Lib.hid (HPOS.out n)
    have HF := Lib.hid (fun h => HFULL.out n h)
    obtain ⟨L, hL⟩ : ∃ L, withP xs ((textK K).take n) = L := ⟨_, rfl⟩
    have HL := Lib.hid hL
    rw [hL] at HP
    simp only [hL] at HW HF
    generalize strOfNums ((textK K).take n) = TP at he HW
    clear hL
    go_wp2_with (refine wpl_loadB BK1.out aggKey hks rfl _ rfl rfl ?_)
    refine (HTX.out _).mono ?_
    rintro e w2 ⟨rfl, hx⟩
    have HX2 := Lib.hid (HX1.out.trans hx)
    have HXW2 := Lib.hid (HXW.out.trans hx)
    clear hx
    go_wp2_with fail
    refine (HW.out _ (HR.out.ext (by decide) HX2.out)).mono ?_
    rintro e w3 ⟨v3, rfl, ho, hx⟩
    obtain ⟨A3, c3, rfl⟩ := ho.shape
    have HX3 := Lib.hid (HX2.out.trans hx)
    have HXW3 := Lib.hid (HXW2.out.trans hx)
    clear ho hx
    by_cases h1 : L.length = 1
    · have p1 : decide ((1 : Int) < (L.length : Int)) = false := decide_eq_false (by omega)
      have HN1 := Lib.hid h1
      clear h1
      go_wp2
      go_ret2
      exact ⟨n, rfl, hn1, hn2, by rw [HL.out]; exact HN1.out, HM.out, HX3.out⟩
    · have hlt : n < 64 := by
        rcases Nat.lt_or_ge n 64 with h | h
        · exact h
        · exact absurd (HF.out h) h1
      have hge : 2 ≤ L.length := by have := HP.out; omega
      have p1 : (1 : Int) < (L.length : Int) := by omega
      clear h1
      go_wp2
      go_roundw
      case rel => exact ⟨n + 1, by omega, by omega, by go_num, fun _ => by rw [Nat.add_sub_cancel, HL.out]; exact hge, HXW3.out⟩
      case measure => simp [intOf]; omega
set_option maxHeartbeats 1000000 in
set_option maxRecDepth 100000 in
theorem a2Has_any (v : Value) (xs : List (List Int)) (K : List Int) (hK : K32 K) (w : World) (S : Nat → Prop) (h : RdL tKey w S v xs) :
    Calls Try.prog 40 #[v, .agg (numsA .u8 K)] w fun q w' => q = .returned (.bool (decide (K ∈ xs))) ∧ Ext w w' := by
  obtain ⟨A, cap, rfl, hcap, hlen, hrd, hok⟩ := h
  have Hrd := Lib.hid hrd
  have Hok := Lib.hid hok
  have HKK := Lib.hid hK
  have hks := sizeN (k := .u8) hK.1
  have BK := Lib.hid (Blk.new w 28 (numsA .u8 K))
  obtain ⟨Q, hQ⟩ : ∃ Q, decide (K ∈ xs) = Q := ⟨_, rfl⟩
  have HQ := Lib.hid hQ
  rw [hQ]
  clear hrd hok hK hQ
  go_enter Try.func40, Try.ntmps40
  go_wp2
  go_loopw [5] (fun i wr => ∃ k : Nat, k ≤ xs.length ∧ i = .int .i64 k ∧ (∀ j (hj : j < xs.length), j < k → xs[j] ≠ K) ∧ Ext (w.alloc (.cells (numsA .u8 K) 28)) wr) (fun i _ => xs.length - (intOf i).toNat)
  case atStart => exact ⟨0, by omega, rfl, fun j hj h => by omega, Ext.refl _⟩
  case round =>
    obtain ⟨k, hk, rfl, hm, hx⟩ := hrel
    have B1 := Lib.hid (BK.out.ext hx)
    have HX := Lib.hid ((ext_alloc w (.cells (numsA .u8 K) 28)).trans hx)
    have HX0 := Lib.hid hx
    have HM := Lib.hid hm
    clear hx hm
    by_cases hlt : k < xs.length
    · obtain ⟨g, o, rfl, hs0, hc⟩ := Hrd.out.elem Hok.out k hlt
      have HC := Lib.hid (show ∀ j u, (nums .u8 xs[k])[j]? = some u → wr.cell? ⟨g, o + k * 32 + j, none⟩ = some u from fun j u hu => HX.out.cell (hc j u hu))
      have HE := Lib.hid (show K32 xs[k] from Hok.out _ (List.getElem_mem hlt))
      have heq := run_eqKey xs[k] K HE.out HKK.out
      have HEL := Lib.hid (show (nums .u8 xs[k]).length = 32 by rw [nums_length, HE.out.1])
      have hk0 : (0 : Int) ≤ (k : Int) := by omega
      have hk2 : (k : Int) < (xs.length : Int) := by omega
      have HIN := Lib.hid (List.getElem_mem hlt)
      obtain ⟨R, hR⟩ : ∃ R, decide (xs[k] = K) = R := ⟨_, rfl⟩
      rw [hR] at heq
      have HR := Lib.hid hR
      obtain ⟨y, hy⟩ : ∃ y, xs[k] = y := ⟨_, rfl⟩
      have HY := Lib.hid hy
      rw [hy] at HC HE heq HEL HIN
      clear hc hR hy
      cases R with
      | true =>
        go_wp2_with fail
        refine wp_region_held_drew (S := fun W => Ext wr W) (by kernel_rfl) (Ext.refl _).drew (fun hHeld => ?_)
        iterate 3
          refine tkD 0 (by simp only [List.size_toArray, List.length_cons, List.length_nil]; rfl) (by simp only [List.getElem?_toArray, List.getElem?_cons_zero, List.getElem?_cons_succ]; rfl) (by kernel_rfl) (by exact fun _ _ _ h => h) (by first | (exact Or.inl ⟨by rfl, by intro w hSw; (try dsimp only at hSw); go_simp; with_reducible rfl⟩) | (exact Or.inr ⟨by rfl, by rfl⟩)) (by assumption) ?_
          try simp only [Act.put, List.setIfInBounds_toArray, List.set_cons_zero, List.set_cons_succ]
        refine tkI 3 (v := (.agg (numsA .u8 y))) (by simp only [List.getElem?_toArray, List.getElem?_cons_zero, List.getElem?_cons_succ]; rfl) (by kernel_rfl) (by exact fun _ _ _ h => h) (by refine yields_loadSP g (o + k * 32) (nums .u8 y) (by rw [HEL.out]; exact aggKey) (fun W hW j u hu => hW.cell (HC.out j u hu)) ?_ _ rfl rfl; rfl) (by assumption) ?_
        try simp only [Act.put, List.setIfInBounds_toArray, List.set_cons_zero, List.set_cons_succ]
        refine tkI 4 (v := (.agg (numsA .u8 K))) (by simp only [List.getElem?_toArray, List.getElem?_cons_zero, List.getElem?_cons_succ]; rfl) (by kernel_rfl) (by exact fun _ _ _ h => h) (by refine yields_loadBSP (fun W hW => B1.out.ext hW) aggKey hks ?_ _ rfl rfl; rfl) (by assumption) ?_
        try simp only [Act.put, List.setIfInBounds_toArray, List.set_cons_zero, List.set_cons_succ]
        refine tkI 5 (by simp only [List.getElem?_toArray, List.getElem?_cons_zero, List.getElem?_cons_succ]; rfl) (by kernel_rfl) (by exact fun _ _ _ h => h) (by first | (exact Or.inl ⟨by rfl, by intro w hSw; (try dsimp only at hSw); go_simp; with_reducible rfl⟩) | (exact Or.inr ⟨by rfl, by rfl⟩)) (by assumption) ?_
        try simp only [Act.put, List.setIfInBounds_toArray, List.set_cons_zero, List.set_cons_succ]
        refine wpAnyH_done (by kernel_rfl) ?_ _

        have HXF := Lib.hid (HX.out.trans hHeld)
        have hI : Q = true := by rw [← HQ.out, decide_eq_true_iff]; have h1 := HIN.out; have h2 := of_decide_eq_true HR.out; rw [HY.out] at h2; rwa [h2] at h1
        have HI := Lib.hid hI
        clear hHeld hI
        go_wp2
        go_ret
        exact ⟨ret_bool HI.out.symm, HXF.out⟩
      | false =>
        go_wp2_with fail
        refine wp_region_held_drew (S := fun W => Ext wr W) (by kernel_rfl) (Ext.refl _).drew (fun hHeld => ?_)
        iterate 3
          refine tkD 0 (by simp only [List.size_toArray, List.length_cons, List.length_nil]; rfl) (by simp only [List.getElem?_toArray, List.getElem?_cons_zero, List.getElem?_cons_succ]; rfl) (by kernel_rfl) (by exact fun _ _ _ h => h) (by first | (exact Or.inl ⟨by rfl, by intro w hSw; (try dsimp only at hSw); go_simp; with_reducible rfl⟩) | (exact Or.inr ⟨by rfl, by rfl⟩)) (by assumption) ?_
          try simp only [Act.put, List.setIfInBounds_toArray, List.set_cons_zero, List.set_cons_succ]
        refine tkI 3 (v := (.agg (numsA .u8 y))) (by simp only [List.getElem?_toArray, List.getElem?_cons_zero, List.getElem?_cons_succ]; rfl) (by kernel_rfl) (by exact fun _ _ _ h => h) (by refine yields_loadSP g (o + k * 32) (nums .u8 y) (by rw [HEL.out]; exact aggKey) (fun W hW j u hu => hW.cell (HC.out j u hu)) ?_ _ rfl rfl; rfl) (by assumption) ?_
        try simp only [Act.put, List.setIfInBounds_toArray, List.set_cons_zero, List.set_cons_succ]
        refine tkI 4 (v := (.agg (numsA .u8 K))) (by simp only [List.getElem?_toArray, List.getElem?_cons_zero, List.getElem?_cons_succ]; rfl) (by kernel_rfl) (by exact fun _ _ _ h => h) (by refine yields_loadBSP (fun W hW => B1.out.ext hW) aggKey hks ?_ _ rfl rfl; rfl) (by assumption) ?_
        try simp only [Act.put, List.setIfInBounds_toArray, List.set_cons_zero, List.set_cons_succ]
        refine tkI 5 (by simp only [List.getElem?_toArray, List.getElem?_cons_zero, List.getElem?_cons_succ]; rfl) (by kernel_rfl) (by exact fun _ _ _ h => h) (by first | (exact Or.inl ⟨by rfl, by intro w hSw; (try dsimp only at hSw); go_simp; with_reducible rfl⟩) | (exact Or.inr ⟨by rfl, by rfl⟩)) (by assumption) ?_
        try simp only [Act.put, List.setIfInBounds_toArray, List.set_cons_zero, List.set_cons_succ]
        refine wpAnyH_done (by kernel_rfl) ?_ _

        have HXF := Lib.hid (HX0.out.trans hHeld)
        clear hHeld
        go_wp2
        go_roundw
        case rel => exact ⟨k + 1, by omega, by go_num, fun j hj h => by
          by_cases e : j = k
          · subst e; exact of_decide_eq_false HR.out
          · exact HM.out j hj (by omega), HXF.out⟩
        case measure => simp [intOf]; omega
    · obtain rfl : k = xs.length := by omega
      have hI : Q = false := by
        rw [← HQ.out, decide_eq_false_iff_not]
        intro h
        obtain ⟨j, hj, e⟩ := List.getElem_of_mem h
        exact HM.out j hj hj e
      have HI := Lib.hid hI
      clear hI
      go_wp2
      go_ret
      exact ⟨ret_bool HI.out.symm, HX.out⟩
end Go.Proofs.Ytdjclllnmclocaa
/- The keys nearest to a key: the program. No condition. -/
namespace Go.Proofs.Ytdjclllnmclocaa
open Go.RowKit Go.Shelf Go.Lib Go.Sort
set_option linter.unusedVariables false
set_option linter.unusedSimpArgs false

/-- the world has only grown, and draws have only been made -/
def DX (w w' : World) : Prop := Ext w w' ∧ w.drawn ≤ w'.drawn
theorem DX.refl (w : World) : DX w w := ⟨Ext.refl w, Nat.le_refl _⟩
theorem DX.trans {a b c : World} (h : DX a b) (k : DX b c) : DX a c := ⟨h.1.trans k.1, Nat.le_trans h.2 k.2⟩
theorem DX.drew {a b : World} (h : DX a b) : DX a b.drew := ⟨h.1.drew, Nat.le_succ_of_le h.2⟩
theorem dx_alloc (w : World) (o : Obj) : DX w (w.alloc o) := ⟨ext_alloc w o, Nat.le_refl _⟩
theorem DX.alloc {a b : World} (h : DX a b) (o : Obj) : DX a (b.alloc o) := h.trans (dx_alloc b o)
theorem DX.set {a b : World} (h : DX a b) {p : Addr} (hg : a.heap.size ≤ p.block) (v : Value) : DX a (b.setCell p v) := ⟨h.1.set hg v, h.2⟩
theorem DX.setRow {a b : World} (h : DX a b) {g : Nat} (hg : a.heap.size ≤ g) (cs : Array Value) : DX a (b.setRow g cs) := ⟨h.1.setRow hg cs, h.2⟩
theorem DX.grow {w w' : World} (h : DX w w') : ∃ q os, w' = Go.Sort.grow (w.drewN q) os := by
  obtain ⟨hx, hd⟩ := h
  refine ⟨w'.drawn - w.drawn, w'.heap.extract w.heap.size w'.heap.size, ?_⟩
  have hh : w'.heap = w.heap ++ w'.heap.extract w.heap.size w'.heap.size := by
    apply Array.ext_getElem?
    intro i
    by_cases h1 : i < w.heap.size
    · rw [Array.getElem?_append_left h1]
      exact hx.block i h1
    · rw [Array.getElem?_append_right (by omega), Array.getElem?_extract]
      by_cases h2 : i < w'.heap.size
      · rw [if_pos (by omega)]; congr 1; omega
      · rw [if_neg (by omega), Array.getElem?_eq_none (by omega)]
  have h1 := hx.os
  have h2 := hx.tape
  have h3 := hx.output
  unfold Go.Sort.grow World.drewN
  cases w'
  cases w
  simp only [World.mk.injEq] at *
  exact ⟨hh, h2, by omega, h1, h3⟩
theorem DX.of_grow {w w' : World} (h : ∃ q os, w' = Go.Sort.grow (w.drewN q) os) : DX w w' := by
  obtain ⟨q, os, rfl⟩ := h
  refine ⟨⟨rfl, rfl, rfl, by simp [Go.Sort.grow, World.drewN], fun i hi => ?_⟩, by simp [Go.Sort.grow, World.drewN]⟩
  show (w.heap ++ os)[i]? = _
  rw [Array.getElem?_append_left hi]
set_option maxHeartbeats 1000000 in
set_option maxRecDepth 100000 in
theorem xorKeys_d (a b : List Int) (ha : K32 a) (hb : K32 b) (w : World) : Calls Try.prog 25 #[.agg (numsA .u8 a), .agg (numsA .u8 b)] w fun e w' => e = .returned (.agg (numsA .u8 (xorL a b))) ∧ DX w w' := by
  have hsa := sizeN (k := .u8) ha.1
  have hsb := sizeN (k := .u8) hb.1
  have HA := Lib.hid ha
  have HB := Lib.hid hb
  have HXL := Lib.hid (fun i (h : i < 32) => xorL_at (a := a) (b := b) (by rw [ha.1, hb.1]) i (by rw [ha.1]; exact h))
  have HXO := Lib.hid (xorL_ok ha hb).1
  generalize xorL a b = X at HXL HXO ⊢
  have hzA : (Try.prog.info? 28).map (·.zero) = some (some (.agg (numsA .u8 (List.replicate 32 0)))) := by kernel_rfl
  have HZS := Lib.hid (show (numsA .u8 (List.replicate 32 0)).size = 32 by simp [numsA, nums])
  generalize numsA .u8 (List.replicate 32 0) = Z at hzA HZS
  have B0 := Lib.hid (((Blk.new w 28 (numsA .u8 a)).alloc (.cells (numsA .u8 b) 28)).alloc (.cells Z 28))
  have B1 := Lib.hid ((Blk.new' (g := w.heap.size + 1) (w := w.alloc (.cells (numsA .u8 a) 28)) (by simp) 28 (numsA .u8 b)).alloc (.cells Z 28))
  have B2 := Lib.hid (Blk.new' (g := w.heap.size + 2) (w := (w.alloc (.cells (numsA .u8 a) 28)).alloc (.cells (numsA .u8 b) 28)) (by simp) 28 Z)
  have HX := Lib.hid (((dx_alloc w (.cells (numsA .u8 a) 28)).alloc (.cells (numsA .u8 b) 28)).alloc (.cells Z 28))
  clear ha hb
  go_enter Try.func25, Try.ntmps25
  go_wp2_with (first
    | (refine wpl_alloc Z hzA rfl rfl ?_)
    | (refine wpl_loadB B1.out aggKey hsb rfl _ rfl rfl ?_))
  generalize ((w.alloc (.cells (numsA .u8 a) 28)).alloc (.cells (numsA .u8 b) 28)).alloc (.cells Z 28) = w3 at B0 B1 B2 HX ⊢
  go_loopw [5, 6, 8] (fun _ _ i wr => ∃ (q : Nat) (z : List Int), q ≤ 32 ∧ i = .int .i64 q ∧ z.length = 32 ∧ (∀ j, j < q → gI z j = xB (gI a j) (gI b j)) ∧ (∀ j, q ≤ j → gI z j = gI a j) ∧ Blk wr w.heap.size 28 (numsA .u8 z) ∧ Blk wr (w.heap.size + 2) 28 Z ∧ DX w wr) (fun _ _ i _ => 32 - (intOf i).toNat)
  case atStart => exact ⟨0, a, by omega, rfl, HA.out.1, fun j h => by omega, fun j _ => rfl, B0.out, B2.out, HX.out⟩
  case round =>
    clear B0 B1 B2 HX
    obtain ⟨q, z, hq, rfl, hzl, hz1, hz2, hb0, hb2, hx⟩ := hrel
    have HX := Lib.hid hx
    have B0 := Lib.hid hb0
    have B2 := Lib.hid hb2
    have HZ1 := Lib.hid hz1
    have HZ2 := Lib.hid hz2
    have HZL := Lib.hid hzl
    clear hx hb0 hb2 hz1 hz2 hzl
    by_cases hlt : q < 32
    · have hqI : (q : Int) < 32 := by omega
      have hq0 : (0 : Int) ≤ (q : Int) := by omega
      have hat := numsA_at .u8 b q (by rw [HB.out.1]; exact hlt)
      have hidx : (Instr.index 28 (.agg (numsA .u8 b)) (.int .i64 q)).run Try.prog wr = .ok (.int .u8 (gI b q)) wr := by
        have h1 : (isAgg 5).run Try.prog wr = .ok false wr := by kernel_rfl
        have h2 : (sizeOf 5).run Try.prog wr = .ok 1 wr := by kernel_rfl
        simp [Instr.index, asIntOf, run_underlying (show Try.prog.underlying 28 = some (.array 32 5) by kernel_rfl), hqI, hlt, part, h1, h2, hat]
      have c0 := B0.out.num q (by rw [HZL.out]; exact hlt)
      have f0 := B0.out.free q
      rw [HZ2.out q (Nat.le_refl _)] at c0
      have hxe := xB_eq (gI a q) (gI b q)
      have BS := Lib.hid (show Blk (wr.setCell ⟨w.heap.size, q, none⟩ (.int .u8 (xB (gI a q) (gI b q)))) w.heap.size 28 (numsA .u8 (z.set q (xB (gI a q) (gI b q)))) by
        have := B0.out.set q (.int .u8 (xB (gI a q) (gI b q)))
        rwa [numsA_set] at this)
      have BS2 := Lib.hid (B2.out.far (p := ⟨w.heap.size, q, none⟩) (by show w.heap.size + 2 ≠ w.heap.size; omega) (.int .u8 (xB (gI a q) (gI b q))))
      have HXS := Lib.hid (HX.out.set (p := ⟨w.heap.size, q, none⟩) (Nat.le_refl _) (.int .u8 (xB (gI a q) (gI b q))))
      clear hat
      go_wp2
      go_roundw
      case rel =>
        refine ⟨q + 1, z.set q (xB (gI a q) (gI b q)), by omega, by go_num, by rw [List.length_set]; exact HZL.out, fun j hj => ?_, fun j hj => ?_, BS.out, BS2.out, HXS.out⟩
        · rw [gI_set _ _ _ _ (by rw [HZL.out]; exact hlt)]
          by_cases e : q = j
          · rw [if_pos e, e]
          · rw [if_neg e]; exact HZ1.out j (by omega)
        · rw [gI_set _ _ _ _ (by rw [HZL.out]; exact hlt), if_neg (by omega)]
          exact HZ2.out j (by omega)
      case measure => simp [intOf]; omega
    · obtain rfl : q = 32 := by omega
      have e : z = X := gI_ext (by rw [HZL.out, HXO.out]) (fun j hj => by rw [HZ1.out j (by rw [HZL.out] at hj; exact hj), HXL.out j (by rw [HZL.out] at hj; exact hj)])
      have HE := Lib.hid e
      have hzs := sizeN (k := .u8) HZL.out
      have hzl := HZL.out
      clear e
      go_wp2_with (first
        | (refine wpl_loadB B0.out aggKey hzs rfl _ rfl rfl ?_)
        | (refine wpl_storeN B2.out aggKey hzl HZS.out rfl _ _ rfl rfl rfl rfl ?_))
      refine bodyPost_ret (results_blk rfl _ rfl aggKey hzl (B2.out.setRow _)) rfl ?_
      exact ⟨by rw [HE.out], HX.out.setRow (by omega) _⟩
set_option maxHeartbeats 1000000 in
set_option maxRecDepth 100000 in
theorem nearCmp_any (x y f : List Int) (hx : K32 x) (hy : K32 y) (hf : K32 f) (p : Nat) (w : World) (hp : Blk w p 28 (numsA .u8 f)) :
    Calls Try.prog 85 #[.agg (numsA .u8 x), .agg (numsA .u8 y), .pointer (some ⟨p, 0, none⟩)] w fun q w' => q = .returned (.int .i64 (cmpL (xorL x f) (xorL y f))) ∧ DX w w' := by
  have hsx := sizeN (k := .u8) hx.1
  have hsy := sizeN (k := .u8) hy.1
  have hsf := sizeN (k := .u8) hf.1
  have BX := Lib.hid ((Blk.new w 28 (numsA .u8 x)).alloc (.cells (numsA .u8 y) 28))
  have BY := Lib.hid (Blk.new' (g := w.heap.size + 1) (w := w.alloc (.cells (numsA .u8 x) 28)) (by simp) 28 (numsA .u8 y))
  have BF := Lib.hid ((hp.alloc (.cells (numsA .u8 x) 28)).alloc (.cells (numsA .u8 y) 28))
  have HE := Lib.hid ((dx_alloc w (.cells (numsA .u8 x) 28)).alloc (.cells (numsA .u8 y) 28))
  have H1 := Lib.hid (fun W => xorKeys_d x f hx hf W)
  have H2 := Lib.hid (fun W => xorKeys_d y f hy hf W)
  have H3 := Lib.hid (fun W => compareKeys_d (xorL x f) (xorL y f) (xorL_ok hx hf) (xorL_ok hy hf) W)
  generalize xorL x f = X at H1 H3 ⊢
  generalize xorL y f = Y at H2 H3 ⊢
  generalize cmpL X Y = c at H3 ⊢
  clear hp hx hy hf
  go_enter Try.func85, Try.ntmps85
  go_wp2_with fail
  generalize (w.alloc (.cells (numsA .u8 x) 28)).alloc (.cells (numsA .u8 y) 28) = w1 at BX BY BF HE ⊢
  refine wp_region_held_drew (S := fun W => DX w1 W) (by kernel_rfl) (DX.refl _).drew (fun hHeld => ?_)
  refine tkI 0 (v := (.agg (numsA .u8 x))) (by simp only [List.getElem?_toArray, List.getElem?_cons_zero, List.getElem?_cons_succ]; rfl) (by kernel_rfl) (by exact fun _ _ _ h => h) (by refine yields_loadBSP (fun W hW => BX.out.ext hW.1) aggKey hsx ?_ _ rfl rfl; rfl) (by assumption) ?_
  try simp only [Act.put, List.setIfInBounds_toArray, List.set_cons_zero, List.set_cons_succ]
  refine tkI 1 (v := (.agg (numsA .u8 f))) (by simp only [List.getElem?_toArray, List.getElem?_cons_zero, List.getElem?_cons_succ]; rfl) (by kernel_rfl) (by exact fun _ _ _ h => h) (by refine yields_loadBSP (fun W hW => BF.out.ext hW.1) aggKey hsf ?_ _ rfl rfl; rfl) (by assumption) ?_
  try simp only [Act.put, List.setIfInBounds_toArray, List.set_cons_zero, List.set_cons_succ]
  refine tkI 3 (v := (.agg (numsA .u8 y))) (by simp only [List.getElem?_toArray, List.getElem?_cons_zero, List.getElem?_cons_succ]; rfl) (by kernel_rfl) (by exact fun _ _ _ h => h) (by refine yields_loadBSP (fun W hW => BY.out.ext hW.1) aggKey hsy ?_ _ rfl rfl; rfl) (by assumption) ?_
  try simp only [Act.put, List.setIfInBounds_toArray, List.set_cons_zero, List.set_cons_succ]
  refine tkI 4 (v := (.agg (numsA .u8 f))) (by simp only [List.getElem?_toArray, List.getElem?_cons_zero, List.getElem?_cons_succ]; rfl) (by kernel_rfl) (by exact fun _ _ _ h => h) (by refine yields_loadBSP (fun W hW => BF.out.ext hW.1) aggKey hsf ?_ _ rfl rfl; rfl) (by assumption) ?_
  try simp only [Act.put, List.setIfInBounds_toArray, List.set_cons_zero, List.set_cons_succ]
  refine wpAnyH_ready (rs := [2]) (by kernel_rfl) (by simp) (AllReadyH.cons (o := ?oy52) ?hy52 (fun K hK => ?sy52) AllReadyH.nil)
  case hy52 => simp only [List.getElem?_toArray, List.getElem?_cons_zero, List.getElem?_cons_succ]; rfl
  go_simp
  refine (H1.out _).mono ?_
  rintro e w2 ⟨rfl, hx⟩
  have hH2 := hHeld.trans hx
  refine hK.out _ _ hH2 (fun _ => ?_)
  clear hHeld hK K
  have hHeld := hH2
  clear hH2
  try simp only [Act.put, List.setIfInBounds_toArray, List.set_cons_zero, List.set_cons_succ]
  refine wpAnyH_ready (rs := [5]) (by kernel_rfl) (by simp) (AllReadyH.cons (o := ?oy65) ?hy65 (fun K hK => ?sy65) AllReadyH.nil)
  case hy65 => simp only [List.getElem?_toArray, List.getElem?_cons_zero, List.getElem?_cons_succ]; rfl
  go_simp
  refine (H2.out _).mono ?_
  rintro e w3 ⟨rfl, hx⟩
  have hH2 := hHeld.trans hx
  refine hK.out _ _ hH2 (fun _ => ?_)
  clear hHeld hK K
  have hHeld := hH2
  clear hH2
  try simp only [Act.put, List.setIfInBounds_toArray, List.set_cons_zero, List.set_cons_succ]
  refine wpAnyH_ready (rs := [6]) (by kernel_rfl) (by simp) (AllReadyH.cons (o := ?oy76) ?hy76 (fun K hK => ?sy76) AllReadyH.nil)
  case hy76 => simp only [List.getElem?_toArray, List.getElem?_cons_zero, List.getElem?_cons_succ]; rfl
  go_simp
  refine (H3.out _).mono ?_
  rintro e w4 ⟨rfl, hx⟩
  have hH2 := hHeld.trans (DX.of_grow hx)
  refine hK.out _ _ hH2 (fun _ => ?_)
  clear hHeld hK K
  have hHeld := hH2
  clear hH2
  try simp only [Act.put, List.setIfInBounds_toArray, List.set_cons_zero, List.set_cons_succ]
  refine tkI 7 (by simp only [List.getElem?_toArray, List.getElem?_cons_zero, List.getElem?_cons_succ]; rfl) (by kernel_rfl) (by exact fun _ _ _ h => h) (by first | (exact Or.inl ⟨by rfl, by intro w hSw; (try dsimp only at hSw); go_simp; with_reducible rfl⟩) | (exact Or.inr ⟨by rfl, by rfl⟩)) (by assumption) ?_
  try simp only [Act.put, List.setIfInBounds_toArray, List.set_cons_zero, List.set_cons_succ]
  refine wpAnyH_done (by kernel_rfl) ?_ _
  have HF := Lib.hid (HE.out.trans hHeld)
  clear hHeld
  go_wp2
  go_ret
  exact ⟨rfl, HF.out⟩
def cfN (f : List Int) (x y : K7) : Int := cmpL (xorL x.1 f) (xorL y.1 f)
theorem swoN {f : List Int} (hf : K32 f) : SWO (ltOf (cfN f)) where
  irrefl x := swoK.irrefl (⟨xorL x.1 f, xorL_ok x.2 hf⟩ : K7)
  trans x y z h1 h2 := swoK.trans (⟨xorL x.1 f, xorL_ok x.2 hf⟩ : K7) ⟨xorL y.1 f, xorL_ok y.2 hf⟩ ⟨xorL z.1 f, xorL_ok z.2 hf⟩ h1 h2
  ntrans x y z h1 h2 := swoK.ntrans (⟨xorL x.1 f, xorL_ok x.2 hf⟩ : K7) ⟨xorL y.1 f, xorL_ok y.2 hf⟩ ⟨xorL z.1 f, xorL_ok z.2 hf⟩ h1 h2
theorem sortWorld_keep {w : World} {blk p : Nat} (n : Nat) (D : Array K7) (os : Array Obj) (hp : p < w.heap.size) (hne : p ≠ blk) : (sortWorldK encK 32 w blk 0 n D os).heap[p]? = w.heap[p]? := by
  have hkg : ¬ blk = p := fun e => hne e.symm
  simp [sortWorldK, grow, putRowK, putRow, mapBlock, ahead, Array.getElem?_append, Array.getElem_modify, hp, hkg, Array.getElem?_eq_getElem hp]
theorem cmpLaysN {f : List Int} (hf : K32 f) (p blk size : Nat) (w : World) (hp : Blk w p 28 (numsA .u8 f)) (hne : p ≠ blk) : CmpLays Try.prog 85 #[.pointer (some ⟨p, 0, none⟩)] encK 32 (cfN f) blk 0 size w := fun m os dk hd x y =>
  (nearCmp_any x.1 y.1 f x.2 y.2 hf p _ ((sortWorld_keep m dk os hp.lt hne).trans hp)).mono fun _ _ ⟨he, hx⟩ => ⟨he, hx.grow⟩
theorem sortRowN {f : List Int} (hf : K32 f) (p : Nat) (v : Value) (xs : List (List Int)) (w : World) (base : Nat) (h : Own tKey 28 w base v xs) (hp : Blk w p 28 (numsA .u8 f)) (hpb : p < base) :
    Calls Try.prog 84 #[v, .func (.func 85) #[] #[.pointer (some ⟨p, 0, none⟩)]] w fun q w' => q = .returned (.tuple #[]) ∧ ∃ D : List (List Int), D.Perm xs ∧ D.Pairwise (fun a b => cmpL (xorL a f) (xorL b f) ≤ 0) ∧ Own tKey 28 w' base v D ∧ w.grownBy w' v.ownBlock := by
  refine (sortRowG 85 #[.pointer (some ⟨p, 0, none⟩)] (cfN f) (swoN hf) (enters_of Try.func85 (by kernel_rfl) rfl) v xs w base h (fun blk size hb => cmpLaysN hf p blk size w hp (by omega))).mono ?_
  rintro q w' ⟨rfl, E, h1, h2, h3, h4⟩
  refine ⟨rfl, E.map (·.1), h1, ?_, h3, h4⟩
  rw [List.pairwise_map]
  refine h2.imp ?_
  intro a b hab
  unfold ltOf cfN at hab
  simp only [decide_eq_false_iff_not] at hab
  have := cmpL7_neg (xorL a.1 f) (xorL b.1 f)
  omega
set_option maxHeartbeats 2000000 in
set_option maxRecDepth 100000 in
theorem nearestKeys_any (v : Value) (xs : List (List Int)) (hl : xs.length ≤ 256) (f : List Int) (hf : K32 f) (c : Nat) (hc : c ≤ 256) (w : World) (S : Nat → Prop) (h : RdL tKey w S v xs) :
    Calls Try.prog 44 #[v, .agg (numsA .u8 f), .int .i64 c] w fun q w' => ∃ (v' : Value) (D : List (List Int)), q = .returned (.tuple #[v', .int .i64 0]) ∧ D.Perm (sK xs) ∧ D.Pairwise (fun a b => cmpL (xorL a f) (xorL b f) ≤ 0) ∧ RdL tKey w' (fun _ => True) v' (D.take (min c D.length)) ∧ Ext w w' := by
  have hok : ∀ x ∈ xs, K32 x := h.choose_spec.choose_spec.2.2.2.2
  have HR := Lib.hid h
  have HSK := Lib.hid (fun (D : List (List Int)) (h1 : D.Perm xs) (h2 : D.Pairwise fun a b => cmpL a b ≤ 0) => sK_of hok h1 h2)
  have HSL := Lib.hid (sK_len xs)
  obtain ⟨A, cap, rfl, _⟩ := id h
  have hd : decide ((256 : Int) < (xs.length : Int)) = false := decide_eq_false (by omega)
  have B0 := Lib.hid (Blk.new w 28 (numsA .u8 f))
  have HE0 := Lib.hid (ext_alloc w (.cells (numsA .u8 f) 28))
  have hw := fun W => within_any (c : Int) 0 256 W
  have hwt : (decide ((0 : Int) ≤ (c : Int)) && decide ((c : Int) ≤ 256)) = true := by simp; omega
  simp only [hwt] at hw
  have HW := Lib.hid hw
  have HL := Lib.hid hl
  have HF := Lib.hid hf
  clear h hok hw hwt hf
  go_enter Try.func44, Try.ntmps44
  go_wp2_with fail
  generalize w.alloc (.cells (numsA .u8 f) 28) = w1 at B0 HE0 ⊢
  refine (HW.out _).mono ?_
  rintro e w' ⟨rfl, rfl⟩
  go_wp2_with fail
  refine (sortedK_any _ xs w1 S (HR.out.ext (by decide) HE0.out) (by have := HL.out; omega)).mono ?_
  rintro e w2 ⟨v2, D0, rfl, hp, hs, ho, hx⟩
  rw [HSK.out D0 hp hs] at ho
  have hsr := sortRowN HF.out w.heap.size v2 (sK xs) w2 w1.heap.size ho (B0.out.ext hx) B0.out.lt
  obtain ⟨A2, n2, cap2, rfl⟩ := ho.shape3
  have HX := Lib.hid (HE0.out.trans hx)
  have HO := Lib.hid ho
  have HE1 := Lib.hid HE0.out.size
  clear hp hs ho hx HSK HW HR B0 HE0
  go_wp2_with fail
  refine hsr.mono ?_
  rintro e w3 ⟨rfl, D, hp, hs, ho, hg⟩
  have HX3 := Lib.hid (HX.out.grown hg (fun k hk => Nat.le_trans HE1.out (HO.out.base_le k hk).1))
  have HP := Lib.hid hp
  have HS := Lib.hid hs
  have hDl : D.length ≤ 256 := by have h1 := hp.length_eq; have h2 := HSL.out; have h3 := HL.out; omega
  obtain ⟨A3, c3, e3, hc3, _, _⟩ := ho.rd
  obtain ⟨rfl, rfl, rfl⟩ := Value.slice.inj e3
  have HRD := Lib.hid ho.rd
  clear e3 hp hs ho hg hsr HO HX
  go_wp2_with fail
  refine (sizeKey_any _ _ _ _).mono ?_
  rintro e w' ⟨rfl, rfl⟩
  have HT := Lib.hid (rdlK_take HRD.out rfl (Nat.min_le_right c D.length))
  have q0 : (0 : Int) ≤ ((min c D.length : Nat) : Int) := by omega
  have q1 : ((min c D.length : Nat) : Int) ≤ (cap2 : Int) := by omega
  have q2 : min (c : Int) (D.length : Int) = ((min c D.length : Nat) : Int) := by omega
  obtain ⟨m, hm⟩ : ∃ m, min c D.length = m := ⟨_, rfl⟩
  have HM := Lib.hid hm
  rw [hm] at HT q0 q1 q2
  have q3 : m ≤ cap2 := by omega
  clear hm
  go_wp2_with fail
  go_ret2
  exact ⟨_, D, rfl, HP.out, HS.out, by rw [HM.out]; exact HT.out.mono (fun _ _ => trivial), HX3.out⟩
end Go.Proofs.Ytdjclllnmclocaa
/- Keys that are drawn from a source. No condition. -/
namespace Go.Proofs.Ytdjclllnmclocaa
open Go.RowKit
set_option linter.unusedVariables false
set_option linter.unusedSimpArgs false

theorem zeroA_ok : K32 (List.replicate 32 0) := zero_ok
theorem K32.setA {k : List Int} (h : K32 k) (i : Nat) {x : Int} (h0 : 0 ≤ x) (h1 : x ≤ 255) : K32 (k.set i x) := by
  refine ⟨by rw [List.length_set]; exact h.1, fun y hy => ?_⟩
  rcases List.mem_or_eq_of_mem_set hy with hy | rfl
  · exact h.2 y hy
  · exact ⟨h0, h1⟩
theorem stRowA (w : World) (g : Nat) (cs : Array Value) : w.grownBy (w.setRow g cs) (some g) := ⟨rfl, rfl, rfl, by simp, fun k _ hk => setRow_other w g k cs (fun e => hk (by rw [e]))⟩
set_option maxHeartbeats 8000000 in
set_option maxRecDepth 100000 in
theorem l01Any_any (g : Nat) (b : Int) (hb : b ≤ 4611686018427370000) (w : World) (h : Src w g b) :
    Calls Try.prog 60 #[.pointer (some ⟨g, 0, none⟩)] w fun e w' => ∃ k : List Int, e = .returned (.agg (numsA .u8 k)) ∧ K32 k ∧ Src w' g (b + 410) ∧ w.grownBy w' (some g) := by
  have hgl := h.lt
  have hzA : (Try.prog.info? 28).map (·.zero) = some (some (.agg (numsA .u8 (List.replicate 32 0)))) := by kernel_rfl
  have hbA := built_zeroA
  have hZ0 := zeroA_ok
  generalize (List.replicate 32 (0 : Int)) = Z at hzA hbA hZ0
  have HZ := Lib.hid hZ0
  clear hZ0
  have hzl := HZ.out.1
  have hzst := St.nums (k := .u8) hzl
  have H := Lib.hid h
  clear h
  go_enter Try.func60, Try.ntmps60
  go_wp2_with (first
    | (refine wpl_alloc (numsA .u8 Z) hzA rfl rfl ?_)
    | (refine wpl_buildN rfl rfl hbA ?_)
    | (refine wpl_storeNewB aggKey hzst hzst.size rfl _ _ rfl rfl rfl rfl ?_)
    | (refine wpl_storeNewG (g := w.heap.size + 1) (w := w.alloc _) (by simp) aggKey hzst hzst.size rfl _ _ rfl rfl rfl rfl ?_))
  have BR0 := Lib.hid ((Blk.new w 28 (numsA .u8 Z)).alloc (.cells (numsA .u8 Z) 28))
  have BK0 := Lib.hid (Blk.new' (g := w.heap.size + 1) (w := w.alloc (.cells (numsA .u8 Z) 28)) (by simp) 28 (numsA .u8 Z))
  have hX := (ext_alloc w (.cells (numsA .u8 Z) 28)).alloc (.cells (numsA .u8 Z) 28)
  refine (srcPick_any g b (by omega) 3 (by omega) _ (H.out.ext hX)).mono ?_
  rintro e w1 ⟨n, rfl, hn0, hn1, hs, hg⟩
  have HG := Lib.hid (grown_trans (ext_grown (some g) hX) hg)
  have HS := Lib.hid hs
  have BR := Lib.hid (BR0.out.grown hg (fun e => by injection e with e; omega))
  have BK := Lib.hid (BK0.out.grown hg (fun e => by injection e with e; omega))
  clear hs hg hX BR0 BK0 H
  have hn3 : n = 0 ∨ n = 1 ∨ n = 2 := by omega
  rcases hn3 with rfl | rfl | rfl
  · clear hn0 hn1
    go_wp2_with fail
    refine (srcPick_any g (b + 2) (by omega) 3 (by omega) _ HS.out).mono ?_
    rintro e w2 ⟨t, rfl, ht0, ht1, hs, hg⟩
    have ht2 : t ≤ 255 := by omega
    have htw := u8_in t ht0 ht2
    replace HS := Lib.hid hs
    replace BR := Lib.hid (BR.out.grown hg (fun e => by injection e with e; omega))
    replace HG := Lib.hid (grown_trans HG.out hg)
    clear hs hg ht1
    go_wp2_with fail
    refine (l01Data_any g (b + 2 + 2) (by omega) 4 (by omega) _ HS.out).mono ?_
    rintro e w3 ⟨v3, xs, rfl, ho, hl, hs, hg⟩
    obtain ⟨A3, n3, c3, rfl⟩ := ho.shape3
    have HO := Lib.hid ho
    replace HS := Lib.hid hs
    replace BR := Lib.hid (BR.out.grown hg (fun e => by injection e with e; omega))
    replace HG := Lib.hid (grown_trans HG.out hg)
    clear hs hg ho
    go_wp2_with fail
    refine (l01Hash_any t ⟨ht0, ht2⟩ _ xs _ _ HO.out.rd (by omega)).mono ?_
    rintro e w4 ⟨rfl, hx⟩
    have hk := (hashL_ok t xs).1
    replace HS := Lib.hid (HS.out.ext hx)
    replace BR := Lib.hid (BR.out.ext hx)
    replace HG := Lib.hid (grown_ext HG.out hx)
    clear hx HO
    go_wp2_with (refine wpl_storeN BR.out aggKey hk hzst.size rfl _ _ rfl rfl rfl rfl ?_)
    refine bodyPost_ret (results_blk rfl _ rfl aggKey hk (BR.out.setRow _)) rfl ?_
    exact ⟨_, rfl, hashL_ok t xs, (HS.out.later (stRowA _ _ _) (fun k e => by injection e with e; omega)).le (by omega), grownR HG.out (stRowA _ _ _) (fun k e => by injection e with e; omega)⟩
  · clear hn0 hn1
    go_wp2_with fail
    refine (srcPick_any g (b + 2) (by omega) 32 (by omega) _ HS.out).mono ?_
    rintro e w2 ⟨i, rfl, hi0, hi1, hs, hg⟩
    obtain ⟨i, rfl⟩ := Int.eq_ofNat_of_zero_le hi0
    have hi2 : i < 32 := by omega
    have hi3 : (i : Int) < 32 := by omega
    replace HS := Lib.hid hs
    replace BR := Lib.hid (BR.out.grown hg (fun e => by injection e with e; omega))
    replace BK := Lib.hid (BK.out.grown hg (fun e => by injection e with e; omega))
    replace HG := Lib.hid (grown_trans HG.out hg)
    clear hs hg hi1
    go_wp2_with fail
    refine (srcPick_any g (b + 2 + 2) (by omega) 256 (by omega) _ HS.out).mono ?_
    rintro e w3 ⟨x, rfl, hx0, hx1, hs, hg⟩
    have hx2 : x ≤ 255 := by omega
    have hxw := u8_in x hx0 hx2
    replace HS := Lib.hid hs
    replace BR := Lib.hid (BR.out.grown hg (fun e => by injection e with e; omega))
    replace BK := Lib.hid (BK.out.grown hg (fun e => by injection e with e; omega))
    replace HG := Lib.hid (grown_trans HG.out hg)
    have d := BK.out.num i (by rw [hzl]; exact hi2)
    have f := BK.out.free i
    have HK := Lib.hid (HZ.out.setA i hx0 hx2)
    have hkl := HK.out.1
    have hksz := sizeN (k := .u8) hkl
    have BK2 := Lib.hid (show Blk (w3.setCell ⟨w.heap.size + 1, i, none⟩ (.int .u8 x)) (w.heap.size + 1) 28 (numsA .u8 (Z.set i x)) by
      have := BK.out.set i (.int .u8 x)
      rwa [numsA_set] at this)
    have BR2 := Lib.hid (BR.out.far (p := ⟨w.heap.size + 1, i, none⟩) (by show w.heap.size ≠ w.heap.size + 1; omega) (.int .u8 x))
    have HG2 := Lib.hid (grownR HG.out (r2 := some (w.heap.size + 1)) (grown_set (grown_refl w3 _) (i := i) (.int .u8 x)) (fun k e => by injection e with e; omega))
    have HS2 := Lib.hid (HS.out.later (grown_set (grown_refl w3 (some (w.heap.size + 1))) (i := i) (.int .u8 x)) (fun k e => by injection e with e; omega))
    clear hs hg hx1
    go_wp2_with (first
      | (refine wpl_loadB BK2.out aggKey hksz rfl _ rfl rfl ?_)
      | (refine wpl_storeN BR2.out aggKey hkl hzst.size rfl _ _ rfl rfl rfl rfl ?_))
    refine bodyPost_ret (results_blk rfl _ rfl aggKey hkl (BR2.out.setRow _)) rfl ?_
    exact ⟨_, rfl, HK.out, (HS2.out.later (stRowA _ _ _) (fun k e => by injection e with e; omega)).le (by omega), grownR HG2.out (stRowA _ _ _) (fun k e => by injection e with e; omega)⟩
  · clear hn0 hn1
    go_wp2_with fail
    go_loopw [4] (fun q wr => ∃ (j : Nat) (ks : List Int), j ≤ 32 ∧ q = .int .i64 j ∧ K32 ks ∧ Blk wr (w.heap.size + 1) 28 (numsA .u8 ks) ∧ Blk wr w.heap.size 28 (numsA .u8 Z) ∧ Src wr g (b + 2 + 2 * j) ∧ w.grownBy wr (some g)) (fun q _ => 32 - (intOf q).toNat)
    case atStart => exact ⟨0, _, by omega, rfl, HZ.out, BK.out, BR.out, HS.out.le (by omega), HG.out⟩
    case round =>
      obtain ⟨j, ks, hj, rfl, hks, hbk, hbr, hs, hg⟩ := hrel
      clear HS HG BK BR
      have BK := Lib.hid hbk
      have BR := Lib.hid hbr
      have HS := Lib.hid hs
      have HG := Lib.hid hg
      have HK0 := Lib.hid hks
      have hksl := hks.1
      clear hbk hbr hs hg hks
      by_cases hlj : j < 32
      · have hjI : (j : Int) < 32 := by omega
        have hj0 : (0 : Int) ≤ (j : Int) := by omega
        go_wp2_with fail
        refine (srcPick_any g _ (by omega) 256 (by omega) _ HS.out).mono ?_
        rintro e w3 ⟨x, rfl, hx0, hx1, hs, hg⟩
        have hx2 : x ≤ 255 := by omega
        have hxw := u8_in x hx0 hx2
        replace HS := Lib.hid hs
        replace BR := Lib.hid (BR.out.grown hg (fun e => by injection e with e; omega))
        replace BK := Lib.hid (BK.out.grown hg (fun e => by injection e with e; omega))
        replace HG := Lib.hid (grown_trans HG.out hg)
        have d := BK.out.num j (by rw [hksl]; exact hlj)
        have f := BK.out.free j
        have HK := Lib.hid (HK0.out.setA j hx0 hx2)
        have BK2 := Lib.hid (show Blk (w3.setCell ⟨w.heap.size + 1, j, none⟩ (.int .u8 x)) (w.heap.size + 1) 28 (numsA .u8 (ks.set j x)) by
          have := BK.out.set j (.int .u8 x)
          rwa [numsA_set] at this)
        have BR2 := Lib.hid (BR.out.far (p := ⟨w.heap.size + 1, j, none⟩) (by show w.heap.size ≠ w.heap.size + 1; omega) (.int .u8 x))
        have HG2 := Lib.hid (grownR HG.out (r2 := some (w.heap.size + 1)) (grown_set (grown_refl w3 _) (i := j) (.int .u8 x)) (fun k e => by injection e with e; omega))
        have HS2 := Lib.hid (HS.out.later (grown_set (grown_refl w3 (some (w.heap.size + 1))) (i := j) (.int .u8 x)) (fun k e => by injection e with e; omega))
        clear hs hg hx1
        go_wp2
        go_roundw
        case rel => exact ⟨j + 1, _, by omega, by go_num, HK.out, BK2.out, BR2.out, HS2.out.le (by omega), HG2.out⟩
        case measure => simp [intOf]; omega
      · obtain rfl : j = 32 := by omega
        have hksz := sizeN (k := .u8) hksl
        go_wp2_with (first
          | (refine wpl_loadB BK.out aggKey hksz rfl _ rfl rfl ?_)
          | (refine wpl_storeN BR.out aggKey hksl hzst.size rfl _ _ rfl rfl rfl rfl ?_))
        refine bodyPost_ret (results_blk rfl _ rfl aggKey hksl (BR.out.setRow _)) rfl ?_
        exact ⟨_, rfl, HK0.out, (HS.out.later (stRowA _ _ _) (fun k e => by injection e with e; omega)).le (by omega), grownR HG.out (stRowA _ _ _) (fun k e => by injection e with e; omega)⟩
set_option maxHeartbeats 4000000 in
set_option maxRecDepth 100000 in
theorem a2Keys_any (v : Value) (code : List Int) (most : Nat) (hm : most ≤ 20) (w : World) (S : Nat → Prop) (h : RdL tByte w S v code) :
    Calls Try.prog 21 #[v, .int .i64 most] w fun e w' => ∃ v' ks, e = .returned v' ∧ Own tKey 28 w' w.heap.size v' ks ∧ ks.length ≤ most ∧ Ext w w' := by
  obtain ⟨A, cap, rfl, _⟩ := id h
  have hm1 : (most : Int) + 1 ≤ 4611686018427387904 := by omega
  have hw1 : IntKind.i64.wrap ((most : Int) + 1) = (most : Int) + 1 := IntWalk.i64_in _ (by omega)
  go_enter Try.func21, Try.ntmps21
  go_wp2_with fail
  refine (l00From_any _ code _ _ h).mono ?_
  rintro e w1 ⟨rfl, hs, hx⟩
  have HX1 := Lib.hid hx
  have HS := Lib.hid hs
  have hgl := hs.lt
  clear hs hx h
  obtain ⟨g, hg0⟩ : ∃ g, w.heap.size = g := ⟨_, rfl⟩
  have HG0 := Lib.hid hg0
  rw [hg0] at HS hgl ⊢
  clear hg0
  go_wp2_with fail
  refine (srcPick_any g 0 (by omega) (most + 1) (by omega) _ (HS.out.ext (ext_alloc _ _))).mono ?_
  rintro e w2 ⟨n, rfl, hn0, hn1, hs, hg⟩
  obtain ⟨n, rfl⟩ := Int.eq_ofNat_of_zero_le hn0
  have hn2 : n ≤ most := by omega
  have HO := Lib.hid ((Own.empty tKey w1 28 w1.heap.size (Nat.le_refl _)).kept hg ((Own.empty tKey w1 28 w1.heap.size (Nat.le_refl _)).ne_sA hgl))
  have HG := Lib.hid (grown_trans (ext_grown (some g) (ext_alloc w1 (Obj.cells #[] 28))) hg)
  replace HS := Lib.hid hs
  clear hs hg hw1
  go_wp2
  go_loopw [6, 7] (fun a i wr => ∃ (k : Nat) (ks : List (List Int)), k ≤ n ∧ i = .int .i64 k ∧ Own tKey 28 wr w1.heap.size a ks ∧ ks.length + k ≤ most ∧ Src wr g (2 + 410 * (n - k)) ∧ w1.grownBy wr (some g)) (fun _ i _ => (intOf i).toNat)
  case atStart => exact ⟨n, [], by omega, rfl, HO.out, by simp; omega, HS.out.le (by omega), HG.out⟩
  case round =>
    obtain ⟨k, ks, hk, rfl, ho, hl, hs, hg⟩ := hrel
    obtain ⟨C, cn, cc, rfl⟩ := ho.shape3
    clear HO HS HG
    have HO := Lib.hid ho
    have HS := Lib.hid hs
    have HG := Lib.hid hg
    have HL := Lib.hid hl
    clear ho hs hg hl
    by_cases h0 : 0 < k
    · have hi : (0 : Int) < (k : Int) := by omega
      go_wp2_with fail
      refine (l01Any_any g _ (by omega) _ HS.out).mono ?_
      rintro e w3 ⟨q7, rfl, hko, hs, hg⟩
      replace HO := Lib.hid (HO.out.kept hg (HO.out.ne_sA hgl))
      replace HS := Lib.hid hs
      replace HG := Lib.hid (grown_trans HG.out hg)
      have HKO := Lib.hid hko
      clear hs hg hko
      go_wp2_with (first
        | (refine wpl_one rowKeyA (by decide) q7 HKO.out rfl _ rfl rfl ?_)
        | (at_builtin; refine wpl_append rowKeyA rfl _ _ rfl (v := .slice C cn cc) rfl (HO.out.alloc (.cells (tKey.enc q7).toArray 28)) _ _ rfl (A := some ⟨w3.heap.size, 0, none⟩) (ys := [q7]) rfl (rd_one (T := tKey) w3 q7 HKO.out _) (by intro y hy; obtain rfl := List.mem_singleton.1 hy; exact HKO.out) (by have := HL.out; simp; omega) (by have := HG.out.size; simp; omega) ?_; intro v5 w5 ho5 hg5 hat5; have HS5 := Lib.hid ((HS.out.ext (ext_alloc w3 (.cells (tKey.enc q7).toArray 28))).later hg5 (fun q hq => Nat.lt_of_lt_of_le hgl (HO.out.base_le q hq).1)); have HG5 := Lib.hid (grownR (grown_ext HG.out (ext_alloc w3 (.cells (tKey.enc q7).toArray 28))) hg5 (fun q hq => (HO.out.base_le q hq).1)); have HO5 := Lib.hid ho5; obtain ⟨C5, n5, c5, rfl⟩ := ho5.shape3; clear ho5 hg5 hat5))
      go_roundw
      case rel => exact ⟨k - 1, _, by omega, by go_num, HO5.out, by have := HL.out; simp; omega, HS5.out.le (by omega), HG5.out⟩
      case measure => simp [intOf]; omega
    · obtain rfl : k = 0 := by omega
      have HX := Lib.hid (HX1.out.grown HG.out (fun k e => by injection e with e; have := HG0.out; omega))
      have HOL := Lib.hid (HO.out.le HX1.out.size)
      go_wp2
      go_ret
      exact ⟨_, ks, rfl, HOL.out, by have := HL.out; omega, HX.out⟩
end Go.Proofs.Ytdjclllnmclocaa
