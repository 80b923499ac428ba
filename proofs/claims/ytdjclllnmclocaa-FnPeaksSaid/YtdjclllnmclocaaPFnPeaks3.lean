/- What the walk of the law FnPeaks needs, part 3 of 3. No condition. -/
import Derived.Laws.StructEq
import Derived.BigFrame
import Derived.Test.YtdjclllnmclocaaPFnPeaks2
/- Rows of keys, key by key: read out of an owned row, written, shut again; struck runs of equal keys. No condition. -/
namespace Go.Proofs.Ytdjclllnmclocaa
open Go.RowKit
set_option linter.unusedVariables false
set_option linter.unusedSimpArgs false

def AtK (cur : Array Value) (i : Nat) (x : List Int) : Prop := ∀ j u, (nums .u8 x)[j]? = some u → cur[i * 32 + j]? = some u
theorem flat_key (xs : List (List Int)) (hok : ∀ x ∈ xs, K32 x) (i : Nat) (hi : i < xs.length) (j : Nat) (hj : j < 32) : (xs.flatMap tKey.enc)[i * 32 + j]? = (nums .u8 xs[i])[j]? := by
  have := flatN_at (sz := 32) (xs.map tKey.enc) (by intro es hes; obtain ⟨x, hx, rfl⟩ := List.mem_map.1 hes; exact tKey.len _ (hok x hx)) i (tKey.enc xs[i]) (by rw [List.getElem?_map, List.getElem?_eq_getElem hi]; rfl) j hj
  rw [← List.flatMap_def] at this
  exact this
theorem own_of_atK {w : World} {g t cap base : Nat} {cur : Array Value} {xs : List (List Int)} (hb : Blk w g t cur) (hg : base ≤ g) (hs : cur.size = cap * 32) (hn : xs.length ≤ cap) (hc : cap ≤ maxLen) (hl : xs.length ≤ 140737488355328) (hok : ∀ x ∈ xs, tKey.ok x) (hat : ∀ i (hi : i < xs.length), AtK cur i xs[i]) :
    Own tKey t w base (.slice (some ⟨g, 0, none⟩) xs.length cap) xs := by
  have hfl := flat_length tKey xs hok
  refine ⟨⟨hfl, .inr ⟨g, cap, cur, rfl, hg, hb, hn, hc, hs, ?_⟩⟩, hl, hok⟩
  apply List.ext_getElem?
  intro q
  show (List.take (xs.length * 32) cur.toList)[q]? = _
  by_cases hq : q < xs.length * 32
  · rw [List.getElem?_take_of_lt hq, Array.getElem?_toList]
    have hi : q / 32 < xs.length := by omega
    have hj : q % 32 < 32 := by omega
    have hlen : (nums .u8 xs[q / 32]).length = 32 := by rw [nums_length, (show K32 _ from hok _ (List.getElem_mem hi)).1]
    have h1 := hat _ hi (q % 32) _ (List.getElem?_eq_getElem (by rw [hlen]; exact hj))
    have h2 := flat_key xs hok _ hi (q % 32) hj
    rw [show q / 32 * 32 + q % 32 = q by omega] at h1 h2
    rw [h1, h2, List.getElem?_eq_getElem (by rw [hlen]; exact hj)]
  · rw [List.getElem?_eq_none (by simp; omega), List.getElem?_eq_none (by rw [hfl]; show xs.length * 32 ≤ q; omega)]
theorem at_of_ownK {w : World} {t base : Nat} {v : Value} {xs : List (List Int)} (h : Own tKey t w base v xs) (h0 : 0 < xs.length) :
    ∃ g cap cur, v = .slice (some ⟨g, 0, none⟩) xs.length cap ∧ base ≤ g ∧ g < w.heap.size ∧ Blk w g t cur ∧ cur.size = cap * 32 ∧ xs.length ≤ cap ∧ cap ≤ maxLen ∧ ∀ i (hi : i < xs.length), AtK cur i xs[i] := by
  have hbl := h.base_le
  obtain ⟨⟨hl, hx⟩, h2, h3⟩ := h
  rcases hx with ⟨rfl, hz⟩ | ⟨g, cap, cur, rfl, hb, hg, hc, hm, hs, ht⟩
  · omega
  · refine ⟨g, cap, cur, rfl, hb, (hbl g rfl).2, hg, hs, hc, hm, fun i hi j u hu => ?_⟩
    have hj : j < 32 := by
      have := (List.getElem?_eq_some_iff.1 hu).1
      rw [nums_length, (show K32 _ from h3 _ (List.getElem_mem hi)).1] at this
      exact this
    have h2 := flat_key xs h3 i hi j hj
    rw [← ht] at h2
    have hz : i * 32 + j < xs.length * tKey.sz := by show i * 32 + j < xs.length * 32; omega
    rw [List.getElem?_take_of_lt hz, Array.getElem?_toList] at h2
    rw [h2, hu]
theorem at_putK (cur : Array Value) (i : Nat) (x : List Int) (hx : x.length = 32) (h : i * 32 + 32 ≤ cur.size) : AtK (splice cur (i * 32) (nums .u8 x)) i x := fun j u hu => by
  have hj := (List.getElem?_eq_some_iff.1 hu).1
  rw [splice_in cur (i * 32) (nums .u8 x) (by rw [nums_length, hx]; exact h) j hj]
  exact hu
theorem at_farK {cur : Array Value} {i p : Nat} {x f : List Int} (hx : x.length = 32) (hf : f.length = 32) (h : i * 32 + 32 ≤ cur.size) (hp : p ≠ i) (ha : AtK cur p f) : AtK (splice cur (i * 32) (nums .u8 x)) p f := fun j u hu => by
  have hj := (List.getElem?_eq_some_iff.1 hu).1
  rw [nums_length, hf] at hj
  rw [splice_out _ _ _ (by rw [nums_length, hx]; exact h) _ (by rw [nums_length, hx]; omega)]
  exact ha j u hu
/-- keys of one's own are made empty -/
theorem run_clearK {w : World} {g off n : Nat} {cur : Array Value} {t : TypeId} (hn : 0 < n) (hb : Blk w g t cur) (h : off + n * 32 ≤ cur.size) :
    ∃ cs, cs.size = cur.size ∧ (∀ q, q < off → cs[q]? = cur[q]?) ∧ ∀ ty c, (Builtin.clear_ #[47] ty #[.slice (some ⟨g, off, none⟩) n c]).run Try.prog w = .ok (.tuple #[]) (w.setRow g cs) := by
  have hz : ∀ W : World, (zeroValue 28).run Try.prog W = .ok (.agg (numsA .u8 (List.replicate 32 0))) W := by
    intro W
    have hi : (Try.prog.info? 28).map (·.zero) = some (some (.agg (numsA .u8 (List.replicate 32 0)))) := by kernel_rfl
    cases hq : Try.prog.info? 28 with
    | none => simp [hq] at hi
    | some i =>
      have hz : i.zero = some (.agg (numsA .u8 (List.replicate 32 0))) := by simpa [hq] using hi
      simp [zeroValue, typeInfo, hq, hz]
  obtain ⟨Z, hZ⟩ : ∃ Z, numsA .u8 (List.replicate 32 0) = Z := ⟨_, rfl⟩
  have hZs : Z.size = 32 := by rw [← hZ]; simp [numsA, nums]
  have hZ1 : ∀ u ∈ Z.toList, u.oneCell' = true := by rw [← hZ]; intro u hu; exact one_nums _ _ u (by simpa [numsA] using hu)
  rw [hZ] at hz
  clear hZ
  obtain ⟨m, rfl⟩ : ∃ m, n = m + 1 := ⟨n - 1, by omega⟩
  have hl : (Builtin.zeroCells Z (m + 1)).toList.length = (m + 1) * 32 := by simp [size_zeroCells, hZs]
  have h1 : ∀ u ∈ (Builtin.zeroCells Z (m + 1)).toList, u.oneCell' = true := by
    intro u hu
    simp only [Builtin.zeroCells, Array.toList_map, List.mem_map] at hu
    obtain ⟨i, _, rfl⟩ := hu
    have hlt : i % Z.size < Z.size := Nat.mod_lt _ (by omega)
    rw [getElem!_pos Z (i % Z.size) hlt]
    exact hZ1 _ (Array.getElem_mem_toList hlt)
  have hst := run_storeCells_at Try.prog g off t (Builtin.zeroCells Z (m + 1)).toList 0 cur w hb (by rw [hl]; omega) h1
  simp only [Nat.add_zero] at hst
  refine ⟨splice cur off (Builtin.zeroCells Z (m + 1)).toList, splice_size _ _ _ (by rw [hl]; omega), fun q hq => splice_out _ _ _ (by rw [hl]; omega) _ (.inl hq), fun ty c => ?_⟩
  simp [Builtin.clear_, run_underlying Try.underlying47, hz, Value.cells, hst, splice]
theorem compactL_sub : ∀ (L : List (List Int)) (x : List Int), x ∈ compactL L → x ∈ L
  | [], x, h => by simp [compactL] at h
  | [y], x, h => by simpa [compactL] using h
  | y :: z :: r, x, h => by
    have ih := compactL_sub (z :: r) x
    rw [compactL] at h
    split at h
    · exact List.mem_cons_of_mem _ (ih h)
    · rcases List.mem_cons.1 h with rfl | h
      · exact List.mem_cons_self
      · exact List.mem_cons_of_mem _ (ih h)
/-- one more key behind the others -/
theorem compactL_snoc (z : List Int) : ∀ (l : List (List Int)) (h : l ≠ []), compactL (l ++ [z]) = compactL l ++ (if z = l.getLast h then [] else [z])
  | [], h => absurd rfl h
  | [x], _ => by
    show compactL [x, z] = [x] ++ _
    rw [compactL, List.getLast_singleton]
    by_cases e : x = z
    · subst e; simp [compactL]
    · rw [if_neg e, if_neg (fun q => e q.symm)]; rfl
  | x :: y :: r, _ => by
    have ih := compactL_snoc z (y :: r) (by simp)
    have hg : (x :: y :: r).getLast (by simp) = (y :: r).getLast (by simp) := List.getLast_cons (by simp)
    rw [hg]
    show compactL (x :: y :: (r ++ [z])) = compactL (x :: y :: r) ++ _
    rw [compactL, compactL]
    rw [List.cons_append] at ih
    by_cases e : x = y
    · rw [if_pos e, if_pos e, ih]
    · rw [if_neg e, if_neg e, ih]; rfl
theorem compactL_step (L : List (List Int)) (j : Nat) (h0 : 0 < j) (h : j < L.length) : compactL (L.take (j + 1)) = compactL (L.take j) ++ (if L[j] = L[j - 1] then [] else [L[j]]) := by
  have hne : L.take j ≠ [] := by
    intro e
    have := congrArg List.length e
    rw [List.length_take, List.length_nil] at this
    omega
  have hg : (L.take j).getLast hne = L[j - 1] := by
    rw [List.getLast_eq_getElem, List.getElem_take]
    congr 1
    rw [List.length_take]
    omega
  rw [List.take_succ_eq_append_getElem h, compactL_snoc _ _ hne, hg]
/-- nothing is struck of what holds no equal neighbours -/
theorem compactL_same {L : List (List Int)} : ∀ (j : Nat), j ≤ L.length → (∀ k (h : k + 1 < L.length), k + 1 < j → L[k + 1] ≠ L[k]) → compactL (L.take j) = L.take j
  | 0, _, _ => by simp [compactL]
  | 1, h, _ => by
    cases L with
    | nil => simp at h
    | cons x r => simp [compactL]
  | j + 2, h, k => by
    rw [compactL_step L (j + 1) (by omega) (by omega), compactL_same (j + 1) (by omega) (fun q hq hlt => k q hq (by omega)), if_neg (by have := k j (by omega) (by omega); simpa using this)]
    exact (List.take_succ_eq_append_getElem (by omega)).symm
end Go.Proofs.Ytdjclllnmclocaa
/- A copy of a list of keys: the program. No condition. -/
namespace Go.Proofs.Ytdjclllnmclocaa
open Go.RowKit
set_option linter.unusedVariables false
set_option linter.unusedSimpArgs false

theorem rowKey7 : Row Try.prog tKey 47 28 32 := Row.mk' Try.underlying47 (.agg (numsA .u8 (List.replicate 32 0))) (by kernel_rfl) rfl (by decide) (by decide)
set_option maxHeartbeats 400000 in
theorem cloneK_any (v : Value) (xs : List (List Int)) (w : World) (S : Nat → Prop) (h : RdL tKey w S v xs) (hl : xs.length * 32 ≤ 140737488351232) :
    Calls Try.prog 79 #[v] w fun e w' => ∃ v', e = .returned v' ∧ Own tKey 28 w' w.heap.size v' xs ∧ Ext w w' := by
  obtain ⟨A, cap, rfl, hcap, hlen, hrd, hok⟩ := h
  have Hrd := Lib.hid hrd
  have Hok := Lib.hid hok
  clear hrd hok
  rcases A with _ | ad
  · have h0 : xs.length = 0 := by
      rcases Nat.eq_zero_or_pos xs.length with h0 | h0
      · exact h0
      · obtain ⟨g, o, h, _⟩ := Hrd.out.2 h0
        cases h
    obtain rfl : xs = [] := List.eq_nil_of_length_eq_zero h0
    have he : ∀ W : World, (binOp .eql 47 (.slice none 0 cap) (.slice none 0 0)).run Try.prog W = .ok (.bool true) W := fun W => Lib.run_eql_slice_nil W 47 _ none 0 cap 0 0 Try.underlying47
    go_enter Try.func79, Try.ntmps79
    go_wp2_with fail
    go_ret
    exact ⟨_, rfl, Own.nil _ _ _ _, Ext.refl _⟩
  · have he : ∀ W : World, (binOp .eql 47 (.slice (some ad) xs.length cap) (.slice none 0 0)).run Try.prog W = .ok (.bool false) W := fun W => Lib.run_eql_slice_nil W 47 _ (some ad) xs.length cap 0 0 Try.underlying47
    go_enter Try.func79, Try.ntmps79
    go_wp2_with (at_builtin; refine wpl_append rowKey7 rfl _ _ rfl rfl (Own.empty tKey _ 28 w.heap.size (Nat.le_refl _)) _ _ rfl rfl (Hrd.out.ext (by decide) (ext_alloc _ _)) Hok.out (by simp; omega) (by simp) ?_; intro v1 w1 ho1 hg1 hat1; obtain ⟨A1, c1, rfl⟩ := ho1.shape; have HO := Lib.hid ho1; have HG := Lib.hid hg1; clear ho1 hg1 hat1)
    go_ret
    exact ⟨_, rfl, HO.out, (ext_alloc _ _).grown HG.out (fun k hk => Nat.le_of_eq (Option.some.inj hk))⟩

end Go.Proofs.Ytdjclllnmclocaa
/- The peaks of a list: the program. No condition. -/
namespace Go.Proofs.Ytdjclllnmclocaa
open Go.RowKit
set_option linter.unusedVariables false
set_option linter.unusedSimpArgs false

theorem yields_loadSP {P : Program} {ops : Array Oper} {op : Oper} {a : Act} {S : World → Prop} {t : Nat} (g o : Nat) (cs : List Value) (ht : Agg P t cs.length) (hc : ∀ W, S W → ∀ j u, cs[j]? = some u → W.cell? ⟨g, o + j, none⟩ = some u) (hw : Region.wanted op (yielded ops a.tmps) = true) (x : Operand) (ho : op.op = .load t x) (hx : a.eval x = .pointer (some ⟨g, o, none⟩)) :
    YieldsIf P ops S op (.agg cs.toArray) a := Or.inl ⟨hw, fun W hW => by
  have hl := run_loadVar_at (P := P) (w := W) (t := t) ⟨g, o, none⟩ cs ht (fun j u hu => by rw [Addr.add_lit]; exact hc W hW j u hu)
  unfold execOp
  simp only [ho, hx, Instr.loadAt, Instr.sureAddr, Sem.run_bind, Sem.run_pure, Result.andThen_ok, hl]⟩
theorem yields_loadBSP {P : Program} {ops : Array Oper} {o : Oper} {a : Act} {S : World → Prop} {t g e n : Nat} {cs : Array Value} (hb : ∀ W, S W → Blk W g e cs) (ht : Agg P t n) (hn : cs.size = n) (hw : Region.wanted o (yielded ops a.tmps) = true) (x : Operand) (ho : o.op = .load t x) (hx : a.eval x = .pointer (some ⟨g, 0, none⟩)) :
    YieldsIf P ops S o (.agg cs) a := Or.inl ⟨hw, fun W hW => by
  unfold execOp
  simp only [ho, hx, Instr.loadAt, Instr.sureAddr, Sem.run_bind, Sem.run_pure, Result.andThen_ok, run_loadB (hb W hW) ht hn]⟩
/-- the first of a row of one's own -/
theorem Own.takeP {α : Type} {T : Ty α} {e : TypeId} {w : World} {base n cap k : Nat} {A : Option Addr} {xs : List α} (h : Own T e w base (.slice A n cap) xs) (hk : k ≤ xs.length) : Own T e w base (.slice A k cap) (xs.take k) := by
  obtain ⟨⟨hl, hx⟩, h2, h3⟩ := h
  have hkl : (xs.take k).length = k := by rw [List.length_take]; omega
  have h3' : ∀ x ∈ xs.take k, T.ok x := fun x hx => h3 x (List.mem_of_mem_take hx)
  have hsp : xs.flatMap T.enc = (xs.take k).flatMap T.enc ++ (xs.drop k).flatMap T.enc := by rw [← List.flatMap_append, List.take_append_drop]
  have hfl := flat_length T (xs.take k) h3'
  rw [hkl] at hfl
  refine ⟨⟨by rw [hkl]; exact hfl, ?_⟩, by omega, h3'⟩
  rcases hx with ⟨hv, h0⟩ | ⟨g, cp, cur, hv, h4, h5, h6, h7, h8, h9⟩
  · obtain ⟨rfl, rfl, rfl⟩ := Value.slice.inj hv
    exact .inl ⟨by rw [show k = 0 by omega], by rw [hkl]; omega⟩
  · obtain ⟨rfl, rfl, rfl⟩ := Value.slice.inj hv
    refine .inr ⟨g, cap, cur, by rw [hkl], h4, h5, by omega, h7, h8, ?_⟩
    rw [hkl]
    have e1 : (cur.toList.take (xs.length * T.sz)).take (k * T.sz) = cur.toList.take (k * T.sz) := by
      rw [List.take_take, Nat.min_eq_left (Nat.mul_le_mul_right _ hk)]
    rw [← e1, h9, hsp, List.take_left' hfl]
set_option maxHeartbeats 4000000 in
set_option maxRecDepth 100000 in
theorem peaks_any (v : Value) (xs : List (List Int)) (hl : xs.length ≤ 255) (w : World) (S : Nat → Prop) (h : RdL tKey w S v xs) :
    Calls Try.prog 75 #[v] w fun q w' => ∃ v', q = .returned v' ∧ Own tKey 28 w' w.heap.size v' (pk xs) ∧ Ext w w' := by
  obtain ⟨A, cap, rfl, hcap, hlen, hrd, hok⟩ := id h
  have HOK := Lib.hid (show ∀ x ∈ xs, K32 x from hok)
  have HR := Lib.hid h
  obtain ⟨R, hR⟩ : ∃ R, pk xs = R := ⟨_, rfl⟩
  have HRR := Lib.hid hR
  rw [hR]
  clear h hrd hok hR
  go_enter Try.func75, Try.ntmps75
  go_wp2
  go_loopw [0, 3, 4] (fun a o _ wr => ∃ (ys : List (List Int)) (done : List (List Int)) (A1 : Option Addr) (c1 : Nat), a = .slice A1 ys.length c1 ∧ ys.length ≤ 255 ∧ RdL tKey w S (.slice A1 ys.length c1) ys ∧ Own tKey 28 wr w.heap.size o done ∧ done ++ pk ys = R ∧ done.length + ys.length ≤ 255 ∧ Ext w wr) (fun a _ _ _ => lenV a)
  case atStart => exact ⟨xs, [], A, cap, rfl, hl, HR.out, Own.empty tKey _ _ _ (Nat.le_refl _), by rw [List.nil_append]; exact HRR.out, by simpa using hl, ext_alloc _ _⟩
  case round =>
    obtain ⟨ys, done, A1, c1, rfl, hyl, hry, ho, hd, hdl, hx⟩ := hrel
    obtain ⟨C, cn, cc, rfl⟩ := ho.shape3
    have HX := Lib.hid hx
    have HO := Lib.hid ho
    have HD := Lib.hid hd
    have HRY := Lib.hid hry
    have HDL := Lib.hid hdl
    clear hx ho hd hry hdl
    by_cases h0 : 0 < ys.length
    · have ht := top_le (n := ys.length) (by omega)
      have hpk := pk_step (xs := ys) (by omega)
      have hln := fun W => len_any ys.length (by omega) W
      have hlt : lenT ys.length = Nat.log2 ys.length + 1 := by rw [lenT, if_neg (by omega)]
      rw [hlt] at hln
      have hlog : Nat.log2 ys.length < 8 := (Nat.log2_lt (by omega)).2 (by omega)
      obtain ⟨p, hp⟩ : ∃ p, Nat.log2 ys.length = p := ⟨_, rfl⟩
      rw [hp] at ht hpk hln hlog
      obtain ⟨A', cap', e', hcy, hlny, hrd, hok⟩ := HRY.out
      obtain ⟨rfl, _, rfl⟩ := Value.slice.inj e'
      obtain ⟨g, o, rfl, _, _⟩ := hrd.2 h0
      have HOY := Lib.hid (show ∀ x ∈ ys, K32 x from hok)
      obtain ⟨n, hn⟩ : ∃ n, ys.length = n := ⟨_, rfl⟩
      have HN := Lib.hid hn
      rw [hn] at HRY HDL h0 ht hyl hcy ⊢
      simp only [hn] at hln
      have HPK := Lib.hid hpk
      clear hlt hp e' hrd hok hlny hn hpk
      obtain ⟨m, hm⟩ : ∃ m, 2 ^ p = m := ⟨_, rfl⟩
      rw [hm] at HPK ht
      have HT := Lib.hid (fun W (hW : Ext w W) => listKey_any m (by omega) _ _ W S (by rw [List.length_take, HN.out]; omega) (rdlK_take (k := m) (HRY.out.ext (by decide) hW) HN.out.symm (by omega)))
      have HCUT := Lib.hid (fun (h : m < n) => rdlK_drop (k := m) HRY.out HN.out.symm h)
      have HKO := Lib.hid (lk_ok (xs := ys.take m) (fun x hx => HOY.out x (List.mem_of_mem_take hx)))
      have HDN := Lib.hid (show (ys.drop m).length = n - m by rw [List.length_drop, HN.out])
      generalize lk (ys.take m) = q7 at HT HPK HKO
      have hnI : (0 : Int) < (n : Int) := by omega
      have hwu : IntKind.u64.wrap (n : Int) = (n : Int) := by rw [IntKind.wrap_u64]; omega
      have q0 : (0 : Int) ≤ (m : Int) := by omega
      have q1 : (m : Int) ≤ (n : Int) := by omega
      have q2 : (m : Int) ≤ (c1 : Int) := by omega
      have q3 : (n : Int) ≤ (c1 : Int) := by omega
      have q4 : m ≤ c1 := by omega
      have q5 : m ≤ n := by omega
      obtain ⟨hm0, hmn, hm2⟩ := ht
      have HM0 := Lib.hid hm0
      clear hmn hm2 hm0
      have hwm : wrap64 ((2 : Int) ^ p) = (m : Int) := by
        rw [show (2 : Int) ^ p = (m : Int) by rw [← hm]; simp, wrap64]
        omega
      have hpp : (p : Int) < 64 := by omega
      have hp0 : (0 : Int) ≤ (p : Int) := by omega
      have hp1 : (p : Int) + 1 - 1 = p := by omega
      have hp2 : IntKind.i64.wrap (p : Int) = (p : Int) := IntWalk.i64_in _ (by omega)
      clear hlog hm
      go_wp2_with fail
      refine (hln _).mono ?_
      rintro e w' ⟨rfl, rfl⟩
      clear hln
      go_wp2_with fail
      refine (HT.out _ HX.out).mono ?_
      rintro e w2 ⟨rfl, hx⟩
      have HX2 := Lib.hid (HX.out.trans hx)
      have HO2 := Lib.hid (HO.out.ext hx)
      clear hx HT HX HO
      have arm : True := trivial
      by_cases hcm : c1 = m
      · have hnm : n = m := by omega
        have HNM := Lib.hid (show ys.drop m = [] from List.drop_eq_nil_of_le (by rw [HN.out]; omega))
        subst hcm
        subst hnm
        go_wp2_with (first
            | (refine wpl_one rowKeyA (by decide) q7 HKO.out rfl _ rfl rfl ?_)
            | (at_builtin; refine wpl_append rowKeyA rfl _ _ rfl (v := .slice C cn cc) rfl (HO2.out.alloc (.cells (tKey.enc q7).toArray 28)) _ _ rfl (A := some ⟨w2.heap.size, 0, none⟩) (ys := [q7]) rfl (rd_one (T := tKey) w2 q7 HKO.out _) (by intro y hy; obtain rfl := List.mem_singleton.1 hy; exact HKO.out) (by have := HDL.out; simp; omega) (by have := HX2.out.size; simp; omega) ?_; intro v5 w5 ho5 hg5 hat5; have HX5 := Lib.hid ((HO2.out.alloc (.cells (tKey.enc q7).toArray 28)).ext_app (HX2.out.alloc _) hg5); have HO5 := Lib.hid ho5; obtain ⟨C5, n5, c5, rfl⟩ := ho5.shape3; clear ho5 hg5 hat5))
        go_roundw
        case rel => exact ⟨[], done ++ [q7], _, _, rfl, by simp, ⟨_, _, rfl, by simp, by simp, Rd.nil _ _ _ _, by simp⟩, HO5.out, by rw [← HD.out, HPK.out, HNM.out, List.append_assoc]; rfl, by have := HDL.out; have := HM0.out; simp; omega, HX5.out⟩
        case measure => simp [lenV]; exact HM0.out
      · by_cases hlt : m < n
        · have HC := Lib.hid (HCUT.out hlt)
          go_wp2_with (first
            | (refine wpl_one rowKeyA (by decide) q7 HKO.out rfl _ rfl rfl ?_)
            | (at_builtin; refine wpl_append rowKeyA rfl _ _ rfl (v := .slice C cn cc) rfl (HO2.out.alloc (.cells (tKey.enc q7).toArray 28)) _ _ rfl (A := some ⟨w2.heap.size, 0, none⟩) (ys := [q7]) rfl (rd_one (T := tKey) w2 q7 HKO.out _) (by intro y hy; obtain rfl := List.mem_singleton.1 hy; exact HKO.out) (by have := HDL.out; simp; omega) (by have := HX2.out.size; simp; omega) ?_; intro v5 w5 ho5 hg5 hat5; have HX5 := Lib.hid ((HO2.out.alloc (.cells (tKey.enc q7).toArray 28)).ext_app (HX2.out.alloc _) hg5); have HO5 := Lib.hid ho5; obtain ⟨C5, n5, c5, rfl⟩ := ho5.shape3; clear ho5 hg5 hat5))
          go_roundw
          case rel => exact ⟨ys.drop m, done ++ [q7], _, _, by rw [HDN.out], by rw [HDN.out]; omega, by rw [HDN.out]; exact HC.out, HO5.out, by rw [← HD.out, HPK.out, List.append_assoc]; rfl, by rw [HDN.out]; have := HDL.out; have := HM0.out; simp; omega, HX5.out⟩
          case measure => simp [lenV]; have := HM0.out; omega
        · have hnm : n = m := by omega
          have HNM := Lib.hid (show ys.drop m = [] from List.drop_eq_nil_of_le (by rw [HN.out]; omega))
          subst hnm
          go_wp2_with (first
            | (refine wpl_one rowKeyA (by decide) q7 HKO.out rfl _ rfl rfl ?_)
            | (at_builtin; refine wpl_append rowKeyA rfl _ _ rfl (v := .slice C cn cc) rfl (HO2.out.alloc (.cells (tKey.enc q7).toArray 28)) _ _ rfl (A := some ⟨w2.heap.size, 0, none⟩) (ys := [q7]) rfl (rd_one (T := tKey) w2 q7 HKO.out _) (by intro y hy; obtain rfl := List.mem_singleton.1 hy; exact HKO.out) (by have := HDL.out; simp; omega) (by have := HX2.out.size; simp; omega) ?_; intro v5 w5 ho5 hg5 hat5; have HX5 := Lib.hid ((HO2.out.alloc (.cells (tKey.enc q7).toArray 28)).ext_app (HX2.out.alloc _) hg5); have HO5 := Lib.hid ho5; obtain ⟨C5, n5, c5, rfl⟩ := ho5.shape3; clear ho5 hg5 hat5))
          go_roundw
          case rel => exact ⟨[], done ++ [q7], _, _, rfl, by simp, ⟨_, _, rfl, by simp, by simp, Rd.nil _ _ _ _, by simp⟩, HO5.out, by rw [← HD.out, HPK.out, HNM.out, List.append_assoc]; rfl, by have := HDL.out; have := HM0.out; simp; omega, HX5.out⟩
          case measure => simp [lenV]; exact HM0.out
    · obtain rfl : ys = [] := List.eq_nil_of_length_eq_zero (by omega)
      have HE := Lib.hid (show done = R by have := HD.out; rwa [pk_nil rfl, List.append_nil] at this)
      go_wp2
      go_ret
      exact ⟨_, rfl, by rw [← HE.out]; exact HO.out, HX.out⟩
end Go.Proofs.Ytdjclllnmclocaa
/- Peaks and keys with codes; a further leaf: the program. No condition. -/
namespace Go.Proofs.Ytdjclllnmclocaa
open Go.RowKit
set_option linter.unusedVariables false
set_option linter.unusedSimpArgs false

set_option maxHeartbeats 1000000 in
set_option maxRecDepth 100000 in
theorem peaksOf_any (v : Value) (xs : List (List Int)) (hl : xs.length ≤ 255) (w : World) (S : Nat → Prop) (h : RdL tKey w S v xs) :
    Calls Try.prog 35 #[v] w fun q w' => ∃ v', q = .returned (.tuple #[v', .int .i64 0]) ∧ Own tKey 28 w' w.heap.size v' (pk xs) ∧ Ext w w' := by
  have hp := peaks_any v xs hl w S h
  obtain ⟨A, cap, rfl, _⟩ := id h
  have hd : decide ((256 : Int) < (xs.length : Int)) = false := decide_eq_false (by omega)
  clear h
  go_enter Try.func35, Try.ntmps35
  go_wp2_with fail
  refine hp.mono ?_
  rintro e w1 ⟨v1, rfl, ho, hx⟩
  have HO := Lib.hid ho
  have HX := Lib.hid hx
  obtain ⟨A1, c1, rfl⟩ := ho.shape
  clear ho hx hp
  go_wp2
  go_ret2
  exact ⟨_, rfl, HO.out, HX.out⟩
theorem results_kc {P : Program} {w : World} {fn : Func} {c d : Tmp} {t g e n : Nat} {cs : Array Value} (hr : fn.results = #[.cell c t, .tmp d]) (tmps : Array Value) (hp : tmps.getD c undef = .pointer (some ⟨g, 0, none⟩)) (ht : Agg P t n) (hn : cs.size = n) (hb : Blk w g e cs) {v : Value} (hv : tmps.getD d undef = v) :
    (results fn tmps).run P w = .ok (.tuple #[.agg cs, v]) w := results_blkB2 hr tmps hp ht hn hb hv
set_option maxHeartbeats 1000000 in
set_option maxRecDepth 100000 in
theorem implListKey_any (v : Value) (xs : List (List Int)) (hl : xs.length ≤ 256) (w : World) (S : Nat → Prop) (h : RdL tKey w S v xs) :
    Calls Try.prog 28 #[v] w fun q w' => q = .returned (.tuple #[.agg (numsA .u8 (lk xs)), .int .i64 0]) ∧ Ext w w' := by
  have hp := fun W hW => listKey_any xs.length hl v xs W S rfl (h.ext (by decide) hW)
  obtain ⟨A, cap, rfl, _, _, _, hok⟩ := id h
  have HKS := Lib.hid (lk_ok (xs := xs) hok).1
  have hd : decide ((256 : Int) < (xs.length : Int)) = false := decide_eq_false (by omega)
  have hzA : (Try.prog.info? 28).map (·.zero) = some (some (.agg (numsA .u8 (List.replicate 32 0)))) := by kernel_rfl
  have hzs : (numsA .u8 (List.replicate 32 0)).size = 32 := by simp [numsA, nums]
  generalize numsA .u8 (List.replicate 32 0) = Z at hzA hzs
  have HZS := Lib.hid hzs
  generalize lk xs = k at hp HKS ⊢
  have HP := Lib.hid hp
  clear h hok hp hzs
  go_enter Try.func28, Try.ntmps28
  go_wp2_with (refine wpl_alloc Z hzA rfl rfl ?_)
  refine (HP.out _ (ext_alloc _ _)).mono ?_
  rintro e w1 ⟨rfl, hx⟩
  have BR := Lib.hid ((Blk.new w 28 Z).ext hx)
  have HX := Lib.hid ((ext_alloc w (.cells Z 28)).trans hx)
  clear hx
  go_wp2_with (refine wpl_storeN BR.out aggKey HKS.out HZS.out rfl _ _ rfl rfl rfl rfl ?_)
  refine bodyPost_ret (results_kc rfl _ rfl aggKey (sizeN HKS.out) (BR.out.setRow _) rfl) rfl ?_
  exact ⟨rfl, HX.out.setRow (Nat.le_refl _) _⟩
set_option maxHeartbeats 1000000 in
set_option maxRecDepth 100000 in
theorem peaksCode_any (A : Option Addr) (n c k : Nat) (most : Int) (hn : n ≤ 256) (hk : (k : Int) ≤ most) (hk2 : k ≤ 255) (w : World) :
    Calls Try.prog 76 #[.slice A n c, .int .i64 k, .int .i64 most] w fun q w' => q = .returned (.int .i64 (if n = pc k then 0 else 4)) ∧ w = w' := by
  have hd : decide ((256 : Int) < (n : Int)) = false := decide_eq_false (by omega)
  have hw := fun W => within_any (k : Int) 0 most W
  rw [decide_eq_true (by omega : (0 : Int) ≤ (k : Int)), decide_eq_true hk] at hw
  simp only [Bool.and_self] at hw
  have hwu : IntKind.u64.wrap (k : Int) = (k : Int) := by rw [IntKind.wrap_u64]; omega
  have ho := fun W => ones_any k hk2 W
  obtain ⟨p, hp⟩ : ∃ p, pc k = p := ⟨_, rfl⟩
  rw [hp] at ho ⊢
  clear hp hk
  by_cases he : n = p
  · rw [if_pos he]
    have hq : ((n : Int) != (p : Int)) = false := by rw [he]; simp
    clear he
    go_enter Try.func76, Try.ntmps76
    go_wp2_with fail
    refine (hw _).mono ?_
    rintro e w' ⟨rfl, rfl⟩
    go_wp2_with fail
    refine (ho _).mono ?_
    rintro e w' ⟨rfl, rfl⟩
    clear hw ho
    go_wp2
    go_ret
    exact ⟨rfl, rfl⟩
  · rw [if_neg he]
    have hq : ((n : Int) != (p : Int)) = true := by rw [bne_iff_ne]; omega
    clear he
    go_enter Try.func76, Try.ntmps76
    go_wp2_with fail
    refine (hw _).mono ?_
    rintro e w' ⟨rfl, rfl⟩
    go_wp2_with fail
    refine (ho _).mono ?_
    rintro e w' ⟨rfl, rfl⟩
    clear hw ho
    go_wp2
    go_ret
    exact ⟨rfl, rfl⟩
theorem kp_ok : ∀ {ps : List (List Int)}, (∀ x ∈ ps, K32 x) → K32 (kp ps)
  | [], _ => lk_ok (by simp)
  | [a], h => h a (by simp)
  | a :: b :: r, _ => ndK_ok _ _
theorem kp_drop {ps : List (List Int)} {i : Nat} (h : i + 1 < ps.length) : kp (ps.drop i) = ndK ps[i] (kp (ps.drop (i + 1))) := by
  have h1 : ps.drop i = ps[i] :: ps.drop (i + 1) := List.drop_eq_getElem_cons (by omega)
  have h2 : ps.drop (i + 1) = ps[i + 1] :: ps.drop (i + 2) := List.drop_eq_getElem_cons h
  rw [h1, h2]
  rfl
theorem kp_last {ps : List (List Int)} {i : Nat} (h : i + 1 = ps.length) : kp (ps.drop i) = ps[i]'(by omega) := by
  have h1 : ps.drop i = ps[i]'(by omega) :: ps.drop (i + 1) := List.drop_eq_getElem_cons (by omega)
  rw [h1, List.drop_eq_nil_of_le (by omega)]
  rfl
/-- a load: one step of a region -/
theorem stp_loadB {P : Program} {ops : Array Oper} {o : Oper} {a : Act} {w : World} {K : Act → World → Prop} {Q : Exit → Act → World → Prop} {E : Prop} {t g e n : Nat} {cs : Array Value} (hb : Blk w g e cs) (ht : Agg P t n) (hn : cs.size = n) (hgd : o.guard = none) (x : Operand) (ho : o.op = .load t x) (hx : a.eval x = .pointer (some ⟨g, 0, none⟩))
    (h : K (a.put o.dst (.agg cs)) w) : if Region.wanted o (yielded ops a.tmps) = true then Oper.wp P o a w K Q else E := by
  have hw : Region.wanted o (yielded ops a.tmps) = true := by simp [Region.wanted, hgd]
  rw [if_pos hw]
  unfold Oper.wp execOp
  simp only [ho, hx, Instr.loadAt, Instr.sureAddr, Sem.run_bind, Sem.run_pure, Result.andThen_ok, run_loadB hb ht hn]
  exact h
set_option maxHeartbeats 4000000 in
set_option maxRecDepth 100000 in
theorem keyOfPeaks_any (v : Value) (ps : List (List Int)) (hl : ps.length ≤ 256) (w : World) (S : Nat → Prop) (h : RdL tKey w S v ps) :
    Calls Try.prog 77 #[v] w fun q w' => q = .returned (.agg (numsA .u8 (kp ps))) ∧ Ext w w' := by
  obtain ⟨A, cap, rfl, hcap, hlen, hrd, hok⟩ := id h
  have HOK := Lib.hid (show ∀ x ∈ ps, K32 x from hok)
  have HKS := Lib.hid (kp_ok HOK.out).1
  have hzA : (Try.prog.info? 28).map (·.zero) = some (some (.agg (numsA .u8 (List.replicate 32 0)))) := by kernel_rfl
  have hzs : (numsA .u8 (List.replicate 32 0)).size = 32 := by simp [numsA, nums]
  generalize numsA .u8 (List.replicate 32 0) = Z at hzA hzs
  have HZS := Lib.hid hzs
  have BR0 := Lib.hid (Blk.new w 28 Z)
  have hX := ext_alloc w (.cells Z 28)
  clear hzs
  by_cases h0 : ps.length = 0
  · obtain rfl : ps = [] := List.eq_nil_of_length_eq_zero h0
    have hn : RdL tKey (w.alloc (.cells Z 28)) (fun _ => True) (.slice none 0 0) [] := ⟨none, 0, rfl, Nat.le_refl _, by simp, Rd.nil _ _ _ _, by simp⟩
    have hlk := listKey_any 0 (by omega) (.slice none 0 0) [] _ _ rfl hn
    have he : kp [] = lk [] := rfl
    rw [he] at HKS ⊢
    clear h hrd hok hn he
    go_enter Try.func77, Try.ntmps77
    go_wp2_with (refine wpl_alloc Z hzA rfl rfl ?_)
    refine hlk.mono ?_
    rintro e w2 ⟨rfl, hx⟩
    have BR2 := Lib.hid (BR0.out.ext hx)
    have HX2 := Lib.hid (hX.trans hx)
    clear hx hlk
    go_wp2_with (refine wpl_storeN BR2.out aggKey HKS.out HZS.out rfl _ _ rfl rfl rfl rfl ?_)
    refine bodyPost_ret (results_blk rfl _ rfl aggKey HKS.out (BR2.out.setRow _)) rfl ?_
    exact ⟨rfl, HX2.out.setRow (Nat.le_refl _) _⟩
  · obtain ⟨n, hn⟩ : ∃ n, ps.length = n + 1 := ⟨ps.length - 1, by omega⟩
    have HN := Lib.hid hn
    have HC := Lib.hid (fun i (hi : i < ps.length) => hrd.elem hok i hi)
    obtain ⟨g, o, rfl, _, _⟩ := hrd.2 (by omega)
    have HCC := Lib.hid (show ∀ i (hi : i < ps.length) W, Ext w W → ∀ j u, (tKey.enc ps[i])[j]? = some u → W.cell? ⟨g, o + i * 32 + j, none⟩ = some u from fun i hi W hW j u hu => by
      obtain ⟨g', o', e, _, hc⟩ := HC.out i hi
      injection e with e
      injection e with e1 e2
      subst e1 e2
      exact hW.cell (hc j u hu))
    have HLA := Lib.hid (kp_last (ps := ps) (i := n) (by omega))
    rw [hn] at hcap hlen ⊢
    have hk7 := HOK.out ps[n] (List.getElem_mem _)
    have HK7 := Lib.hid hk7.1
    have HC7 := Lib.hid (HCC.out n (by omega) (w.alloc (.cells Z 28)) hX)
    obtain ⟨q7, hq7⟩ : ∃ q7, ps[n] = q7 := ⟨_, rfl⟩
    rw [hq7] at HK7 HC7 HLA hk7
    have HK77 := Lib.hid hk7
    have hst7 := St.nums (k := .u8) HK7.out
    have hw1 : IntKind.i64.wrap ((n : Int) + 1 - 1) = (n : Int) := by rw [IntWalk.i64_in _ (by omega)]; omega
    have hw2 : IntKind.i64.wrap ((n : Int) + 1 - 2) = (n : Int) - 1 := by rw [IntWalk.i64_in _ (by omega)]; omega
    have hs1 : (n : Int) + 1 - 1 = (n : Int) := by omega
    have hs2 : (n : Int) + 1 - 2 = (n : Int) - 1 := by omega
    have hnz : ((n : Int) + 1 == 0) = false := by rw [beq_eq_false_iff_ne]; omega
    have q0 : (0 : Int) ≤ (n : Int) := by omega
    have q1 : (n : Int) < (n : Int) + 1 := by omega
    have V0 := Lib.hid (Blk.new' (g := w.heap.size + 1) (w := w.alloc (.cells Z 28)) (by simp) 28 (numsA .u8 q7))
    have BR := Lib.hid (BR0.out.alloc (.cells (numsA .u8 q7) 28))
    have HX0 := Lib.hid (hX.alloc (.cells (numsA .u8 q7) 28))
    have HK0 := Lib.hid (show kp (ps.drop n) = q7 from HLA.out)
    clear h hrd hok hq7 hn hk7 h0
    go_enter Try.func77, Try.ntmps77
    go_wp2_with (first
      | (refine wpl_alloc Z hzA rfl rfl ?_)
      | (refine wpl_load ⟨g, o + n * 32, none⟩ (tKey.enc q7) (by rw [show (tKey.enc q7).length = 32 by rw [show tKey.enc q7 = nums .u8 q7 from rfl, nums_length]; exact HK7.out]; exact aggKey) rfl _ rfl rfl (fun j u hu => by rw [Addr.add_lit]; exact HC7.out j u hu) ?_)
      | (refine wpl_storeNewB aggKey hst7 HZS.out rfl _ _ rfl rfl rfl rfl ?_))
    try simp only [size_alloc]
    go_loopw [5] (fun i wr => ∃ (j : Nat) (q : List Int), j ≤ n ∧ i = .int .i64 ((j : Int) - 1) ∧ kp (ps.drop j) = q ∧ K32 q ∧ Blk wr (w.heap.size + 1) 28 (numsA .u8 q) ∧ Blk wr w.heap.size 28 Z ∧ Ext w wr) (fun i _ => ((intOf i) + 1).toNat)
    case atStart => exact ⟨n, q7, Nat.le_refl _, by first | rfl | go_num, HK0.out, HK77.out, V0.out, BR.out, HX0.out⟩
    case round =>
      obtain ⟨j, q, hj, rfl, hkq, hqk, hv, hb, hx⟩ := hrel
      clear V0 BR HX0
      have V := Lib.hid hv
      have BR := Lib.hid hb
      have HX := Lib.hid hx
      have HKQ := Lib.hid hkq
      have HQ := Lib.hid hqk
      have hqs := sizeN (k := .u8) hqk.1
      clear hv hb hx hkq hqk
      by_cases hj0 : 0 < j
      · obtain ⟨m, rfl⟩ : ∃ m, j = m + 1 := ⟨j - 1, by omega⟩
        have hmn : m + 1 < ps.length := by rw [HN.out]; omega
        have HKD := Lib.hid (kp_drop (ps := ps) (i := m) hmn)
        have HKM := Lib.hid (HOK.out ps[m] (List.getElem_mem _))
        have HCM := Lib.hid (HCC.out m (by omega))
        obtain ⟨x, hx7⟩ : ∃ x, ps[m] = x := ⟨_, rfl⟩
        rw [hx7] at HKD HKM HCM
        rw [HKQ.out] at HKD
        have e : ((m + 1 : Nat) : Int) - 1 = (m : Int) := by omega
        rw [e]
        have m0 : (0 : Int) ≤ (m : Int) := by omega
        have m1 : (m : Int) < (n : Int) + 1 := by omega
        have HND := Lib.hid (ndK_ok x q)
        clear e hx7 hmn
        go_wp2_with fail
        have V1 := Lib.hid (V.out.ext ((Ext.refl wr).drew))
        have BR1 := Lib.hid (BR.out.ext ((Ext.refl wr).drew))
        refine wp_region_held_drew (S := fun W => Ext w W) (by kernel_rfl) HX.out.drew (fun hHeld => ?_)
        generalize wr.drew = wq at hHeld V1 BR1 ⊢
        refine wpAnyH_take (i := 0) (oi := ?oiz1) (v := ?vz1) ?hiz1 (by kernel_rfl) (by kernel_rfl) (by kernel_rfl) ?hQz1 ?hyz1 (by assumption) ?restz1
        case hiz1 => simp only [List.getElem?_toArray, List.getElem?_cons_zero, List.getElem?_cons_succ]; rfl
        case hQz1 => exact fun _ _ _ h => h
        case hyz1 => exact Or.inl ⟨by rfl, by intro w hSw; (try dsimp only at hSw); go_simp; with_reducible rfl⟩
        try simp only [Act.put, List.setIfInBounds_toArray, List.set_cons_zero, List.set_cons_succ]
        refine wpAnyH_take (i := 1) (oi := ?oiz2) (v := ?vz2) ?hiz2 (by kernel_rfl) (by kernel_rfl) (by kernel_rfl) ?hQz2 ?hyz2 (by assumption) ?restz2
        case hiz2 => simp only [List.getElem?_toArray, List.getElem?_cons_zero, List.getElem?_cons_succ]; rfl
        case hQz2 => exact fun _ _ _ h => h
        case hyz2 => exact Or.inl ⟨by rfl, by intro w hSw; (try dsimp only at hSw); go_simp; with_reducible rfl⟩
        try simp only [Act.put, List.setIfInBounds_toArray, List.set_cons_zero, List.set_cons_succ]
        refine wpAnyH_take (i := 2) (oi := ?oiz3) (v := ?vz3) ?hiz3 (by kernel_rfl) (by kernel_rfl) (by kernel_rfl) ?hQz3 ?hyz3 (by assumption) ?restz3
        case hiz3 => simp only [List.getElem?_toArray, List.getElem?_cons_zero, List.getElem?_cons_succ]; rfl
        case hQz3 => exact fun _ _ _ h => h
        case hyz3 => exact Or.inl ⟨by rfl, by intro w hSw; (try dsimp only at hSw); go_simp; with_reducible rfl⟩
        try simp only [Act.put, List.setIfInBounds_toArray, List.set_cons_zero, List.set_cons_succ]
        refine wpAnyH_take (i := 3) (oi := ?oiz4) (v := (.agg (tKey.enc x).toArray)) ?hiz4 (by kernel_rfl) (by kernel_rfl) (by kernel_rfl) ?hQz4 ?hyz4 (by assumption) ?restz4
        case hiz4 => simp only [List.getElem?_toArray, List.getElem?_cons_zero, List.getElem?_cons_succ]; rfl
        case hQz4 => exact fun _ _ _ h => h
        case hyz4 => refine yields_loadSP g (o + m * 32) (tKey.enc x) (by rw [tKey.len _ HKM.out]; exact aggKey) HCM.out ?_ _ rfl rfl; rfl
        try simp only [Act.put, List.setIfInBounds_toArray, List.set_cons_zero, List.set_cons_succ]
        refine wpAnyH_ready (rs := [4]) (by kernel_rfl) (by simp) (AllReadyH.cons (o := ?oy54) ?hy54 (fun K hK => ?sy54) AllReadyH.nil)
        case hy54 => simp only [List.getElem?_toArray, List.getElem?_cons_zero, List.getElem?_cons_succ]; rfl
        refine stp_loadB V1.out aggKey hqs rfl _ rfl rfl ?_
        refine hK.out _ _ hHeld (fun _ => ?_)
        clear hK K
        try simp only [Act.put, List.setIfInBounds_toArray, List.set_cons_zero, List.set_cons_succ]
        refine wpAnyH_ready (rs := [5]) (by kernel_rfl) (by simp) (AllReadyH.cons (o := ?oy65) ?hy65 (fun K hK => ?sy65) AllReadyH.nil)
        case hy65 => simp only [List.getElem?_toArray, List.getElem?_cons_zero, List.getElem?_cons_succ]; rfl
        go_simp
        refine (nodeKey_any x q HKM.out HQ.out _).mono ?_
        rintro e w5 ⟨rfl, hx⟩
        have V5 := Lib.hid (V1.out.ext hx)
        have BR5 := Lib.hid (BR1.out.ext hx)
        clear V1 BR1
        have hH2 := hHeld.trans hx
        refine hK.out _ _ hH2 (fun _ => ?_)
        clear hHeld hK K
        have hHeld := hH2
        clear hH2
        try simp only [Act.put, List.setIfInBounds_toArray, List.set_cons_zero, List.set_cons_succ]
        refine wpAnyH_ready (rs := [6]) (by kernel_rfl) (by simp) (AllReadyH.cons (o := ?oy76) ?hy76 (fun K hK => ?sy76) AllReadyH.nil)
        case hy76 => simp only [List.getElem?_toArray, List.getElem?_cons_zero, List.getElem?_cons_succ]; rfl
        refine stp_storeP (off := 0) V5.out aggKey (St.nums HND.out.1) (by omega) rfl _ _ rfl rfl rfl rfl ?_
        rw [splice_all _ _ (by rw [Array.length_toList, hqs, (St.nums (k := .u8) HND.out.1).size])]
        have e9 : (numsA .u8 (ndK x q)).toList.toArray = numsA .u8 (ndK x q) := by simp
        rw [e9]
        have HX8 := Lib.hid (hHeld.setRow (g := w.heap.size + 1) (by omega) (numsA .u8 (ndK x q)))
        have V8 := Lib.hid (V5.out.setRow (numsA .u8 (ndK x q)))
        have BR8 := Lib.hid (BR5.out.row_far (g' := w.heap.size + 1) (by omega) (numsA .u8 (ndK x q)))
        refine hK.out _ _ HX8.out (fun _ => ?_)
        clear hHeld hK K e9
        try simp only [Act.put, List.setIfInBounds_toArray, List.set_cons_zero, List.set_cons_succ]
        refine wpAnyH_done (by kernel_rfl) ?_ _
        go_wp2
        go_roundw
        case rel => exact ⟨m, ndK x q, by omega, by go_num, HKD.out, HND.out, V8.out, BR8.out, HX8.out⟩
        case measure => simp [intOf]
      · obtain rfl : j = 0 := by omega
        have HE := Lib.hid (show kp ps = q by have := HKQ.out; rwa [List.drop_zero] at this)
        go_wp2_with (first
          | (refine wpl_loadB V.out aggKey hqs rfl _ rfl rfl ?_)
          | (refine wpl_storeN BR.out aggKey HQ.out.1 HZS.out rfl _ _ rfl rfl rfl rfl ?_))
        refine bodyPost_ret (results_blk rfl _ rfl aggKey HQ.out.1 (BR.out.setRow _)) rfl ?_
        exact ⟨by rw [HE.out], HX.out.setRow (Nat.le_refl _) _⟩
set_option maxHeartbeats 1000000 in
set_option maxRecDepth 100000 in
theorem implKeyOfPeaks_any (v : Value) (ps : List (List Int)) (k : Nat) (hk : k ≤ 255) (hps : ps.length = pc k) (hl : ps.length ≤ 256) (w : World) (S : Nat → Prop) (h : RdL tKey w S v ps) :
    Calls Try.prog 36 #[v, .int .i64 k] w fun q w' => q = .returned (.tuple #[.agg (numsA .u8 (kp ps)), .int .i64 0]) ∧ Ext w w' := by
  have hp := fun W hW => keyOfPeaks_any v ps hl W S (h.ext (by decide) hW)
  obtain ⟨A, cap, rfl, _, _, _, hok⟩ := id h
  have hc := fun W => peaksCode_any A ps.length cap k 256 hl (by omega) hk W
  simp only [if_pos hps] at hc
  have HKS := Lib.hid (kp_ok (ps := ps) hok).1
  have hzA : (Try.prog.info? 28).map (·.zero) = some (some (.agg (numsA .u8 (List.replicate 32 0)))) := by kernel_rfl
  have hzs : (numsA .u8 (List.replicate 32 0)).size = 32 := by simp [numsA, nums]
  generalize numsA .u8 (List.replicate 32 0) = Z at hzA hzs
  have HZS := Lib.hid hzs
  generalize kp ps = q at hp HKS ⊢
  have HP := Lib.hid hp
  clear h hok hp hzs hps
  go_enter Try.func36, Try.ntmps36
  go_wp2_with (refine wpl_alloc Z hzA rfl rfl ?_)
  refine (hc _).mono ?_
  rintro e w' ⟨rfl, rfl⟩
  go_wp2_with fail
  refine (HP.out _ (ext_alloc _ _)).mono ?_
  rintro e w1 ⟨rfl, hx⟩
  have BR := Lib.hid ((Blk.new w 28 Z).ext hx)
  have HX := Lib.hid ((ext_alloc w (.cells Z 28)).trans hx)
  clear hx hc
  go_wp2_with (refine wpl_storeN BR.out aggKey HKS.out HZS.out rfl _ _ rfl rfl rfl rfl ?_)
  refine bodyPost_ret (results_kc rfl _ rfl aggKey (sizeN HKS.out) (BR.out.setRow _) rfl) rfl ?_
  exact ⟨rfl, HX.out.setRow (Nat.le_refl _) _⟩
end Go.Proofs.Ytdjclllnmclocaa
/- A further leaf: the program. No condition. -/
namespace Go.Proofs.Ytdjclllnmclocaa
open Go.RowKit
set_option linter.unusedVariables false
set_option linter.unusedSimpArgs false

theorem adR_ok : ∀ (n : Nat) (rs : List (List Int)) (leaf : List Int), rs.length = pc n → (∀ x ∈ rs, K32 x) → K32 leaf → (∀ x ∈ adR n rs leaf, K32 x) ∧ (adR n rs leaf).length ≤ rs.length + 1 := by
  intro n
  induction n using Nat.strongRecOn with
  | ind n ih =>
    intro rs leaf hl hr hk
    by_cases h : n % 2 = 1
    · rw [pc_step] at hl
      cases rs with
      | nil => simp at hl; omega
      | cons k rs =>
        rw [adR_odd h]
        have := ih (n / 2) (by omega) rs (ndK k leaf) (by simp at hl; omega) (fun x hx => hr x (by simp [hx])) (ndK_ok _ _)
        exact ⟨this.1, by have := this.2; simp; omega⟩
    · rw [adR_even h]
      refine ⟨fun x hx => ?_, by simp⟩
      rcases List.mem_cons.1 hx with rfl | hx
      · exact hk
      · exact hr x hx
theorem stRowK (w : World) (g : Nat) (cs : Array Value) : w.grownBy (w.setRow g cs) (some g) := ⟨rfl, rfl, rfl, by simp, fun k _ hk => setRow_other w g k cs (fun e => hk (by rw [e]))⟩
set_option maxHeartbeats 1000000 in
set_option maxRecDepth 100000 in
theorem addLeaf_bad (v : Value) (ps : List (List Int)) (k : Nat) (hk : k ≤ 255) (hps : ps.length ≠ pc k) (hl : ps.length ≤ 256) (leaf : List Int) (w : World) (S : Nat → Prop) (h : RdL tKey w S v ps) :
    Calls Try.prog 38 #[v, .int .i64 k, .agg (numsA .u8 leaf)] w fun q w' => q = .returned (.tuple #[.slice none 0 0, .int .i64 4]) ∧ Ext w w' := by
  obtain ⟨A, cap, rfl, _, _, _, hok⟩ := id h
  have hc := fun W => peaksCode_any A ps.length cap k 255 hl (by omega) hk W
  simp only [if_neg hps] at hc
  clear h hok hps
  go_enter Try.func38, Try.ntmps38
  go_wp2_with fail
  refine (hc _).mono ?_
  rintro e w' ⟨rfl, rfl⟩
  clear hc
  go_wp2
  go_ret2
  exact ⟨rfl, ext_alloc _ _⟩
set_option maxHeartbeats 4000000 in
set_option maxRecDepth 100000 in
theorem addLeaf_any (v : Value) (ps : List (List Int)) (n : Nat) (hn : n ≤ 255) (hps : ps.length = pc n) (hl : ps.length ≤ 256) (leaf : List Int) (hlf : K32 leaf) (w : World) (S : Nat → Prop) (h : RdL tKey w S v ps) :
    Calls Try.prog 38 #[v, .int .i64 n, .agg (numsA .u8 leaf)] w fun q w' => ∃ v', q = .returned (.tuple #[v', .int .i64 0]) ∧ Own tKey 28 w' w.heap.size v' (adR n ps.reverse leaf).reverse ∧ Ext w w' := by
  have hcl := fun W hW => cloneK_any v ps W S (h.ext (by decide) hW) (by omega)
  obtain ⟨A, cap, rfl, _, _, _, hok⟩ := id h
  have HOK := Lib.hid (show ∀ x ∈ ps, K32 x from hok)
  have hc := fun W => peaksCode_any A ps.length cap n 255 hl (by omega) hn W
  simp only [if_pos hps] at hc
  have HLF := Lib.hid hlf
  have HPS := Lib.hid hps
  obtain ⟨R, hR⟩ : ∃ R, adR n ps.reverse leaf = R := ⟨_, rfl⟩
  have HRR := Lib.hid hR
  rw [hR]
  have HCL := Lib.hid hcl
  have B0 := Lib.hid (Blk.new w 28 (numsA .u8 leaf))
  clear h hok hps hR hlf hcl
  go_enter Try.func38, Try.ntmps38
  go_wp2_with fail
  refine (hc _).mono ?_
  rintro e w' ⟨rfl, rfl⟩
  clear hc
  go_wp2_with fail
  refine (HCL.out _ (ext_alloc _ _)).mono ?_
  rintro e w1 ⟨v1, rfl, ho, hx⟩
  obtain ⟨A1, c1, rfl⟩ := ho.shape
  have HO := Lib.hid ho
  have HX := Lib.hid ((ext_alloc w (.cells (numsA .u8 leaf) 28)).trans hx)
  have B1 := Lib.hid (B0.out.ext hx)
  clear ho hx B0
  go_wp2
  go_loopw [1, 9, 10] (fun a o _ wr => ∃ (m k : Nat) (lf : List Int) (A2 : Option Addr) (c2 : Nat), m ≤ 255 ∧ a = .int .i64 m ∧ o = .slice A2 k c2 ∧ k ≤ ps.length ∧ k = pc m ∧ Own tKey 28 wr (w.heap.size + 1) (.slice A2 k c2) (ps.take k) ∧ adR m (ps.take k).reverse lf = R ∧ K32 lf ∧ Blk wr w.heap.size 28 (numsA .u8 lf) ∧ Ext w wr) (fun a _ _ _ => (intOf a).toNat)
  case atStart => exact ⟨n, ps.length, leaf, A1, c1, hn, rfl, rfl, Nat.le_refl _, HPS.out, by rw [List.take_of_length_le (Nat.le_refl _)]; have := HO.out; rwa [size_alloc] at this, by rw [List.take_of_length_le (Nat.le_refl _)]; exact HRR.out, HLF.out, B1.out, HX.out⟩
  case round =>
    obtain ⟨m, k, lf, A2, c2, hm, rfl, rfl, hk, hkm, ho, hR, hlk, hb, hx⟩ := hrel
    clear HO HX B1
    have HO := Lib.hid ho
    have HX := Lib.hid hx
    have B := Lib.hid hb
    have HKM := Lib.hid hkm
    have HR1 := Lib.hid hR
    have HLK := Lib.hid hlk
    have hand := and_one m (by omega)
    clear ho hx hb hkm hR hlk
    by_cases hodd : m % 2 = 1
    · rw [hodd] at hand
      obtain ⟨j, hj⟩ : ∃ j, k = j + 1 := ⟨k - 1, by have := HKM.out; rw [pc_step] at this; omega⟩
      subst hj
      have hjp : j < ps.length := by omega
      have HTJ := Lib.hid (show (ps.take (j + 1)).reverse = ps[j] :: (ps.take j).reverse by rw [List.take_succ_eq_append_getElem hjp, List.reverse_append]; rfl)
      have HTK := Lib.hid (show (ps.take (j + 1)).take j = ps.take j by rw [List.take_take, Nat.min_eq_left (by omega)])
      have HK := Lib.hid (HOK.out ps[j] (List.getElem_mem _))
      obtain ⟨A', cap', e', hcp, _, hrd, hok⟩ := HO.out.rd
      have htl : (ps.take (j + 1)).length = j + 1 := by rw [List.length_take]; omega
      rw [htl] at e' hcp
      obtain ⟨rfl, _, rfl⟩ := Value.slice.inj e'
      obtain ⟨g, o, rfl, hsg, hc⟩ := hrd.elem hok j (by omega)
      rw [List.getElem_take] at hc
      have HPM := Lib.hid (show pc (m / 2) = j by have := HKM.out; rw [pc_step, hodd] at this; omega)
      obtain ⟨x, hx7⟩ : ∃ x, ps[j] = x := ⟨_, rfl⟩
      rw [hx7] at HTJ HK hc
      have HC := Lib.hid (show ∀ W, Ext wr W → ∀ j2 u, (tKey.enc x)[j2]? = some u → W.cell? ⟨g, o + j * 32 + j2, none⟩ = some u from fun W hW j2 u hu => hW.cell (hc j2 u hu))
      have hsz := sizeN (k := .u8) HLK.out.1
      have hgl : w.heap.size + 1 ≤ g := hsg.1
      have HND := Lib.hid (ndK_ok x lf)
      have q0 : (0 : Int) ≤ (j : Int) := by omega
      have q1 : (j : Int) < (j : Int) + 1 := by omega
      have q2 : (j : Int) ≤ (c2 : Int) := by omega
      have q3 : (j : Int) + 1 ≤ (c2 : Int) := by omega
      have q4 : j ≤ c2 := by omega
      have q5 : IntKind.i64.wrap ((j : Int) + 1 - 1) = (j : Int) := by rw [IntWalk.i64_in _ (by omega)]; omega
      have q6 : (j : Int) + 1 - 1 = (j : Int) := by omega
      have HOD := Lib.hid hodd
      have hm0 : 0 < m := by omega
      clear hx7 hc hrd hok e' htl hsg hodd
      go_wp2_with fail
      refine wp_region_f [9, 10] (S := fun W => Ext wr W) (by kernel_rfl) ((Ext.refl wr).drew) (fun hHeld => ?_)
      refine wpF_take (i := 0) (oi := ?oiz1) (v := ?vz1) ?hiz1 (by kernel_rfl) (by kernel_rfl) (by kernel_rfl) (by kernel_rfl) ?hQz1 ?hyz1 (by assumption) ?restz1
      case hiz1 => simp only [List.getElem?_toArray, List.getElem?_cons_zero, List.getElem?_cons_succ]; rfl
      case hQz1 => exact fun _ _ _ h => h
      case hyz1 => exact Or.inl ⟨by rfl, by intro w hSw; (try dsimp only at hSw); go_simp; with_reducible rfl⟩
      try simp only [Act.put, List.setIfInBounds_toArray, List.set_cons_zero, List.set_cons_succ]
      refine wpF_take (i := 1) (oi := ?oiz2) (v := ?vz2) ?hiz2 (by kernel_rfl) (by kernel_rfl) (by kernel_rfl) (by kernel_rfl) ?hQz2 ?hyz2 (by assumption) ?restz2
      case hiz2 => simp only [List.getElem?_toArray, List.getElem?_cons_zero, List.getElem?_cons_succ]; rfl
      case hQz2 => exact fun _ _ _ h => h
      case hyz2 => exact Or.inl ⟨by rfl, by intro w hSw; (try dsimp only at hSw); go_simp; with_reducible rfl⟩
      try simp only [Act.put, List.setIfInBounds_toArray, List.set_cons_zero, List.set_cons_succ]
      refine wpF_take (i := 2) (oi := ?oiz3) (v := ?vz3) ?hiz3 (by kernel_rfl) (by kernel_rfl) (by kernel_rfl) (by kernel_rfl) ?hQz3 ?hyz3 (by assumption) ?restz3
      case hiz3 => simp only [List.getElem?_toArray, List.getElem?_cons_zero, List.getElem?_cons_succ]; rfl
      case hQz3 => exact fun _ _ _ h => h
      case hyz3 => exact Or.inl ⟨by rfl, by intro w hSw; (try dsimp only at hSw); go_simp; with_reducible rfl⟩
      try simp only [Act.put, List.setIfInBounds_toArray, List.set_cons_zero, List.set_cons_succ]
      refine wpF_take (i := 3) (oi := ?oiz4) (v := (.agg (tKey.enc x).toArray)) ?hiz4 (by kernel_rfl) (by kernel_rfl) (by kernel_rfl) (by kernel_rfl) ?hQz4 ?hyz4 (by assumption) ?restz4
      case hiz4 => simp only [List.getElem?_toArray, List.getElem?_cons_zero, List.getElem?_cons_succ]; rfl
      case hQz4 => exact fun _ _ _ h => h
      case hyz4 => refine yields_loadSP g (o + j * 32) (tKey.enc x) (by rw [tKey.len _ HK.out]; exact aggKey) HC.out ?_ _ rfl rfl; rfl
      try simp only [Act.put, List.setIfInBounds_toArray, List.set_cons_zero, List.set_cons_succ]
      refine wpF_take (i := 4) (oi := ?oiz5) (v := (.agg (numsA .u8 lf))) ?hiz5 (by kernel_rfl) (by kernel_rfl) (by kernel_rfl) (by kernel_rfl) ?hQz5 ?hyz5 (by assumption) ?restz5
      case hiz5 => simp only [List.getElem?_toArray, List.getElem?_cons_zero, List.getElem?_cons_succ]; rfl
      case hQz5 => exact fun _ _ _ h => h
      case hyz5 => refine yields_loadBSP (fun W hW => B.out.ext hW) aggKey hsz ?_ _ rfl rfl; rfl
      try simp only [Act.put, List.setIfInBounds_toArray, List.set_cons_zero, List.set_cons_succ]
      refine wpF_late (i := 6) (oi := ?oiz6) (v := ?vz6) ?hiz6 (by kernel_rfl) (by kernel_rfl) (by kernel_rfl) ?hQz6 ?hyz6 ?restz6
      case hiz6 => simp only [List.getElem?_toArray, List.getElem?_cons_zero, List.getElem?_cons_succ]; rfl
      case hQz6 => exact fun _ _ _ h => h
      case hyz6 => exact Or.inl ⟨by rfl, by intro w hSw; (try dsimp only at hSw); go_simp; with_reducible rfl⟩
      try simp only [Act.put, List.setIfInBounds_toArray, List.set_cons_zero, List.set_cons_succ]
      refine wpF_late (i := 7) (oi := ?oiz7) (v := ?vz7) ?hiz7 (by kernel_rfl) (by kernel_rfl) (by kernel_rfl) ?hQz7 ?hyz7 ?restz7
      case hiz7 => simp only [List.getElem?_toArray, List.getElem?_cons_zero, List.getElem?_cons_succ]; rfl
      case hQz7 => exact fun _ _ _ h => h
      case hyz7 => exact Or.inl ⟨by rfl, by intro w hSw; (try dsimp only at hSw); go_simp; with_reducible rfl⟩
      try simp only [Act.put, List.setIfInBounds_toArray, List.set_cons_zero, List.set_cons_succ]
      refine wpF_late (i := 8) (oi := ?oiz8) (v := (.slice (some ⟨g, o, none⟩) j c2)) ?hiz8 (by kernel_rfl) (by kernel_rfl) (by kernel_rfl) ?hQz8 ?hyz8 ?restz8
      case hiz8 => simp only [List.getElem?_toArray, List.getElem?_cons_zero, List.getElem?_cons_succ]; rfl
      case hQz8 => exact fun _ _ _ h => h
      case hyz8 => exact Or.inl ⟨by rfl, by intro w hSw; (try dsimp only at hSw); go_simp; (try with_reducible rfl)⟩
      try simp only [Act.put, List.setIfInBounds_toArray, List.set_cons_zero, List.set_cons_succ]
      refine wpF_ready (rs := [5]) (by kernel_rfl) (by simp) (AllF.cons (o := ?oy95) ?hy95 (fun K hK => ?sy95) AllF.nil)
      case hy95 => simp only [List.getElem?_toArray, List.getElem?_cons_zero, List.getElem?_cons_succ]; rfl
      go_simp
      refine (nodeKey_any x lf HK.out HLK.out _).mono ?_
      rintro e w5 ⟨rfl, hx⟩
      have hH2 := hHeld.trans hx
      refine hK.out _ _ (fun _ _ => hH2) ?_
      have HH := Lib.hid hH2
      clear hHeld hK K hx hH2
      try simp only [Act.put, List.setIfInBounds_toArray, List.set_cons_zero, List.set_cons_succ]
      refine wpF_ready (rs := [9]) (by kernel_rfl) (by simp) (AllF.cons (o := ?oy109) ?hy109 (fun K hK => ?sy109) AllF.nil)
      case hy109 => simp only [List.getElem?_toArray, List.getElem?_cons_zero, List.getElem?_cons_succ]; rfl
      have B5 := B.out.ext HH.out
      refine stp_storeP (off := 0) B5 aggKey (St.nums HND.out.1) (by omega) rfl _ _ rfl rfl rfl rfl ?_
      rw [splice_all _ _ (by rw [Array.length_toList, hsz, (St.nums (k := .u8) HND.out.1).size])]
      have e9 : (numsA .u8 (ndK x lf)).toList.toArray = numsA .u8 (ndK x lf) := by simp
      rw [e9]
      have HX8 := Lib.hid ((HX.out.trans HH.out).setRow (g := w.heap.size) (Nat.le_refl _) (numsA .u8 (ndK x lf)))
      have B8 := Lib.hid (B5.setRow (numsA .u8 (ndK x lf)))
      have HO8 := Lib.hid ((HO.out.ext HH.out).kept (row := some w.heap.size) (stRowK _ _ (numsA .u8 (ndK x lf))) (.inr fun e => HO.out.far_of_lt (Nat.lt_succ_self _) e.symm))
      refine hK.out _ _ (fun h => absurd (by decide) h) ?_
      clear hK K e9
      try simp only [Act.put, List.setIfInBounds_toArray, List.set_cons_zero, List.set_cons_succ]
      refine wpF_late (i := 10) (oi := ?oiz11) (v := ?vz11) ?hiz11 (by kernel_rfl) (by kernel_rfl) (by kernel_rfl) ?hQz11 ?hyz11 ?restz11
      case hiz11 => simp only [List.getElem?_toArray, List.getElem?_cons_zero, List.getElem?_cons_succ]; rfl
      case hQz11 => exact fun _ _ _ h => h
      case hyz11 => exact Or.inl ⟨by rfl, by intro w hSw; (try dsimp only at hSw); go_simp; with_reducible rfl⟩
      try simp only [Act.put, List.setIfInBounds_toArray, List.set_cons_zero, List.set_cons_succ]
      refine wpF_done (by kernel_rfl) ?_ _
      go_wp2
      go_roundw
      case rel => exact ⟨m / 2, j, ndK x lf, _, _, by omega, by go_num, rfl, by omega, HPM.out.symm, by rw [← HTK.out]; exact HO8.out.takeP (by rw [List.length_take]; omega), by rw [← HR1.out, HTJ.out, adR_odd HOD.out], HND.out, B8.out, HX8.out⟩
      case measure => simp [intOf]; omega
    · have hm2 : m % 2 = 0 := by omega
      rw [hm2] at hand
      have HE := Lib.hid (show (R.reverse : List (List Int)) = ps.take k ++ [lf] by rw [← HR1.out, adR_even hodd, List.reverse_cons, List.reverse_reverse])
      have hsz := sizeN (k := .u8) HLK.out.1
      have htl : (ps.take k).length = k := by rw [List.length_take]; omega
      have HTL := Lib.hid htl
      clear hm2 hodd htl
      go_wp2_with (first
        | (refine wpl_loadB B.out aggKey hsz rfl _ rfl rfl ?_)
        | (refine wpl_one rowKeyA (by decide) lf HLK.out rfl _ rfl rfl ?_)
        | (at_builtin; refine wpl_append rowKeyA rfl _ _ rfl (v := .slice A2 k c2) rfl (HO.out.alloc (.cells (tKey.enc lf).toArray 28)) _ _ rfl (A := some ⟨wr.heap.size, 0, none⟩) (ys := [lf]) rfl (rd_one (T := tKey) wr lf HLK.out _) (by intro y hy; obtain rfl := List.mem_singleton.1 hy; exact HLK.out) (by rw [HTL.out]; simp; omega) (by have := HX.out.size; have := B.out.lt; simp; omega) ?_; intro v5 w5 ho5 hg5 hat5; have HX5 := Lib.hid ((HX.out.alloc (.cells (tKey.enc lf).toArray 28)).grown hg5 (fun q hq => by have := ((HO.out.alloc (.cells (tKey.enc lf).toArray 28)).base_le q hq).1; omega)); have HO5 := Lib.hid ho5; obtain ⟨C5, n5, c5, rfl⟩ := ho5.shape3; clear ho5 hg5 hat5))
      go_ret2
      exact ⟨_, rfl, by rw [HE.out]; exact HO5.out.le (Nat.le_succ _), HX5.out⟩
end Go.Proofs.Ytdjclllnmclocaa
/- Keys that are drawn from a source. No condition. -/
namespace Go.Proofs.Ytdjclllnmclocaa
open Go.RowKit
set_option linter.unusedVariables false
set_option linter.unusedSimpArgs false

theorem zeroA_ok : K32 (List.replicate 32 0) := zero_ok
theorem K32.setA {k : List Int} (h : K32 k) (i : Nat) {x : Int} (h0 : 0 ≤ x) (h1 : x ≤ 255) : K32 (k.set i x) := by
  refine ⟨by rw [List.length_set]; exact h.1, fun y hy => ?_⟩
  rcases List.mem_or_eq_of_mem_set hy with hy | rfl
  · exact h.2 y hy
  · exact ⟨h0, h1⟩
theorem stRowA (w : World) (g : Nat) (cs : Array Value) : w.grownBy (w.setRow g cs) (some g) := ⟨rfl, rfl, rfl, by simp, fun k _ hk => setRow_other w g k cs (fun e => hk (by rw [e]))⟩
set_option maxHeartbeats 8000000 in
set_option maxRecDepth 100000 in
theorem l01Any_any (g : Nat) (b : Int) (hb : b ≤ 4611686018427370000) (w : World) (h : Src w g b) :
    Calls Try.prog 60 #[.pointer (some ⟨g, 0, none⟩)] w fun e w' => ∃ k : List Int, e = .returned (.agg (numsA .u8 k)) ∧ K32 k ∧ Src w' g (b + 410) ∧ w.grownBy w' (some g) := by
  have hgl := h.lt
  have hzA : (Try.prog.info? 28).map (·.zero) = some (some (.agg (numsA .u8 (List.replicate 32 0)))) := by kernel_rfl
  have hbA := built_zeroA
  have hZ0 := zeroA_ok
  generalize (List.replicate 32 (0 : Int)) = Z at hzA hbA hZ0
  have HZ := Lib.hid hZ0
  clear hZ0
  have hzl := HZ.out.1
  have hzst := St.nums (k := .u8) hzl
  have H := Lib.hid h
  clear h
  go_enter Try.func60, Try.ntmps60
  go_wp2_with (first
    | (refine wpl_alloc (numsA .u8 Z) hzA rfl rfl ?_)
    | (refine wpl_buildN rfl rfl hbA ?_)
    | (refine wpl_storeNewB aggKey hzst hzst.size rfl _ _ rfl rfl rfl rfl ?_)
    | (refine wpl_storeNewG (g := w.heap.size + 1) (w := w.alloc _) (by simp) aggKey hzst hzst.size rfl _ _ rfl rfl rfl rfl ?_))
  have BR0 := Lib.hid ((Blk.new w 28 (numsA .u8 Z)).alloc (.cells (numsA .u8 Z) 28))
  have BK0 := Lib.hid (Blk.new' (g := w.heap.size + 1) (w := w.alloc (.cells (numsA .u8 Z) 28)) (by simp) 28 (numsA .u8 Z))
  have hX := (ext_alloc w (.cells (numsA .u8 Z) 28)).alloc (.cells (numsA .u8 Z) 28)
  refine (srcPick_any g b (by omega) 3 (by omega) _ (H.out.ext hX)).mono ?_
  rintro e w1 ⟨n, rfl, hn0, hn1, hs, hg⟩
  have HG := Lib.hid (grown_trans (ext_grown (some g) hX) hg)
  have HS := Lib.hid hs
  have BR := Lib.hid (BR0.out.grown hg (fun e => by injection e with e; omega))
  have BK := Lib.hid (BK0.out.grown hg (fun e => by injection e with e; omega))
  clear hs hg hX BR0 BK0 H
  have hn3 : n = 0 ∨ n = 1 ∨ n = 2 := by omega
  rcases hn3 with rfl | rfl | rfl
  · clear hn0 hn1
    go_wp2_with fail
    refine (srcPick_any g (b + 2) (by omega) 3 (by omega) _ HS.out).mono ?_
    rintro e w2 ⟨t, rfl, ht0, ht1, hs, hg⟩
    have ht2 : t ≤ 255 := by omega
    have htw := u8_in t ht0 ht2
    replace HS := Lib.hid hs
    replace BR := Lib.hid (BR.out.grown hg (fun e => by injection e with e; omega))
    replace HG := Lib.hid (grown_trans HG.out hg)
    clear hs hg ht1
    go_wp2_with fail
    refine (l01Data_any g (b + 2 + 2) (by omega) 4 (by omega) _ HS.out).mono ?_
    rintro e w3 ⟨v3, xs, rfl, ho, hl, hs, hg⟩
    obtain ⟨A3, n3, c3, rfl⟩ := ho.shape3
    have HO := Lib.hid ho
    replace HS := Lib.hid hs
    replace BR := Lib.hid (BR.out.grown hg (fun e => by injection e with e; omega))
    replace HG := Lib.hid (grown_trans HG.out hg)
    clear hs hg ho
    go_wp2_with fail
    refine (l01Hash_any t ⟨ht0, ht2⟩ _ xs _ _ HO.out.rd (by omega)).mono ?_
    rintro e w4 ⟨rfl, hx⟩
    have hk := (hashL_ok t xs).1
    replace HS := Lib.hid (HS.out.ext hx)
    replace BR := Lib.hid (BR.out.ext hx)
    replace HG := Lib.hid (grown_ext HG.out hx)
    clear hx HO
    go_wp2_with (refine wpl_storeN BR.out aggKey hk hzst.size rfl _ _ rfl rfl rfl rfl ?_)
    refine bodyPost_ret (results_blk rfl _ rfl aggKey hk (BR.out.setRow _)) rfl ?_
    exact ⟨_, rfl, hashL_ok t xs, (HS.out.later (stRowA _ _ _) (fun k e => by injection e with e; omega)).le (by omega), grownR HG.out (stRowA _ _ _) (fun k e => by injection e with e; omega)⟩
  · clear hn0 hn1
    go_wp2_with fail
    refine (srcPick_any g (b + 2) (by omega) 32 (by omega) _ HS.out).mono ?_
    rintro e w2 ⟨i, rfl, hi0, hi1, hs, hg⟩
    obtain ⟨i, rfl⟩ := Int.eq_ofNat_of_zero_le hi0
    have hi2 : i < 32 := by omega
    have hi3 : (i : Int) < 32 := by omega
    replace HS := Lib.hid hs
    replace BR := Lib.hid (BR.out.grown hg (fun e => by injection e with e; omega))
    replace BK := Lib.hid (BK.out.grown hg (fun e => by injection e with e; omega))
    replace HG := Lib.hid (grown_trans HG.out hg)
    clear hs hg hi1
    go_wp2_with fail
    refine (srcPick_any g (b + 2 + 2) (by omega) 256 (by omega) _ HS.out).mono ?_
    rintro e w3 ⟨x, rfl, hx0, hx1, hs, hg⟩
    have hx2 : x ≤ 255 := by omega
    have hxw := u8_in x hx0 hx2
    replace HS := Lib.hid hs
    replace BR := Lib.hid (BR.out.grown hg (fun e => by injection e with e; omega))
    replace BK := Lib.hid (BK.out.grown hg (fun e => by injection e with e; omega))
    replace HG := Lib.hid (grown_trans HG.out hg)
    have d := BK.out.num i (by rw [hzl]; exact hi2)
    have f := BK.out.free i
    have HK := Lib.hid (HZ.out.setA i hx0 hx2)
    have hkl := HK.out.1
    have hksz := sizeN (k := .u8) hkl
    have BK2 := Lib.hid (show Blk (w3.setCell ⟨w.heap.size + 1, i, none⟩ (.int .u8 x)) (w.heap.size + 1) 28 (numsA .u8 (Z.set i x)) by
      have := BK.out.set i (.int .u8 x)
      rwa [numsA_set] at this)
    have BR2 := Lib.hid (BR.out.far (p := ⟨w.heap.size + 1, i, none⟩) (by show w.heap.size ≠ w.heap.size + 1; omega) (.int .u8 x))
    have HG2 := Lib.hid (grownR HG.out (r2 := some (w.heap.size + 1)) (grown_set (grown_refl w3 _) (i := i) (.int .u8 x)) (fun k e => by injection e with e; omega))
    have HS2 := Lib.hid (HS.out.later (grown_set (grown_refl w3 (some (w.heap.size + 1))) (i := i) (.int .u8 x)) (fun k e => by injection e with e; omega))
    clear hs hg hx1
    go_wp2_with (first
      | (refine wpl_loadB BK2.out aggKey hksz rfl _ rfl rfl ?_)
      | (refine wpl_storeN BR2.out aggKey hkl hzst.size rfl _ _ rfl rfl rfl rfl ?_))
    refine bodyPost_ret (results_blk rfl _ rfl aggKey hkl (BR2.out.setRow _)) rfl ?_
    exact ⟨_, rfl, HK.out, (HS2.out.later (stRowA _ _ _) (fun k e => by injection e with e; omega)).le (by omega), grownR HG2.out (stRowA _ _ _) (fun k e => by injection e with e; omega)⟩
  · clear hn0 hn1
    go_wp2_with fail
    go_loopw [4] (fun q wr => ∃ (j : Nat) (ks : List Int), j ≤ 32 ∧ q = .int .i64 j ∧ K32 ks ∧ Blk wr (w.heap.size + 1) 28 (numsA .u8 ks) ∧ Blk wr w.heap.size 28 (numsA .u8 Z) ∧ Src wr g (b + 2 + 2 * j) ∧ w.grownBy wr (some g)) (fun q _ => 32 - (intOf q).toNat)
    case atStart => exact ⟨0, _, by omega, rfl, HZ.out, BK.out, BR.out, HS.out.le (by omega), HG.out⟩
    case round =>
      obtain ⟨j, ks, hj, rfl, hks, hbk, hbr, hs, hg⟩ := hrel
      clear HS HG BK BR
      have BK := Lib.hid hbk
      have BR := Lib.hid hbr
      have HS := Lib.hid hs
      have HG := Lib.hid hg
      have HK0 := Lib.hid hks
      have hksl := hks.1
      clear hbk hbr hs hg hks
      by_cases hlj : j < 32
      · have hjI : (j : Int) < 32 := by omega
        have hj0 : (0 : Int) ≤ (j : Int) := by omega
        go_wp2_with fail
        refine (srcPick_any g _ (by omega) 256 (by omega) _ HS.out).mono ?_
        rintro e w3 ⟨x, rfl, hx0, hx1, hs, hg⟩
        have hx2 : x ≤ 255 := by omega
        have hxw := u8_in x hx0 hx2
        replace HS := Lib.hid hs
        replace BR := Lib.hid (BR.out.grown hg (fun e => by injection e with e; omega))
        replace BK := Lib.hid (BK.out.grown hg (fun e => by injection e with e; omega))
        replace HG := Lib.hid (grown_trans HG.out hg)
        have d := BK.out.num j (by rw [hksl]; exact hlj)
        have f := BK.out.free j
        have HK := Lib.hid (HK0.out.setA j hx0 hx2)
        have BK2 := Lib.hid (show Blk (w3.setCell ⟨w.heap.size + 1, j, none⟩ (.int .u8 x)) (w.heap.size + 1) 28 (numsA .u8 (ks.set j x)) by
          have := BK.out.set j (.int .u8 x)
          rwa [numsA_set] at this)
        have BR2 := Lib.hid (BR.out.far (p := ⟨w.heap.size + 1, j, none⟩) (by show w.heap.size ≠ w.heap.size + 1; omega) (.int .u8 x))
        have HG2 := Lib.hid (grownR HG.out (r2 := some (w.heap.size + 1)) (grown_set (grown_refl w3 _) (i := j) (.int .u8 x)) (fun k e => by injection e with e; omega))
        have HS2 := Lib.hid (HS.out.later (grown_set (grown_refl w3 (some (w.heap.size + 1))) (i := j) (.int .u8 x)) (fun k e => by injection e with e; omega))
        clear hs hg hx1
        go_wp2
        go_roundw
        case rel => exact ⟨j + 1, _, by omega, by go_num, HK.out, BK2.out, BR2.out, HS2.out.le (by omega), HG2.out⟩
        case measure => simp [intOf]; omega
      · obtain rfl : j = 32 := by omega
        have hksz := sizeN (k := .u8) hksl
        go_wp2_with (first
          | (refine wpl_loadB BK.out aggKey hksz rfl _ rfl rfl ?_)
          | (refine wpl_storeN BR.out aggKey hksl hzst.size rfl _ _ rfl rfl rfl rfl ?_))
        refine bodyPost_ret (results_blk rfl _ rfl aggKey hksl (BR.out.setRow _)) rfl ?_
        exact ⟨_, rfl, HK0.out, (HS.out.later (stRowA _ _ _) (fun k e => by injection e with e; omega)).le (by omega), grownR HG.out (stRowA _ _ _) (fun k e => by injection e with e; omega)⟩
set_option maxHeartbeats 4000000 in
set_option maxRecDepth 100000 in
theorem a2Keys_any (v : Value) (code : List Int) (most : Nat) (hm : most ≤ 20) (w : World) (S : Nat → Prop) (h : RdL tByte w S v code) :
    Calls Try.prog 21 #[v, .int .i64 most] w fun e w' => ∃ v' ks, e = .returned v' ∧ Own tKey 28 w' w.heap.size v' ks ∧ ks.length ≤ most ∧ Ext w w' := by
  obtain ⟨A, cap, rfl, _⟩ := id h
  have hm1 : (most : Int) + 1 ≤ 4611686018427387904 := by omega
  have hw1 : IntKind.i64.wrap ((most : Int) + 1) = (most : Int) + 1 := IntWalk.i64_in _ (by omega)
  go_enter Try.func21, Try.ntmps21
  go_wp2_with fail
  refine (l00From_any _ code _ _ h).mono ?_
  rintro e w1 ⟨rfl, hs, hx⟩
  have HX1 := Lib.hid hx
  have HS := Lib.hid hs
  have hgl := hs.lt
  clear hs hx h
  obtain ⟨g, hg0⟩ : ∃ g, w.heap.size = g := ⟨_, rfl⟩
  have HG0 := Lib.hid hg0
  rw [hg0] at HS hgl ⊢
  clear hg0
  go_wp2_with fail
  refine (srcPick_any g 0 (by omega) (most + 1) (by omega) _ (HS.out.ext (ext_alloc _ _))).mono ?_
  rintro e w2 ⟨n, rfl, hn0, hn1, hs, hg⟩
  obtain ⟨n, rfl⟩ := Int.eq_ofNat_of_zero_le hn0
  have hn2 : n ≤ most := by omega
  have HO := Lib.hid ((Own.empty tKey w1 28 w1.heap.size (Nat.le_refl _)).kept hg ((Own.empty tKey w1 28 w1.heap.size (Nat.le_refl _)).ne_sA hgl))
  have HG := Lib.hid (grown_trans (ext_grown (some g) (ext_alloc w1 (Obj.cells #[] 28))) hg)
  replace HS := Lib.hid hs
  clear hs hg hw1
  go_wp2
  go_loopw [6, 7] (fun a i wr => ∃ (k : Nat) (ks : List (List Int)), k ≤ n ∧ i = .int .i64 k ∧ Own tKey 28 wr w1.heap.size a ks ∧ ks.length + k ≤ most ∧ Src wr g (2 + 410 * (n - k)) ∧ w1.grownBy wr (some g)) (fun _ i _ => (intOf i).toNat)
  case atStart => exact ⟨n, [], by omega, rfl, HO.out, by simp; omega, HS.out.le (by omega), HG.out⟩
  case round =>
    obtain ⟨k, ks, hk, rfl, ho, hl, hs, hg⟩ := hrel
    obtain ⟨C, cn, cc, rfl⟩ := ho.shape3
    clear HO HS HG
    have HO := Lib.hid ho
    have HS := Lib.hid hs
    have HG := Lib.hid hg
    have HL := Lib.hid hl
    clear ho hs hg hl
    by_cases h0 : 0 < k
    · have hi : (0 : Int) < (k : Int) := by omega
      go_wp2_with fail
      refine (l01Any_any g _ (by omega) _ HS.out).mono ?_
      rintro e w3 ⟨q7, rfl, hko, hs, hg⟩
      replace HO := Lib.hid (HO.out.kept hg (HO.out.ne_sA hgl))
      replace HS := Lib.hid hs
      replace HG := Lib.hid (grown_trans HG.out hg)
      have HKO := Lib.hid hko
      clear hs hg hko
      go_wp2_with (first
        | (refine wpl_one rowKeyA (by decide) q7 HKO.out rfl _ rfl rfl ?_)
        | (at_builtin; refine wpl_append rowKeyA rfl _ _ rfl (v := .slice C cn cc) rfl (HO.out.alloc (.cells (tKey.enc q7).toArray 28)) _ _ rfl (A := some ⟨w3.heap.size, 0, none⟩) (ys := [q7]) rfl (rd_one (T := tKey) w3 q7 HKO.out _) (by intro y hy; obtain rfl := List.mem_singleton.1 hy; exact HKO.out) (by have := HL.out; simp; omega) (by have := HG.out.size; simp; omega) ?_; intro v5 w5 ho5 hg5 hat5; have HS5 := Lib.hid ((HS.out.ext (ext_alloc w3 (.cells (tKey.enc q7).toArray 28))).later hg5 (fun q hq => Nat.lt_of_lt_of_le hgl (HO.out.base_le q hq).1)); have HG5 := Lib.hid (grownR (grown_ext HG.out (ext_alloc w3 (.cells (tKey.enc q7).toArray 28))) hg5 (fun q hq => (HO.out.base_le q hq).1)); have HO5 := Lib.hid ho5; obtain ⟨C5, n5, c5, rfl⟩ := ho5.shape3; clear ho5 hg5 hat5))
      go_roundw
      case rel => exact ⟨k - 1, _, by omega, by go_num, HO5.out, by have := HL.out; simp; omega, HS5.out.le (by omega), HG5.out⟩
      case measure => simp [intOf]; omega
    · obtain rfl : k = 0 := by omega
      have HX := Lib.hid (HX1.out.grown HG.out (fun k e => by injection e with e; have := HG0.out; omega))
      have HOL := Lib.hid (HO.out.le HX1.out.size)
      go_wp2
      go_ret
      exact ⟨_, ks, rfl, HOL.out, by have := HL.out; omega, HX.out⟩
end Go.Proofs.Ytdjclllnmclocaa
/- Arrays of bytes held against each other by == and !=. No condition. -/
namespace Go.Proofs.Ytdjclllnmclocaa
open Go.RowKit
set_option linter.unusedVariables false
set_option linter.unusedSimpArgs false

def eqArr (d : Nat) (e : TypeId) (n : Nat) (xs ys : Array Value) : List Nat → Sem Bool
  | [] => pure true
  | i :: is => do
    let a ← part e xs (i * n)
    let b ← part e ys (i * n)
    let r ← Op.equalIn d e a b
    if (!r) = true then pure false else eqArr d e n xs ys is
section
variable {P : Program} (w : World)
theorem run_equalIn_array (d : Nat) (t e : TypeId) (len n : Nat) (xs ys : Array Value) (ht : P.underlying t = some (.array len e)) (hn : ∀ w, (sizeOf e).run P w = .ok n w) :
    (Op.equalIn (d + 1) t (.agg xs) (.agg ys)).run P w = (eqArr d e n xs ys (List.range' 0 len)).run P w := by
  simp only [Op.equalIn, Sem.run_bind, run_underlying ht, Result.andThen_ok, hn]
  rw [Std.Legacy.Range.forIn_eq_forIn_range']
  simp only [Std.Legacy.Range.size, Nat.sub_zero, Nat.add_sub_cancel, Nat.div_one]
  generalize List.range' 0 len = l
  clear ht
  induction l generalizing w with
  | nil => simp [eqArr]
  | cons f fs ih =>
    simp only [List.forIn_cons, eqArr, Sem.run_bind, Sem.run_ite]
    generalize (part e xs (f * n)).run P w = r1
    cases r1 with
    | ok a w1 =>
      simp only [Result.andThen_ok]
      generalize (part e ys (f * n)).run P w1 = r2
      cases r2 with
      | ok b w2 =>
        simp only [Result.andThen_ok]
        generalize (Op.equalIn d e a b).run P w2 = r3
        cases r3 with
        | ok r w3 =>
          cases r
          · simp only [Result.andThen_ok, Bool.not_false, if_true, Sem.run_pure]
          · simp only [Result.andThen_ok, Bool.not_true, Bool.false_eq_true, if_false, Sem.run_pure]
            exact ih w3
        | halt x w3 => simp [Result.andThen]
      | halt x w2 => simp [Result.andThen]
    | halt x w1 => simp [Result.andThen]
theorem run_eqArr (d : Nat) (e : TypeId) (k' : IntKind) (he : P.underlying e = some (.int k')) (k : IntKind) (a b : List Int) (hl : a.length = b.length) (m i : Nat) (hi : i + m = a.length) :
    (eqArr (d + 1) e 1 (numsA k a) (numsA k b) (List.range' i m)).run P w = .ok (decide (a.drop i = b.drop i)) w := by
  have hagg : (isAgg e).run P w = .ok false w := by
    unfold isAgg
    rw [Sem.run_bind, run_underlying he w]
    rfl
  induction m generalizing i with
  | zero =>
    rw [List.drop_eq_nil_of_le (by omega), List.drop_eq_nil_of_le (by omega)]
    simp [eqArr]
  | succ m ih =>
    have h1 : i < a.length := by omega
    have h2 : i < b.length := by omega
    have e1 := numsA_at k a i h1
    have e2 := numsA_at k b i h2
    rw [List.range'_succ]
    simp only [eqArr, Sem.run_bind, part, hagg, Result.andThen_ok, Bool.false_eq_true, if_false, Nat.mul_one, e1, e2, Sem.run_pure, run_equalIn_int w d e k k' _ _ he, Sem.run_ite]
    rw [List.drop_eq_getElem_cons h1, List.drop_eq_getElem_cons h2]
    by_cases hq : gI a i = gI b i
    · have h3 : (gI a i == gI b i) = true := by simpa using hq
      simp only [h3, Bool.not_true, Bool.false_eq_true, if_false]
      rw [ih (i + 1) (by omega)]
      rw [gI_lt h1, gI_lt h2] at hq
      simp only [List.cons.injEq, hq, true_and]
    · have h3 : (gI a i == gI b i) = false := by simpa using hq
      simp only [h3, Bool.not_false, if_true]
      rw [gI_lt h1, gI_lt h2] at hq
      simp only [List.cons.injEq, hq, false_and, decide_false]
end
theorem run_eqKey (a b : List Int) (ha : K32 a) (hb : K32 b) (W : World) : (binOp .eql 28 (.agg (numsA .u8 a)) (.agg (numsA .u8 b))).run Try.prog W = .ok (.bool (decide (a = b))) W := by
  rw [run_eql_struct, run_equalIn_array (P := Try.prog) W 9999 28 5 32 1 _ _ (by kernel_rfl) (fun w => by kernel_rfl), run_eqArr (P := Try.prog) W 9998 5 .u8 (by kernel_rfl) .u8 a b (by rw [ha.1, hb.1]) 32 0 (by rw [ha.1])]
  simp
theorem run_neqKey (a b : List Int) (ha : K32 a) (hb : K32 b) (W : World) : (binOp .neq 28 (.agg (numsA .u8 a)) (.agg (numsA .u8 b))).run Try.prog W = .ok (.bool (!decide (a = b))) W := by
  rw [run_neq_struct, run_equalIn_array (P := Try.prog) W 9999 28 5 32 1 _ _ (by kernel_rfl) (fun w => by kernel_rfl), run_eqArr (P := Try.prog) W 9998 5 .u8 (by kernel_rfl) .u8 a b (by rw [ha.1, hb.1]) 32 0 (by rw [ha.1])]
  simp

end Go.Proofs.Ytdjclllnmclocaa
/- Equal lists of keys and equal commits: the reference and the program. No condition. -/
namespace Go.Proofs.Ytdjclllnmclocaa
open Go.RowKit
set_option linter.unusedVariables false
set_option linter.unusedSimpArgs false

/-- a load of a part of a variable that any world behind w0 answers alike -/
theorem yields_loadP {P : Program} {ops : Array Oper} {op : Oper} {a : Act} {w0 : World} {t g e n off : Nat} {cs sub : Array Value} (hb : Blk w0 g e cs) (ht : Agg P t n) (hn : sub.size = n) (hp : ∀ j u, sub[j]? = some u → cs[off + j]? = some u) (hw : Region.wanted op (yielded ops a.tmps) = true) (x : Operand) (ho : op.op = .load t x) (hx : a.eval x = .pointer (some ⟨g, off, none⟩)) :
    YieldsIf P ops (fun W => Ext w0 W) op (.agg sub) a := by
  have := yields_loadR (P := P) (ops := ops) (op := op) (a := a) (w0 := w0) (t := t) g off sub.toList (by simpa [hn] using ht) (fun j u hu => by
    rw [hb.cell]
    exact hp j u (by simpa using hu)) hw x ho hx
  simpa using this
set_option maxHeartbeats 1000000 in
set_option maxRecDepth 100000 in
theorem l03Lists_any (v u : Value) (xs ys : List (List Int)) (w : World) (S S' : Nat → Prop) (h : RdL tKey w S v xs) (h' : RdL tKey w S' u ys) :
    Calls Try.prog 78 #[v, u] w fun e w' => e = .returned (.bool (decide (xs = ys))) ∧ Ext w w' := by
  obtain ⟨A, cap, rfl, hcap, hlen, hrd, hok⟩ := h
  obtain ⟨A', cap', rfl, hcap', hlen', hrd', hok'⟩ := h'
  have Hrd := Lib.hid hrd
  have Hrd' := Lib.hid hrd'
  have Hok := Lib.hid hok
  have Hok' := Lib.hid hok'
  clear hrd hok hrd' hok'
  by_cases hl : xs.length = ys.length
  rotate_left
  · have Hl := Lib.hid hl
    have hl1 : ((xs.length : Int) != (ys.length : Int)) = true := by simp; omega
    clear hl
    go_enter Try.func78, Try.ntmps78
    go_wp2
    go_ret
    exact ⟨by rw [decide_eq_false (fun h => Hl.out (by rw [h]))]; rfl, Ext.refl _⟩
  have Hl := Lib.hid hl
  have hl1 : ((xs.length : Int) != (ys.length : Int)) = false := by simp [hl]
  clear hl
  go_enter Try.func78, Try.ntmps78
  go_wp2
  go_loopw [5] (fun i wr => ∃ k : Nat, k ≤ xs.length ∧ i = .int .i64 k ∧ xs.take k = ys.take k ∧ Ext w wr) (fun i _ => xs.length - (intOf i).toNat)
  case atStart => exact ⟨0, by omega, rfl, by simp, Ext.refl _⟩
  case round =>
    obtain ⟨k, hk, rfl, ht, hx⟩ := hrel
    have Ht := Lib.hid ht
    have HX := Lib.hid hx
    clear ht hl1 hx
    by_cases hlt : k < xs.length
    · have hlt' : k < ys.length := by rw [← Hl.out]; exact hlt
      obtain ⟨g, o, rfl, hs, hc⟩ := Hrd.out.elem Hok.out k hlt
      obtain ⟨g2, o2, rfl, hs2, hc2⟩ := Hrd'.out.elem Hok'.out k hlt'
      have HX0 := Lib.hid (show K32 xs[k] from Hok.out _ (List.getElem_mem hlt))
      have HX1 := Lib.hid (show K32 ys[k] from Hok'.out _ (List.getElem_mem hlt'))
      have HD0 := Lib.hid (show ∀ j u, (tKey.enc xs[k])[j]? = some u → wr.cell? ⟨g, o + k * 32 + j, none⟩ = some u from fun j u hu => HX.out.cell (hc j u hu))
      have HD1 := Lib.hid (show ∀ j u, (tKey.enc ys[k])[j]? = some u → wr.cell? ⟨g2, o2 + k * 32 + j, none⟩ = some u from fun j u hu => HX.out.cell (hc2 j u hu))
      clear hc hc2
      have hi : (0 : Int) ≤ (k : Int) := by omega
      have hi2 : (k : Int) < (xs.length : Int) := by omega
      have hi3 : (k : Int) < (ys.length : Int) := by omega
      by_cases he : xs[k] = ys[k]
      · have He := Lib.hid he
        have hneq : ∀ W, (binOp .neq 28 (.agg (tKey.enc xs[k]).toArray) (.agg (tKey.enc ys[k]).toArray)).run Try.prog W = .ok (.bool false) W := fun W => by
          have := run_neqKey xs[k] ys[k] HX0.out HX1.out W
          rw [decide_eq_true He.out] at this
          exact this
        clear he
        go_wp2_with fail
        refine wp_region_held_drew (S := fun W => Ext wr W) (by kernel_rfl) (Ext.refl _).drew (fun hHeld => ?_)
        refine wpAnyH_take (i := 0) (oi := ?oiz1) (v := ?vz1) ?hiz1 (by kernel_rfl) (by kernel_rfl) (by kernel_rfl) ?hQz1 ?hyz1 (by assumption) ?restz1
        case hiz1 => simp only [List.getElem?_toArray, List.getElem?_cons_zero, List.getElem?_cons_succ]; rfl
        case hQz1 => exact fun _ _ _ h => h
        case hyz1 => exact Or.inl ⟨by rfl, by intro w hSw; (try dsimp only at hSw); go_simp; with_reducible rfl⟩
        try simp only [Act.put, List.setIfInBounds_toArray, List.set_cons_zero, List.set_cons_succ]
        refine wpAnyH_take (i := 1) (oi := ?oiz2) (v := ?vz2) ?hiz2 (by kernel_rfl) (by kernel_rfl) (by kernel_rfl) ?hQz2 ?hyz2 (by assumption) ?restz2
        case hiz2 => simp only [List.getElem?_toArray, List.getElem?_cons_zero, List.getElem?_cons_succ]; rfl
        case hQz2 => exact fun _ _ _ h => h
        case hyz2 => exact Or.inl ⟨by rfl, by intro w hSw; (try dsimp only at hSw); go_simp; with_reducible rfl⟩
        try simp only [Act.put, List.setIfInBounds_toArray, List.set_cons_zero, List.set_cons_succ]
        refine wpAnyH_take (i := 2) (oi := ?oiz3) (v := ?vz3) ?hiz3 (by kernel_rfl) (by kernel_rfl) (by kernel_rfl) ?hQz3 ?hyz3 (by assumption) ?restz3
        case hiz3 => simp only [List.getElem?_toArray, List.getElem?_cons_zero, List.getElem?_cons_succ]; rfl
        case hQz3 => exact fun _ _ _ h => h
        case hyz3 => exact Or.inl ⟨by rfl, by intro w hSw; (try dsimp only at hSw); go_simp; with_reducible rfl⟩
        try simp only [Act.put, List.setIfInBounds_toArray, List.set_cons_zero, List.set_cons_succ]
        refine wpAnyH_take (i := 3) (oi := ?oiz4) (v := (.agg (tKey.enc xs[k]).toArray)) ?hiz4 (by kernel_rfl) (by kernel_rfl) (by kernel_rfl) ?hQz4 ?hyz4 (by assumption) ?restz4
        case hiz4 => simp only [List.getElem?_toArray, List.getElem?_cons_zero, List.getElem?_cons_succ]; rfl
        case hQz4 => exact fun _ _ _ h => h
        case hyz4 => refine yields_loadR g (o + k * 32) (tKey.enc xs[k]) (by rw [tKey.len _ HX0.out]; exact aggKey) HD0.out ?_ _ rfl rfl; rfl
        try simp only [Act.put, List.setIfInBounds_toArray, List.set_cons_zero, List.set_cons_succ]
        refine wpAnyH_take (i := 4) (oi := ?oiz5) (v := ?vz5) ?hiz5 (by kernel_rfl) (by kernel_rfl) (by kernel_rfl) ?hQz5 ?hyz5 (by assumption) ?restz5
        case hiz5 => simp only [List.getElem?_toArray, List.getElem?_cons_zero, List.getElem?_cons_succ]; rfl
        case hQz5 => exact fun _ _ _ h => h
        case hyz5 => exact Or.inl ⟨by rfl, by intro w hSw; (try dsimp only at hSw); go_simp; with_reducible rfl⟩
        try simp only [Act.put, List.setIfInBounds_toArray, List.set_cons_zero, List.set_cons_succ]
        refine wpAnyH_take (i := 5) (oi := ?oiz6) (v := ?vz6) ?hiz6 (by kernel_rfl) (by kernel_rfl) (by kernel_rfl) ?hQz6 ?hyz6 (by assumption) ?restz6
        case hiz6 => simp only [List.getElem?_toArray, List.getElem?_cons_zero, List.getElem?_cons_succ]; rfl
        case hQz6 => exact fun _ _ _ h => h
        case hyz6 => exact Or.inl ⟨by rfl, by intro w hSw; (try dsimp only at hSw); go_simp; with_reducible rfl⟩
        try simp only [Act.put, List.setIfInBounds_toArray, List.set_cons_zero, List.set_cons_succ]
        refine wpAnyH_take (i := 6) (oi := ?oiz7) (v := ?vz7) ?hiz7 (by kernel_rfl) (by kernel_rfl) (by kernel_rfl) ?hQz7 ?hyz7 (by assumption) ?restz7
        case hiz7 => simp only [List.getElem?_toArray, List.getElem?_cons_zero, List.getElem?_cons_succ]; rfl
        case hQz7 => exact fun _ _ _ h => h
        case hyz7 => exact Or.inl ⟨by rfl, by intro w hSw; (try dsimp only at hSw); go_simp; with_reducible rfl⟩
        try simp only [Act.put, List.setIfInBounds_toArray, List.set_cons_zero, List.set_cons_succ]
        refine wpAnyH_take (i := 7) (oi := ?oiz8) (v := (.agg (tKey.enc ys[k]).toArray)) ?hiz8 (by kernel_rfl) (by kernel_rfl) (by kernel_rfl) ?hQz8 ?hyz8 (by assumption) ?restz8
        case hiz8 => simp only [List.getElem?_toArray, List.getElem?_cons_zero, List.getElem?_cons_succ]; rfl
        case hQz8 => exact fun _ _ _ h => h
        case hyz8 => refine yields_loadR g2 (o2 + k * 32) (tKey.enc ys[k]) (by rw [tKey.len _ HX1.out]; exact aggKey) HD1.out ?_ _ rfl rfl; rfl
        try simp only [Act.put, List.setIfInBounds_toArray, List.set_cons_zero, List.set_cons_succ]
        refine wpAnyH_take (i := 8) (oi := ?oiz9) (v := ?vz9) ?hiz9 (by kernel_rfl) (by kernel_rfl) (by kernel_rfl) ?hQz9 ?hyz9 (by assumption) ?restz9
        case hiz9 => simp only [List.getElem?_toArray, List.getElem?_cons_zero, List.getElem?_cons_succ]; rfl
        case hQz9 => exact fun _ _ _ h => h
        case hyz9 => exact Or.inl ⟨by rfl, by intro w hSw; (try dsimp only at hSw); go_simp; with_reducible rfl⟩
        try simp only [Act.put, List.setIfInBounds_toArray, List.set_cons_zero, List.set_cons_succ]
        refine wpAnyH_done (by kernel_rfl) ?_ _
        have HX2 := Lib.hid (HX.out.trans hHeld)
        clear hHeld
        go_wp2
        go_roundw
        case rel => exact ⟨k + 1, by omega, by go_num, by rw [List.take_succ_eq_append_getElem hlt, List.take_succ_eq_append_getElem hlt', Ht.out, He.out], HX2.out⟩
        case measure => simp [intOf]; omega
      · have He := Lib.hid he
        have hneq : ∀ W, (binOp .neq 28 (.agg (tKey.enc xs[k]).toArray) (.agg (tKey.enc ys[k]).toArray)).run Try.prog W = .ok (.bool true) W := fun W => by
          have := run_neqKey xs[k] ys[k] HX0.out HX1.out W
          rw [decide_eq_false He.out] at this
          exact this
        clear he
        go_wp2_with fail
        refine wp_region_held_drew (S := fun W => Ext wr W) (by kernel_rfl) (Ext.refl _).drew (fun hHeld => ?_)
        refine wpAnyH_take (i := 0) (oi := ?oiz10) (v := ?vz10) ?hiz10 (by kernel_rfl) (by kernel_rfl) (by kernel_rfl) ?hQz10 ?hyz10 (by assumption) ?restz10
        case hiz10 => simp only [List.getElem?_toArray, List.getElem?_cons_zero, List.getElem?_cons_succ]; rfl
        case hQz10 => exact fun _ _ _ h => h
        case hyz10 => exact Or.inl ⟨by rfl, by intro w hSw; (try dsimp only at hSw); go_simp; with_reducible rfl⟩
        try simp only [Act.put, List.setIfInBounds_toArray, List.set_cons_zero, List.set_cons_succ]
        refine wpAnyH_take (i := 1) (oi := ?oiz11) (v := ?vz11) ?hiz11 (by kernel_rfl) (by kernel_rfl) (by kernel_rfl) ?hQz11 ?hyz11 (by assumption) ?restz11
        case hiz11 => simp only [List.getElem?_toArray, List.getElem?_cons_zero, List.getElem?_cons_succ]; rfl
        case hQz11 => exact fun _ _ _ h => h
        case hyz11 => exact Or.inl ⟨by rfl, by intro w hSw; (try dsimp only at hSw); go_simp; with_reducible rfl⟩
        try simp only [Act.put, List.setIfInBounds_toArray, List.set_cons_zero, List.set_cons_succ]
        refine wpAnyH_take (i := 2) (oi := ?oiz12) (v := ?vz12) ?hiz12 (by kernel_rfl) (by kernel_rfl) (by kernel_rfl) ?hQz12 ?hyz12 (by assumption) ?restz12
        case hiz12 => simp only [List.getElem?_toArray, List.getElem?_cons_zero, List.getElem?_cons_succ]; rfl
        case hQz12 => exact fun _ _ _ h => h
        case hyz12 => exact Or.inl ⟨by rfl, by intro w hSw; (try dsimp only at hSw); go_simp; with_reducible rfl⟩
        try simp only [Act.put, List.setIfInBounds_toArray, List.set_cons_zero, List.set_cons_succ]
        refine wpAnyH_take (i := 3) (oi := ?oiz13) (v := (.agg (tKey.enc xs[k]).toArray)) ?hiz13 (by kernel_rfl) (by kernel_rfl) (by kernel_rfl) ?hQz13 ?hyz13 (by assumption) ?restz13
        case hiz13 => simp only [List.getElem?_toArray, List.getElem?_cons_zero, List.getElem?_cons_succ]; rfl
        case hQz13 => exact fun _ _ _ h => h
        case hyz13 => refine yields_loadR g (o + k * 32) (tKey.enc xs[k]) (by rw [tKey.len _ HX0.out]; exact aggKey) HD0.out ?_ _ rfl rfl; rfl
        try simp only [Act.put, List.setIfInBounds_toArray, List.set_cons_zero, List.set_cons_succ]
        refine wpAnyH_take (i := 4) (oi := ?oiz14) (v := ?vz14) ?hiz14 (by kernel_rfl) (by kernel_rfl) (by kernel_rfl) ?hQz14 ?hyz14 (by assumption) ?restz14
        case hiz14 => simp only [List.getElem?_toArray, List.getElem?_cons_zero, List.getElem?_cons_succ]; rfl
        case hQz14 => exact fun _ _ _ h => h
        case hyz14 => exact Or.inl ⟨by rfl, by intro w hSw; (try dsimp only at hSw); go_simp; with_reducible rfl⟩
        try simp only [Act.put, List.setIfInBounds_toArray, List.set_cons_zero, List.set_cons_succ]
        refine wpAnyH_take (i := 5) (oi := ?oiz15) (v := ?vz15) ?hiz15 (by kernel_rfl) (by kernel_rfl) (by kernel_rfl) ?hQz15 ?hyz15 (by assumption) ?restz15
        case hiz15 => simp only [List.getElem?_toArray, List.getElem?_cons_zero, List.getElem?_cons_succ]; rfl
        case hQz15 => exact fun _ _ _ h => h
        case hyz15 => exact Or.inl ⟨by rfl, by intro w hSw; (try dsimp only at hSw); go_simp; with_reducible rfl⟩
        try simp only [Act.put, List.setIfInBounds_toArray, List.set_cons_zero, List.set_cons_succ]
        refine wpAnyH_take (i := 6) (oi := ?oiz16) (v := ?vz16) ?hiz16 (by kernel_rfl) (by kernel_rfl) (by kernel_rfl) ?hQz16 ?hyz16 (by assumption) ?restz16
        case hiz16 => simp only [List.getElem?_toArray, List.getElem?_cons_zero, List.getElem?_cons_succ]; rfl
        case hQz16 => exact fun _ _ _ h => h
        case hyz16 => exact Or.inl ⟨by rfl, by intro w hSw; (try dsimp only at hSw); go_simp; with_reducible rfl⟩
        try simp only [Act.put, List.setIfInBounds_toArray, List.set_cons_zero, List.set_cons_succ]
        refine wpAnyH_take (i := 7) (oi := ?oiz17) (v := (.agg (tKey.enc ys[k]).toArray)) ?hiz17 (by kernel_rfl) (by kernel_rfl) (by kernel_rfl) ?hQz17 ?hyz17 (by assumption) ?restz17
        case hiz17 => simp only [List.getElem?_toArray, List.getElem?_cons_zero, List.getElem?_cons_succ]; rfl
        case hQz17 => exact fun _ _ _ h => h
        case hyz17 => refine yields_loadR g2 (o2 + k * 32) (tKey.enc ys[k]) (by rw [tKey.len _ HX1.out]; exact aggKey) HD1.out ?_ _ rfl rfl; rfl
        try simp only [Act.put, List.setIfInBounds_toArray, List.set_cons_zero, List.set_cons_succ]
        refine wpAnyH_take (i := 8) (oi := ?oiz18) (v := ?vz18) ?hiz18 (by kernel_rfl) (by kernel_rfl) (by kernel_rfl) ?hQz18 ?hyz18 (by assumption) ?restz18
        case hiz18 => simp only [List.getElem?_toArray, List.getElem?_cons_zero, List.getElem?_cons_succ]; rfl
        case hQz18 => exact fun _ _ _ h => h
        case hyz18 => exact Or.inl ⟨by rfl, by intro w hSw; (try dsimp only at hSw); go_simp; with_reducible rfl⟩
        try simp only [Act.put, List.setIfInBounds_toArray, List.set_cons_zero, List.set_cons_succ]
        refine wpAnyH_done (by kernel_rfl) ?_ _
        have HX2 := Lib.hid (HX.out.trans hHeld)
        clear hHeld
        go_wp2
        go_ret
        exact ⟨by rw [decide_eq_false (fun h => He.out (by subst h; rfl))]; rfl, HX2.out⟩
    · go_wp2
      go_ret
      obtain rfl : k = xs.length := by omega
      refine ⟨?_, HX.out⟩
      have e := Ht.out
      rw [List.take_of_length_le (by omega), List.take_of_length_le (by rw [Hl.out]; omega)] at e
      rw [decide_eq_true e]; rfl
/-- equal commits -/
@[irreducible] def sameCm (x y : Cm) : Bool := decide (x.root = y.root) && (decide (x.par = y.par) && ((x.num == y.num) && (x.note.toList == y.note.toList)))
theorem sameCm_eq (x y : Cm) : sameCm x y = (decide (x.root = y.root) && (decide (x.par = y.par) && ((x.num == y.num) && (x.note.toList == y.note.toList)))) := by rw [sameCm]
end Go.Proofs.Ytdjclllnmclocaa
/- Two variables of a struct's type, made and filled at once. No condition. -/
namespace Go.Proofs.Ytdjclllnmclocaa
open Go.RowKit Go.BigFrame
set_option linter.unusedVariables false
set_option linter.unusedSimpArgs false

theorem setRow_alloc2 (w : World) (cs cs' : Array Value) (t : TypeId) (o : Obj) : ((w.alloc (.cells cs t)).alloc o).setRow w.heap.size cs' = (w.alloc (.cells cs' t)).alloc o := by
  unfold World.setRow World.alloc
  congr 1
  apply Array.ext
  · simp
  · intro i h1 h2
    simp only [Array.getElem_modify, Array.getElem_push, Array.size_push]
    by_cases h : i < w.heap.size
    · have hne : w.heap.size ≠ i := by omega
      simp [h, hne, Nat.lt_succ_of_lt h]
    · by_cases h3 : w.heap.size = i
      · subst h3
        simp
      · simp [h3, h]
        split
        · omega
        · rfl
theorem wpl_two {P : Program} {ops : Array Oper} {rest : List Oper} {o1 o2 o3 o4 : Oper} {a : Act} {w : World} {Q : Exit → Act → World → Prop} {t n : Nat} {Z cs1 cs2 : Array Value} (ht : Agg P t n) (hs1 : St n cs1) (hs2 : St n cs2) (hz : (P.info? t).map (·.zero) = some (some (.agg Z))) (hZ : Z.size = n)
    (g1 : o1.guard = none) (p1 : o1.op = .alloc t) (g2 : o2.guard = none) (p2 : o2.op = .alloc t) (g3 : o3.guard = none) (x3 y3 : Operand) (p3 : o3.op = .store t x3 y3) (d3 : o3.dst = none) (g4 : o4.guard = none) (x4 y4 : Operand) (p4 : o4.op = .store t x4 y4) (d4 : o4.dst = none)
    (e3 : ((a.put o1.dst (.pointer (some ⟨w.heap.size, 0, none⟩))).put o2.dst (.pointer (some ⟨w.heap.size + 1, 0, none⟩))).eval x3 = .pointer (some ⟨w.heap.size, 0, none⟩))
    (f3 : ((a.put o1.dst (.pointer (some ⟨w.heap.size, 0, none⟩))).put o2.dst (.pointer (some ⟨w.heap.size + 1, 0, none⟩))).eval y3 = .agg cs1)
    (e4 : ((a.put o1.dst (.pointer (some ⟨w.heap.size, 0, none⟩))).put o2.dst (.pointer (some ⟨w.heap.size + 1, 0, none⟩))).eval x4 = .pointer (some ⟨w.heap.size + 1, 0, none⟩))
    (f4 : ((a.put o1.dst (.pointer (some ⟨w.heap.size, 0, none⟩))).put o2.dst (.pointer (some ⟨w.heap.size + 1, 0, none⟩))).eval y4 = .agg cs2)
    (h : wpList P ops Q rest ((a.put o1.dst (.pointer (some ⟨w.heap.size, 0, none⟩))).put o2.dst (.pointer (some ⟨w.heap.size + 1, 0, none⟩))) ((w.alloc (.cells cs1 t)).alloc (.cells cs2 t))) :
    wpList P ops Q (o1 :: o2 :: o3 :: o4 :: rest) a w := by
  have hsz : (w.alloc (.cells Z t)).heap.size = w.heap.size + 1 := by simp
  have hsz1 : (w.alloc (.cells cs1 t)).heap.size = w.heap.size + 1 := by simp
  refine wpl_alloc Z hz g1 p1 ?_
  refine wpl_alloc Z hz g2 p2 ?_
  rw [hsz]
  refine wpl_storeB ((Blk.new w t Z).alloc _) ht hs1 hZ g3 x3 y3 p3 e3 f3 d3 ?_
  rw [setRow_alloc2]
  refine wpl_storeB (g := w.heap.size + 1) (e := t) (cur := Z) (by have := Blk.new (w.alloc (.cells cs1 t)) t Z; rwa [hsz1] at this) ht hs2 hZ g4 x4 y4 p4 e4 f4 d4 ?_
  have := setRow_alloc (w.alloc (.cells cs1 t)) Z cs2 t
  rw [hsz1] at this
  rw [this]
  exact h
/-- the same load where a guard lets it by -/
theorem wpl_loadBW {P : Program} {ops : Array Oper} {rest : List Oper} {o : Oper} {a : Act} {w : World} {Q : Exit → Act → World → Prop} {t g e n : Nat} {cs : Array Value} (hb : Blk w g e cs) (ht : Agg P t n) (hn : cs.size = n) (hw : Region.wanted o (yielded ops a.tmps) = true) (x : Operand) (ho : o.op = .load t x) (hx : a.eval x = .pointer (some ⟨g, 0, none⟩))
    (h : wpList P ops Q rest (a.put o.dst (.agg cs)) w) : wpList P ops Q (o :: rest) a w := by
  refine wpList_want hw fun K hK => ?_
  unfold Oper.wp execOp
  simp only [ho, hx, Instr.loadAt, Instr.sureAddr, Sem.run_bind, Sem.run_pure, Result.andThen_ok, run_loadB hb ht hn]
  exact hK _ _ h
end Go.Proofs.Ytdjclllnmclocaa
/- The walk of the law FnPeaks. No condition. -/
namespace Go.Proofs.Ytdjclllnmclocaa
open Go.RowKit
set_option linter.unusedVariables false
set_option linter.unusedSimpArgs false

set_option maxHeartbeats 1000000 in
set_option maxRecDepth 100000 in
theorem sameKeys_any (v u : Value) (xs ys : List (List Int)) (w : World) (S S' : Nat → Prop) (h : RdL tKey w S v xs) (h' : RdL tKey w S' u ys) :
    Calls Try.prog 37 #[v, u] w fun e w' => e = .returned (.bool (decide (xs = ys))) ∧ Ext w w' := by
  have hc := l03Lists_any v u xs ys w S S' h h'
  obtain ⟨A, cap, rfl, _⟩ := id h
  obtain ⟨A', cap', rfl, _⟩ := id h'
  obtain ⟨R, hR⟩ : ∃ R, decide (xs = ys) = R := ⟨_, rfl⟩
  rw [hR] at hc ⊢
  clear h h' hR
  go_enter Try.func37, Try.ntmps37
  go_wp2_with fail
  refine hc.mono ?_
  rintro e w1 ⟨rfl, hx⟩
  have HX := Lib.hid hx
  clear hx hc
  go_wp2
  go_ret
  exact ⟨rfl, HX.out⟩
theorem pk_next {ks : List (List Int)} {n : Nat} (h : n < ks.length) : (adR n (pk (ks.take n)).reverse ks[n]).reverse = pk (ks.take (n + 1)) := by
  rw [adR_pk n (ks.take n) ks[n] (by rw [List.length_take]; omega), List.reverse_reverse, List.take_succ_eq_append_getElem h]
theorem pk_many {ks : List (List Int)} {n : Nat} (h : ks.length = n) (z : List Int) : (pk ks ++ [z]).length ≠ pc n := by
  rw [List.length_append, pk_len n ks h]
  simp
theorem pc20 (n : Nat) (h : n ≤ 18) : pc n ≤ 20 := by
  have h9 : ∀ y : Fin 19, pc y.1 ≤ 20 := by decide
  exact h9 ⟨n, by omega⟩
theorem rdl_true {T : Ty (List Int)} {w : World} {S : Nat → Prop} {v : Value} {xs : List (List Int)} (h : RdL T w S v xs) : RdL T w (fun _ => True) v xs := h.mono fun _ _ => trivial
set_option maxHeartbeats 8000000 in
set_option maxRecDepth 100000 in
theorem FnPeaks_any (w : World) (v0 : Value) (x0 : List Int) (S0 : Nat → Prop) (h0 : RdL tByte w S0 v0 x0) (v1 : Value) (x1 : List Int) (S1 : Nat → Prop) (h1 : RdL tByte w S1 v1 x1) :
    Calls Try.prog 6 #[v0, v1] w fun e w' => e = .returned (.bool true) ∧ Ext w w' := by
  obtain ⟨A0, cap0, rfl, _⟩ := id h0
  obtain ⟨A1, cap1, rfl, _⟩ := id h1
  have H0 := Lib.hid h0
  have H1 := Lib.hid h1
  clear h0 h1
  cases hlong : (decide (3000 < x0.length) || decide (3000 < x1.length)) with
  | true =>
    have hl := fun W => a2Long_any A0 A1 x0.length x1.length cap0 cap1 W true hlong
    clear hlong
    go_enter Try.func6, Try.ntmps6
    go_wp2_with fail
    refine (hl _).mono ?_
    rintro e w' ⟨rfl, rfl⟩
    go_wp2
    go_ret
    exact ⟨rfl, Ext.refl _⟩
  | false =>
    have hl := fun W => a2Long_any A0 A1 x0.length x1.length cap0 cap1 W false hlong
    clear hlong
    go_enter Try.func6, Try.ntmps6
    go_wp2_with fail
    refine (hl _).mono ?_
    rintro e w' ⟨rfl, rfl⟩
    clear hl
    go_wp2_with fail
    refine (a2Keys_any _ x0 9 (by omega) _ _ H0.out).mono ?_
    rintro e w1 ⟨va, ka, rfl, hoa, hla, hx⟩
    have XW := Lib.hid hx
    have HOA := Lib.hid hoa
    obtain ⟨Aa, na, ca, rfl⟩ := hoa.shape3
    clear hx hoa
    go_wp2_with fail
    refine (a2Keys_any _ x1 9 (by omega) _ _ (H1.out.ext (by decide) XW.out)).mono ?_
    rintro e w2 ⟨vb, kb, rfl, hob, hlb, hx⟩
    replace XW := Lib.hid (XW.out.trans hx)
    replace HOA := Lib.hid (HOA.out.ext hx)
    obtain ⟨Ab, cb, e1, hcb, hnb, hrb, hkb⟩ := hob.rd
    subst e1
    have HRB := Lib.hid hrb
    have HKB := Lib.hid hkb
    clear hx hob hrb hkb
    go_wp2_with (at_builtin; refine wpl_append rowKeyA rfl _ _ rfl (v := .slice Aa na ca) rfl HOA.out _ _ rfl (ys := kb) rfl HRB.out HKB.out (by omega) XW.out.size ?_; intro v3 w3 ho3 hg3 hat3; have X3 := Lib.hid (HOA.out.ext_app XW.out hg3); have HO3 := Lib.hid ho3; obtain ⟨Al, nl, cl, rfl⟩ := ho3.shape3; clear ho3 hg3 hat3)
    obtain ⟨ks, hks⟩ : ∃ ks, ka ++ kb = ks := ⟨_, rfl⟩
    rw [hks] at HO3
    have hlk : ks.length ≤ 18 := by rw [← hks, List.length_append]; omega
    obtain ⟨A', c', e', hcl, hnl, hrd, hok⟩ := HO3.out.rd
    obtain ⟨rfl, rfl, rfl⟩ := Value.slice.inj e'
    have HR := Lib.hid (rdl_true HO3.out.rd)
    have HOK := Lib.hid (show ∀ x ∈ ks, K32 x from hok)
    have HRD := Lib.hid hrd
    clear hks e' hrd hok HO3 HOA HRB HKB
    go_loopw [6, 7, 8, 9, 10, 11, 12, 13, 14, 15] (fun p i _ _ _ _ _ _ _ _ wr => ∃ (n : Nat) (A2 : Option Addr) (c2 : Nat), n ≤ ks.length ∧ i = .int .i64 n ∧ p = .slice A2 (pk (ks.take n)).length c2 ∧ RdL tKey wr (fun _ => True) p (pk (ks.take n)) ∧ Ext w3 wr) (fun _ i _ _ _ _ _ _ _ _ _ => ks.length + 1 - (intOf i).toNat)
    case atStart => exact ⟨0, _, _, by omega, rfl, by rw [pk_nil (by simp)]; rfl, by rw [pk_nil (by simp)]; exact ⟨_, _, rfl, Nat.le_refl _, by simp, Rd.nil _ _ _ _, by simp⟩, ext_alloc _ _⟩
    case round =>
      obtain ⟨n, A2, c2, hn, rfl, rfl, hrp, hx⟩ := hrel
      have HX := Lib.hid hx
      have HRP := Lib.hid hrp
      clear hx hrp
      have HTL := Lib.hid (show (ks.take n).length = n by rw [List.length_take]; omega)
      have HPL := Lib.hid (pk_len n (ks.take n) HTL.out)
      have HPO := Lib.hid (pk_ok (xs := ks.take n) (fun x hx => HOK.out x (List.mem_of_mem_take hx)))
      have HLK := Lib.hid (lk_ok (xs := ks.take n) (fun x hx => HOK.out x (List.mem_of_mem_take hx)))
      have HKP := Lib.hid (kp_pk n (ks.take n) HTL.out)
      have hpp := Lib.hid (show pc n ≤ 256 by have := pc20 n (by omega); omega)
      have HT := Lib.hid (fun W (hW : Ext w3 W) => rdlK_take (k := n) (HR.out.ext (by decide) hW) rfl hn)
      have hPE := Lib.hid (show ∀ W, RdL tKey W (fun _ => True) (.slice Al n cl) (ks.take n) → Calls Try.prog 35 #[.slice Al n cl] W fun q w' => ∃ v', q = .returned (.tuple #[v', .int .i64 0]) ∧ Own tKey 28 w' W.heap.size v' (pk (ks.take n)) ∧ Ext W w' from fun W hW => peaksOf_any _ _ (by rw [HTL.out]; omega) W _ hW)
      have hLE := Lib.hid (show ∀ W, RdL tKey W (fun _ => True) (.slice Al n cl) (ks.take n) → Calls Try.prog 28 #[.slice Al n cl] W fun q w' => q = .returned (.tuple #[.agg (numsA .u8 (lk (ks.take n))), .int .i64 0]) ∧ Ext W w' from fun W hW => implListKey_any _ _ (by rw [HTL.out]; omega) W _ hW)
      have hKE := Lib.hid (show ∀ W, RdL tKey W (fun _ => True) (.slice A2 (pk (ks.take n)).length c2) (pk (ks.take n)) → Calls Try.prog 36 #[.slice A2 (pk (ks.take n)).length c2, .int .i64 n] W fun q w' => q = .returned (.tuple #[.agg (numsA .u8 (lk (ks.take n))), .int .i64 0]) ∧ Ext W w' from fun W hW => by
        have := implKeyOfPeaks_any _ _ n (by omega) HPL.out (by rw [HPL.out]; exact hpp.out) W _ hW
        rwa [HKP.out] at this)
      have hSM := Lib.hid (fun W u (h1 : RdL tKey W (fun _ => True) u (pk (ks.take n))) (h2 : RdL tKey W (fun _ => True) (.slice A2 (pk (ks.take n)).length c2) (pk (ks.take n))) => show Calls Try.prog 37 #[u, .slice A2 (pk (ks.take n)).length c2] W fun e w' => e = .returned (.bool true) ∧ Ext W w' by
        have := sameKeys_any u _ _ _ W _ _ h1 h2
        rwa [decide_eq_true rfl] at this)
      have hADD := Lib.hid (fun (hlt : n < ks.length) W (hW : RdL tKey W (fun _ => True) (.slice A2 (pk (ks.take n)).length c2) (pk (ks.take n))) => by
        have := addLeaf_any _ _ n (by omega) HPL.out (by rw [HPL.out]; exact hpp.out) ks[n] (HOK.out _ (List.getElem_mem _)) W _ hW
        rwa [pk_next hlt] at this)
      have hBAD := Lib.hid (fun (he : n = ks.length) v W (hW : RdL tKey W (fun _ => True) v (pk (ks.take n) ++ [List.replicate 32 0])) => addLeaf_bad v _ ks.length (by omega) (pk_many (by rw [HTL.out]; exact he) _) (by rw [List.length_append, HPL.out]; have := pc20 n (by omega); simp; omega) (List.replicate 32 0) W _ hW)
      have HP20 := Lib.hid (show (pk (ks.take n)).length ≤ 20 by rw [HPL.out]; exact pc20 n (by omega))
      have q0 : (0 : Int) ≤ (n : Int) := by omega
      have q1 : (n : Int) ≤ (ks.length : Int) := by omega
      have q2 : (n : Int) ≤ (cl : Int) := by omega
      have q3 : (ks.length : Int) ≤ (cl : Int) := by omega
      have q4 : n ≤ cl := by omega
      have hneq := run_neqKey (lk (ks.take n)) (lk (ks.take n)) HLK.out HLK.out
      simp only [decide_true, Bool.not_true] at hneq
      have hks := HLK.out.1
      have hst := St.nums (k := .u8) hks
      have hsz := sizeN (k := .u8) hks
      obtain ⟨P, hP⟩ : ∃ P, pk (ks.take n) = P := ⟨_, rfl⟩
      obtain ⟨L, hL⟩ : ∃ L, lk (ks.take n) = L := ⟨_, rfl⟩
      rw [hP] at HRP HPL HPO hPE hKE hSM HKP HP20 ⊢
      simp only [hP] at hADD hBAD
      rw [hL] at hLE hKE hneq hks hst hsz HKP HLK
      have HZO := Lib.hid zero_ok
      have hbA := built_zeroA
      generalize (List.replicate 32 (0 : Int)) = Z at hBAD HZO hbA
      clear hP hL HKP HPL
      go_wp2_with fail
      refine (hPE.out _ (HT.out _ HX.out)).mono ?_
      rintro e w4 ⟨vd, rfl, ho, hx⟩
      have HRV := Lib.hid (rdl_true ho.rd)
      obtain ⟨Ad, cd, rfl⟩ := ho.shape
      replace HX := Lib.hid (HX.out.trans hx)
      replace HRP := Lib.hid (HRP.out.ext (by decide) hx)
      clear hx ho
      go_wp2_with fail
      refine (hLE.out _ (HT.out _ HX.out)).mono ?_
      rintro e w5 ⟨rfl, hx⟩
      replace HX := Lib.hid (HX.out.trans hx)
      replace HRP := Lib.hid (HRP.out.ext (by decide) hx)
      replace HRV := Lib.hid (HRV.out.ext (by decide) hx)
      clear hx
      go_wp2_with (refine wpl_storeNewB aggKey hst rfl rfl _ _ rfl rfl rfl rfl ?_)
      refine (hKE.out _ (HRP.out.ext (by decide) (ext_alloc _ _))).mono ?_
      rintro e w6 ⟨rfl, hx⟩
      have hE := (ext_alloc w5 (.cells (numsA .u8 L) 28)).trans hx
      replace HX := Lib.hid (HX.out.trans hE)
      replace HRP := Lib.hid (HRP.out.ext (by decide) hE)
      replace HRV := Lib.hid (HRV.out.ext (by decide) hE)
      have BK := Lib.hid ((Blk.new w5 28 (numsA .u8 L)).ext hx)
      clear hx hE
      go_wp2_with (refine wpl_storeNewB aggKey hst rfl rfl _ _ rfl rfl rfl rfl ?_)
      refine (hSM.out _ _ (HRV.out.ext (by decide) (ext_alloc _ _)) (HRP.out.ext (by decide) (ext_alloc _ _))).mono ?_
      rintro e w7 ⟨rfl, hx⟩
      have hE := (ext_alloc w6 (.cells (numsA .u8 L) 28)).trans hx
      replace HX := Lib.hid (HX.out.trans hE)
      replace HRP := Lib.hid (HRP.out.ext (by decide) hE)
      replace BK := Lib.hid (BK.out.ext hE)
      have BO := Lib.hid ((Blk.new w6 28 (numsA .u8 L)).ext hx)
      clear hx hE HRV
      by_cases hlt : n < ks.length
      · obtain ⟨g, o, rfl, _, hc⟩ := HRD.out.elem HOK.out n hlt
        have HK := Lib.hid (HOK.out ks[n] (List.getElem_mem hlt))
        have HC := Lib.hid (show ∀ j u, (tKey.enc ks[n])[j]? = some u → w7.cell? ⟨g, o + n * 32 + j, none⟩ = some u from fun j u hu => HX.out.cell (hc j u hu))
        have HAD := Lib.hid (hADD.out hlt)
        have hne : ((n : Int) == (ks.length : Int)) = false := by rw [beq_eq_false_iff_ne]; omega
        have hni : (n : Int) < (ks.length : Int) := by omega
        generalize ks[n] = x at HK HC HAD
        clear hc hADD hBAD
        go_wp2_with (first
          | (refine wpl_loadB BO.out aggKey hsz rfl _ rfl rfl ?_)
          | (refine wpl_loadB BK.out aggKey hsz rfl _ rfl rfl ?_)
          | (refine wpl_loadBW BO.out aggKey hsz rfl _ rfl rfl ?_)
          | (refine wpl_loadBW BK.out aggKey hsz rfl _ rfl rfl ?_)
          | (refine wpl_load ⟨g, o + n * 32, none⟩ (tKey.enc x) (by rw [tKey.len _ HK.out]; exact aggKey) rfl _ rfl rfl (fun j u hu => by rw [Addr.add_lit]; exact HC.out j u hu) ?_))
        refine (HAD.out _ HRP.out).mono ?_
        rintro e w8 ⟨v8, rfl, ho, hx⟩
        have HR8 := Lib.hid (rdl_true ho.rd)
        obtain ⟨A8, c8, rfl⟩ := ho.shape
        replace HX := Lib.hid (HX.out.trans hx)
        clear hx ho
        go_wp2
        go_roundw
        case rel => exact ⟨n + 1, A8, c8, by omega, by go_num, rfl, HR8.out, HX.out⟩
        case measure => simp [intOf]; omega
      · have hnn : n = ks.length := by omega
        have hne : ((n : Int) == (ks.length : Int)) = true := by rw [beq_iff_eq]; omega
        have HBA := Lib.hid (hBAD.out hnn)
        obtain ⟨A', cp', e', hcp, _, hrq, hpq⟩ := HRP.out
        obtain ⟨rfl, _, rfl⟩ := Value.slice.inj e'
        have HRQ := Lib.hid hrq
        have HPQ := Lib.hid hpq
        clear hADD hBAD hnn e' hrq hpq
        go_wp2_with (first
          | (refine wpl_loadB BO.out aggKey hsz rfl _ rfl rfl ?_)
          | (refine wpl_loadB BK.out aggKey hsz rfl _ rfl rfl ?_)
          | (refine wpl_loadBW BO.out aggKey hsz rfl _ rfl rfl ?_)
          | (refine wpl_loadBW BK.out aggKey hsz rfl _ rfl rfl ?_)
          | (refine wpl_buildN rfl rfl hbA ?_)
          | (at_builtin; refine wpl_append rowKeyA rfl _ _ rfl rfl (Own.empty tKey w7 28 w7.heap.size (Nat.le_refl _)) _ _ rfl rfl (HRQ.out.ext (by decide) (ext_alloc _ _)) HPQ.out (by have := HP20.out; simp; omega) (by simp) ?_; intro v8 w8 ho8 hg8 hat8; obtain ⟨A8, n8, c8, rfl⟩ := ho8.shape3; have X8 := Lib.hid ((ext_alloc w7 _).grown hg8 (fun k hk => Nat.le_of_eq (Option.some.inj hk))); have HO8 := Lib.hid ho8; clear ho8 hg8 hat8)
          | (refine wpl_one rowKeyA (by decide) Z HZO.out rfl _ rfl rfl ?_)
          | (at_builtin; refine wpl_append rowKeyA rfl _ _ rfl (v := .slice A8 n8 c8) rfl (HO8.out.alloc (.cells (tKey.enc Z).toArray 28)) _ _ rfl (A := some ⟨w8.heap.size, 0, none⟩) (ys := [Z]) rfl (rd_one (T := tKey) w8 Z HZO.out _) (by intro y hy; obtain rfl := List.mem_singleton.1 hy; exact HZO.out) (by have := HP20.out; simp; omega) (by have := X8.out.size; simp; omega) ?_; intro v9 w9 ho9 hg9 hat9; have X9 := Lib.hid ((HO8.out.alloc (.cells (tKey.enc Z).toArray 28)).ext_app (X8.out.alloc _) hg9); have HO9 := Lib.hid ho9; obtain ⟨A9, n9, c9, rfl⟩ := ho9.shape3; clear ho9 hg9 hat9))
        have HO10 := Lib.hid (show Own tKey 28 w9 w7.heap.size (.slice A9 n9 c9) (P ++ [Z]) from by have := HO9.out; rwa [List.nil_append] at this)
        refine (HBA.out _ _ (rdl_true HO10.out.rd)).mono ?_
        rintro e w10 ⟨rfl, hx⟩
        have XE := Lib.hid (((X3.out.trans HX.out).trans X9.out).trans hx)
        clear hx
        go_wp2
        go_ret
        exact ⟨rfl, XE.out⟩
end Go.Proofs.Ytdjclllnmclocaa
