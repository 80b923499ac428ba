/- Keys: held against each other, copied. No condition. -/
import Derived.Test.YtikpakhccmdmcaaAggr
import Derived.Test.YtikpakhccmdmcaaBytes
namespace Go.Proofs.Ytikpakhccmdmcaa
open Go.RowKit
set_option linter.unusedVariables false
set_option linter.unusedSimpArgs false

theorem setRow_alloc (w : World) (cs cs' : Array Value) (t : TypeId) : (w.alloc (.cells cs t)).setRow w.heap.size cs' = w.alloc (.cells cs' t) := by
  unfold World.setRow World.alloc
  congr 1
  apply Array.ext
  · simp
  · intro i h1 h2
    simp only [Array.getElem_modify, Array.getElem_push]
    simp only [Array.size_push] at h2
    by_cases h : i < w.heap.size
    · rw [if_neg (by omega)]; simp [h]
    · have : i = w.heap.size := by omega
      subst this
      simp
/-- a whole array is stored into the variable that has just been made -/
theorem wpl_storeNew {P : Program} {ops : Array Oper} {rest : List Oper} {o : Oper} {a : Act} {w : World} {Q : Exit → Act → World → Prop} {t e : Nat} {k : IntKind} {xs : List Int} {cur : Array Value} {n : Nat} (ht : Agg P t n) (hn : xs.length = n) (hl : cur.size = n) (hgd : o.guard = none) (x y : Operand) (ho : o.op = .store t x y) (hx : a.eval x = .pointer (some ⟨w.heap.size, 0, none⟩))
    (hy : a.eval y = .agg (numsA k xs)) (hd : o.dst = none) (h : wpList P ops Q rest a (w.alloc (.cells (numsA k xs) e))) : wpList P ops Q (o :: rest) a (w.alloc (.cells cur e)) := by
  refine wpl_storeN (Blk.new w e cur) ht hn hl hgd x y ho hx hy hd ?_
  rw [setRow_alloc]
  exact h
/-- a whole array in a variable and a number are the results -/
theorem results_blk2 {P : Program} {w : World} {fn : Func} {c d : Tmp} {t g e : Nat} {k : IntKind} {xs : List Int} (hr : fn.results = #[.cell c t, .tmp d]) (tmps : Array Value) (hp : tmps.getD c undef = .pointer (some ⟨g, 0, none⟩)) {n : Nat} (ht : Agg P t n) (hn : xs.length = n) (hb : Blk w g e (numsA k xs)) {v : Value} (hv : tmps.getD d undef = v) :
    (results fn tmps).run P w = .ok (.tuple #[.agg (numsA k xs), v]) w := by
  have hl := run_loadVar_at (P := P) (w := w) (t := t) ⟨g, 0, none⟩ (nums k xs) (by rw [nums_length, hn]; exact ht) (fun j u hu => by
    rw [Addr.add_lit, Nat.zero_add, hb.cell]
    simpa [numsA] using hu)
  have hp' : tmps[c]?.getD undef = .pointer (some ⟨g, 0, none⟩) := by simpa using hp
  have hv' : tmps[d]?.getD undef = v := by simpa using hv
  simp [results, hr, hp', hv', asAddr, hl, numsA]
/-- the store of a whole array, as an equation for the walk -/
theorem run_storeN (P : Program) {w : World} {g e n : Nat} {k : IntKind} {xs : List Int} {cur : Array Value} (hb : Blk w g e cur) (hn : xs.length = n) (hl : cur.size = n) :
    (storeCells ⟨g, 0, none⟩ (numsA k xs).toList).run P w = .ok () (w.setRow g (numsA k xs)) := by
  have hrun := run_storeCells_at P g 0 e (nums k xs) 0 cur w hb (by rw [nums_length]; omega) (one_nums k xs)
  have hsp := splice_all cur (nums k xs) (by rw [nums_length]; omega)
  unfold splice at hsp
  simp only [Nat.add_zero, hsp] at hrun
  simpa [numsA] using hrun
theorem sizeN {k : IntKind} {xs : List Int} {n : Nat} (h : xs.length = n) : (numsA k xs).size = n := by rw [numsA_size, h]
set_option maxHeartbeats 1000000 in
set_option maxRecDepth 100000 in
theorem eqKey_any (a b : List Int) (ha : K32 a) (hb : K32 b) (w : World) :
    Calls Try.prog 83 #[.agg (numsA .u8 a), .agg (numsA .u8 b)] w fun e w' => e = .returned (.bool (a == b)) ∧ Ext w w' := by
  have HA := Lib.hid ha.1
  have HB := Lib.hid hb.1
  go_enter Try.func83, Try.ntmps83
  go_wp2
  go_loopw [5] (fun i wr => ∃ k : Nat, k ≤ 32 ∧ i = .int .i64 k ∧ a.take k = b.take k ∧ Blk wr w.heap.size 45 (numsA .u8 a) ∧ Blk wr (w.heap.size + 1) 45 (numsA .u8 b) ∧ Ext w wr)
    (fun i _ => 32 - (intOf i).toNat)
  case atStart => exact ⟨0, by omega, rfl, by simp, (Blk.new w _ _).alloc _, Blk.new' (by simp) _ _, (ext_alloc _ _).alloc _⟩
  case round =>
    obtain ⟨k, hk, rfl, ht, h1, h2, hx⟩ := hrel
    have Ht := Lib.hid ht
    have HX := Lib.hid hx
    have H1 := Lib.hid h1
    have H2 := Lib.hid h2
    clear ht h1 h2 hx
    by_cases hlt : k < 32
    · have hd := H1.out.num k (by rw [HA.out]; exact hlt)
      have hd' := H2.out.num k (by rw [HB.out]; exact hlt)
      by_cases he : gI a k = gI b k
      · have He := Lib.hid he
        have hne : (gI a k != gI b k) = false := by simpa using he
        clear he
        go_wp2
        go_quiet (fail)
        go_wp2
        go_roundw
        case rel => exact ⟨k + 1, by omega, by go_num, take_eq_step (by rw [HA.out]; exact hlt) (by rw [HB.out]; exact hlt) Ht.out He.out, H1.out, H2.out, HX.out.drewN _⟩
        case measure => simp [intOf]; omega
      · have He := Lib.hid he
        have hne : (gI a k != gI b k) = true := by simpa using he
        clear he
        go_wp2
        go_quiet (fail)
        go_wp2
        go_ret
        exact ⟨by rw [beq_eq_false_iff_ne.2 (fun h => He.out (by rw [h]))]; rfl, HX.out.drewN _⟩
    · go_wp2
      go_ret
      obtain rfl : k = 32 := by omega
      refine ⟨?_, HX.out⟩
      have e := Ht.out
      rw [List.take_of_length_le (by rw [HA.out]; omega), List.take_of_length_le (by rw [HB.out]; omega)] at e
      subst e; simp

end Go.Proofs.Ytikpakhccmdmcaa
