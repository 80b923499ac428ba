/- Keys and entries: copied, counted. No condition. -/
import Derived.Test.YtikpakhccmdmcaaStrct
import Derived.Test.YtikpakhccmdmcaaStrs
namespace Go.Proofs.Ytikpakhccmdmcaa
open Go.RowKit
set_option linter.unusedVariables false
set_option linter.unusedSimpArgs false

section
variable {P : Program} {ops : Array Oper} {rest : List Oper} {o : Oper} {a : Act} {w : World} {Q : Exit → Act → World → Prop}
/-- a part of a variable is loaded -/
theorem wpl_loadP {t g e n off : Nat} {cs sub : Array Value} (hb : Blk w g e cs) (ht : Agg P t n) (hn : sub.size = n) (hp : ∀ j u, sub[j]? = some u → cs[off + j]? = some u) (hgd : o.guard = none) (x : Operand) (ho : o.op = .load t x) (hx : a.eval x = .pointer (some ⟨g, off, none⟩))
    (h : wpList P ops Q rest (a.put o.dst (.agg sub)) w) : wpList P ops Q (o :: rest) a w := by
  have h2 := wpl_load (P := P) (ops := ops) (rest := rest) (o := o) (a := a) (w := w) (Q := Q) (t := t) ⟨g, off, none⟩ sub.toList (by simpa [hn] using ht) hgd x ho hx (fun j u hu => by
    rw [Addr.add_lit, hb.cell]
    exact hp j u (by simpa using hu)) (by simpa using h)
  exact h2
/-- a part of a variable is written -/
theorem wpl_storeP {t g e n off : Nat} {cs cur : Array Value} (hb : Blk w g e cur) (ht : Agg P t n) (hs : St n cs) (hl : off + n ≤ cur.size) (hgd : o.guard = none) (x y : Operand) (ho : o.op = .store t x y) (hx : a.eval x = .pointer (some ⟨g, off, none⟩))
    (hy : a.eval y = .agg cs) (hd : o.dst = none) (h : wpList P ops Q rest a (w.setRow g (splice cur off cs.toList))) : wpList P ops Q (o :: rest) a w := by
  refine wpl_store g off e cur cs.toList (by rw [Array.length_toList, hs.size]; exact ht.2) hgd x y ho hx (by rw [hy]; simp [Value.cells]) hb (by rw [Array.length_toList, hs.size]; omega) hs.one hd ?_
  simpa using h
end
theorem aggB32K : Agg Try.prog 40 32 := aggB32
set_option maxHeartbeats 1000000 in
set_option maxRecDepth 100000 in
theorem toKey_any (a : List Int) (ha : K32 a) (w : World) :
    Calls Try.prog 27 #[.agg (numsA .u8 a)] w fun e w' => e = .returned (.agg (numsA .u8 a)) ∧ Ext w w' := by
  have HA := Lib.hid ha.1
  go_enter Try.func27, Try.ntmps27
  go_wp2
  go_loopw [4] (fun i wr => ∃ k : Nat, k ≤ 32 ∧ i = .int .i64 k ∧ Blk wr w.heap.size 40 (numsA .u8 a) ∧ (∃ z, Blk wr (w.heap.size + 1) 45 z ∧ z.size = 32) ∧ (∃ ys, Blk wr (w.heap.size + 2) 45 (numsA .u8 ys) ∧ ys.length = 32 ∧ ys.take k = a.take k) ∧ Ext w wr)
    (fun i _ => 32 - (intOf i).toNat)
  case atStart => exact ⟨0, by omega, rfl, ((Blk.new w _ _).alloc _).alloc _, ⟨_, (Blk.new' (by simp) _ _).alloc _, rfl⟩, ⟨List.replicate 32 0, by rw [← zero32]; exact Blk.new' (by simp) _ _, by simp, by simp⟩, ((ext_alloc _ _).alloc _).alloc _⟩
  case round =>
    obtain ⟨k, hk, rfl, h1, ⟨z, h2, hz⟩, ⟨ys, h3, hyl, hyt⟩, hx⟩ := hrel
    have HX := Lib.hid hx
    have H1 := Lib.hid h1
    have H2 := Lib.hid h2
    have H3 := Lib.hid h3
    have HYL := Lib.hid hyl
    have HYT := Lib.hid hyt
    have HZ := Lib.hid hz
    clear h1 h2 h3 hx hyl hyt hz
    by_cases hlt : k < 32
    · have hd := H1.out.num k (by rw [HA.out]; exact hlt)
      have hd2 := H3.out.num k (by rw [HYL.out]; exact hlt)
      have hf := H3.out.free k
      go_wp2
      go_roundw
      case rel => exact ⟨k + 1, by omega, by go_num, H1.out.far (by simp <;> omega) _, ⟨z, H2.out.far (by simp <;> omega) _, HZ.out⟩, ⟨ys.set k (gI a k), by rw [← numsA_set]; exact H3.out.set k _, by simp [HYL.out], set_take_step (by rw [HA.out]; exact hlt) (by rw [HYL.out, HA.out]) HYT.out⟩, HX.out.set (by simp <;> omega) _⟩
      case measure => simp [intOf]; omega
    · obtain rfl : k = 32 := by omega
      have e := HYT.out
      rw [List.take_of_length_le (by rw [HYL.out]; omega), List.take_of_length_le (by rw [HA.out]; omega)] at e
      subst e
      have hn := sizeN (k := .u8) HA.out
      have hs : St 32 (numsA .u8 ys) := St.nums HA.out
      have HS := Lib.hid hs
      have hzz := HZ.out
      clear hs
      go_wp2_with (first | (refine wpl_loadB H3.out aggKey hn rfl _ rfl rfl ?_) | (refine wpl_storeB H2.out aggKey HS.out hzz rfl _ _ rfl rfl rfl rfl ?_))
      refine bodyPost_ret (results_blk rfl _ rfl aggKey HA.out (H2.out.setRow _)) rfl ?_
      exact ⟨rfl, HX.out.setRow (by simp) _⟩
set_option maxHeartbeats 1000000 in
set_option maxRecDepth 100000 in
theorem toEntry_any (n v : ByteArray) (w : World) :
    Calls Try.prog 45 #[.agg #[.string n, .string v]] w fun e w' => e = .returned (.agg #[.string n, .string v]) ∧ Ext w w' := by
  go_enter Try.func45, Try.ntmps45
  go_wp2
  refine bodyPost_ret (v := .agg #[.string n, .string v]) (by simp [results, Try.results45, go_sem]) rfl ?_
  exact ⟨rfl, ((ext_alloc w _).alloc _).alloc _⟩
set_option maxHeartbeats 1000000 in
set_option maxRecDepth 100000 in
theorem szEntry_any (n v : ByteArray) (hn : n.size ≤ 140737488351232) (hv : v.size ≤ 140737488351232) (l : Int) (h0 : -1 ≤ l) (h1 : l ≤ 1048576) (w : World) :
    Calls Try.prog 40 #[.agg #[.string n, .string v], .int .i64 l] w fun e w' => e = .returned (.int .i64 (if l - n.size - v.size < 0 then -1 else l - n.size - v.size)) ∧ Ext w w' := by
  by_cases h2 : l - (n.size : Int) < 0
  · rw [if_pos (by omega)]
    go_enter Try.func40, Try.ntmps40
    go_wp2
    go_ret
    exact ⟨rfl, ext_alloc _ _⟩
  · by_cases h3 : l - (n.size : Int) - (v.size : Int) < 0
    · rw [if_pos (by omega)]
      go_enter Try.func40, Try.ntmps40
      go_wp2
      go_ret
      exact ⟨rfl, ext_alloc _ _⟩
    · rw [if_neg (by omega)]
      go_enter Try.func40, Try.ntmps40
      go_wp2
      go_ret
      exact ⟨rfl, ext_alloc _ _⟩

end Go.Proofs.Ytikpakhccmdmcaa
