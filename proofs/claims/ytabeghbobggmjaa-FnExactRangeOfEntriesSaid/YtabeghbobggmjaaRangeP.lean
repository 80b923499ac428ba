/- The entries of a range: the program. No condition. -/
import Derived.Test.YtabeghbobggmjaaRangeD
namespace Go.Proofs.Ytabeghbobggmjaa
open Go.RowKit
set_option linter.unusedVariables false
set_option linter.unusedSimpArgs false

set_option maxHeartbeats 1000000 in
set_option maxRecDepth 100000 in
theorem implRangeOfEntries_any (v : Value) (L : List En) (lo hi : ByteArray) (w : World) (S : Nat → Prop) (h : RdL tEnt w S v L) :
    Calls Try.prog 28 #[v, .string lo, .string hi] w fun e w' => ∃ v', e = .returned (.tuple #[v', .int .i64 (rangeR L lo hi).2]) ∧ Own tEnt 73 w' w.heap.size v' (rangeR L lo hi).1 ∧ Ext w w' := by
  have H := Lib.hid h
  have hc := fun W hx => validEntries_any v L W S (h.ext (by decide) hx)
  obtain ⟨A, cap, rfl, hcap, hlen, hrd, hok⟩ := h
  clear hrd hok
  have X2 : ∀ a b, Ext w ((w.alloc a).alloc b) := fun a b => (ext_alloc _ _).alloc _
  cases hb : okE L with
  | false =>
    simp only [rangeR, hb, Bool.false_eq_true, if_false]
    simp only [hb] at hc
    clear hb
    go_enter Try.func28, Try.ntmps28
    go_wp2_with fail
    refine (hc _ (X2 _ _)).mono ?_
    rintro e w1 ⟨rfl, hx⟩
    have HX := Lib.hid ((X2 _ _).trans hx)
    clear hx
    go_wp2
    go_ret2
    exact ⟨_, rfl, Own.nil _ _ _ _, HX.out⟩
  | true =>
    obtain ⟨hinc, h64⟩ := okE_incs' hb
    simp only [rangeR, hb, if_true]
    simp only [hb] at hc
    clear hb hinc
    go_enter Try.func28, Try.ntmps28
    go_wp2_with fail
    refine (hc _ (X2 _ _)).mono ?_
    rintro e w1 ⟨rfl, hx⟩
    have HP := Lib.hid (show w1.cell? ⟨w.heap.size, 0, none⟩ = some (.string lo) from hx.cell ((ext_alloc _ _).cell (by rw [(Blk.new w _ _).cell]; rfl)))
    have HR := Lib.hid (show w1.cell? ⟨w.heap.size + 1, 0, none⟩ = some (.string hi) from hx.cell (by rw [(Blk.new' (g := w.heap.size + 1) (by simp) _ _).cell]; rfl))
    have hs := hx.size
    simp only [World.size_alloc] at hs
    have HX := Lib.hid ((X2 _ _).trans hx)
    clear hx
    go_wp2_with fail
    refine (cloneE_any _ L _ _ (H.out.ext (by decide) HX.out) (by omega)).mono ?_
    rintro e w2 ⟨v', rfl, ho, hx⟩
    have HX2 := Lib.hid (HX.out.trans hx)
    have hs2 := HX.out.size
    have hdel := rangeDel_any _ L lo hi w.heap.size (w.heap.size + 1) w2 _ ho (by omega) (by omega) (hx.cell HP.out) (hx.cell HR.out)
    have hbl := ho.base_le
    obtain ⟨A', n', c', rfl⟩ := ho.shape3
    clear hx ho
    go_wp2_with fail
    refine hdel.mono ?_
    rintro e w3 ⟨v2, rfl, ho, hg⟩
    have HO := Lib.hid (ho.le (base' := w.heap.size) (by omega))
    have HX3 := Lib.hid (HX2.out.grown hg (fun k hk => by have := hbl k hk; omega))
    clear hdel ho hg
    go_wp2
    go_ret2
    exact ⟨_, rfl, HO.out, HX3.out⟩
end Go.Proofs.Ytabeghbobggmjaa
