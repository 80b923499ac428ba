/- The program's key of bytes: the blocks mixed in. No condition. -/
import Derived.Test.YtikpakhccmdmcaaHashJ
namespace Go.Proofs.Ytikpakhccmdmcaa
open Go.RowKit
set_option linter.unusedVariables false
set_option linter.unusedSimpArgs false

set_option maxHeartbeats 1000000 in
set_option maxRecDepth 100000 in
theorem mixed_any (st : List Int) (hs8 : st.length = 8) (hu : U32 st) (v : Value) (al : List Int) (m : Nat) (w : World) (S : Nat → Prop) (h : RdL tKey w S v (blocksL al m)) :
    Calls Try.prog 117 #[.agg (numsA .u32 st), v] w fun e w' => e = .returned (.agg (numsA .u32 (mixN al st m))) ∧ Ext w w' := by
  obtain ⟨A, cap, rfl, hcap, hlen, hrd, hok⟩ := h
  have HEL := Lib.hid (fun k (hk : k < (blocksL al m).length) => hrd.elem hok k hk)
  have HOK := Lib.hid hok
  have HS8 := Lib.hid hs8
  have HU := Lib.hid hu
  have hbl : (blocksL al m).length = m := by simp [blocksL]
  have HBL := Lib.hid (show ∀ k, (h : k < (blocksL al m).length) → (blocksL al m)[k] = blockL al k from fun k h => by simp [blocksL])
  have HBM := Lib.hid hbl
  rw [hbl] at hcap hlen ⊢
  clear hrd hok hs8 hu
  go_enter Try.func117, Try.ntmps117
  go_wp2_with fail
  go_loopw [9] (fun q wr => ∃ (k : Nat) (z : Array Value), k ≤ m ∧ q = .int .i64 k ∧ z.size = 8 ∧ Blk wr w.heap.size 154 (numsA .u32 (mixN al st k)) ∧ Blk wr (w.heap.size + 1) 154 z ∧ Ext w wr) (fun q _ => m - (intOf q).toNat)
  case atStart => exact ⟨0, _, by omega, rfl, rfl, by rw [mixN_zero]; exact (Blk.new w _ _).alloc _, Blk.new' (by simp) _ _, (ext_alloc _ _).alloc _⟩
  case round =>
    obtain ⟨k, z, hk, rfl, hz, hb0, hb1, hx⟩ := hrel
    have HX := Lib.hid hx
    have HB0 := Lib.hid hb0
    have HB1 := Lib.hid hb1
    clear hx hb0 hb1
    by_cases hlt : k < m
    · obtain ⟨g, o, rfl, hs, hc⟩ := HEL.out k (by rw [HBM.out]; exact hlt)
      have hK := HOK.out _ (List.getElem_mem (l := blocksL al m) (n := k) (by rw [HBM.out]; exact hlt))
      rw [HBL.out] at hc hK
      have hbl : (blockL al k).length = 32 := hK.1
      have hck : ∀ j u, (nums .u8 (blockL al k))[j]? = some u → wr.cell? ((⟨g, o + k * 32, none⟩ : Addr).add j) = some u := by
        intro j u hu
        rw [Addr.add_lit]
        exact HX.out.cell (hc j u hu)
      have HCK := Lib.hid hck
      have HK := Lib.hid (show K32 (blockL al k) from hK)
      have hs := mixN_length al st k HS8.out
      have hu := mixN_ok al st k HU.out
      have HN := Lib.hid (mixN_succ al st k)
      have lt1 := HB1.out.lt
      generalize mixN al st k = s at *
      generalize blockL al k = blk at *
      have hb0 := (HB0.out.alloc (.cells #[Value.int .u8 0, Value.int .u8 0, Value.int .u8 0, Value.int .u8 0, Value.int .u8 0, Value.int .u8 0, Value.int .u8 0, Value.int .u8 0, Value.int .u8 0, Value.int .u8 0, Value.int .u8 0, Value.int .u8 0, Value.int .u8 0, Value.int .u8 0, Value.int .u8 0, Value.int .u8 0, Value.int .u8 0, Value.int .u8 0, Value.int .u8 0, Value.int .u8 0, Value.int .u8 0, Value.int .u8 0, Value.int .u8 0, Value.int .u8 0, Value.int .u8 0, Value.int .u8 0, Value.int .u8 0, Value.int .u8 0, Value.int .u8 0, Value.int .u8 0, Value.int .u8 0, Value.int .u8 0] 40)).row_far (by omega : w.heap.size ≠ wr.heap.size) (numsA .u8 blk)
      have hb1 := (HB1.out.alloc (.cells #[Value.int .u8 0, Value.int .u8 0, Value.int .u8 0, Value.int .u8 0, Value.int .u8 0, Value.int .u8 0, Value.int .u8 0, Value.int .u8 0, Value.int .u8 0, Value.int .u8 0, Value.int .u8 0, Value.int .u8 0, Value.int .u8 0, Value.int .u8 0, Value.int .u8 0, Value.int .u8 0, Value.int .u8 0, Value.int .u8 0, Value.int .u8 0, Value.int .u8 0, Value.int .u8 0, Value.int .u8 0, Value.int .u8 0, Value.int .u8 0, Value.int .u8 0, Value.int .u8 0, Value.int .u8 0, Value.int .u8 0, Value.int .u8 0, Value.int .u8 0, Value.int .u8 0, Value.int .u8 0] 40)).row_far (by omega : w.heap.size + 1 ≠ wr.heap.size) (numsA .u8 blk)
      have hb2 := (Blk.new wr 40 #[Value.int .u8 0, Value.int .u8 0, Value.int .u8 0, Value.int .u8 0, Value.int .u8 0, Value.int .u8 0, Value.int .u8 0, Value.int .u8 0, Value.int .u8 0, Value.int .u8 0, Value.int .u8 0, Value.int .u8 0, Value.int .u8 0, Value.int .u8 0, Value.int .u8 0, Value.int .u8 0, Value.int .u8 0, Value.int .u8 0, Value.int .u8 0, Value.int .u8 0, Value.int .u8 0, Value.int .u8 0, Value.int .u8 0, Value.int .u8 0, Value.int .u8 0, Value.int .u8 0, Value.int .u8 0, Value.int .u8 0, Value.int .u8 0, Value.int .u8 0, Value.int .u8 0, Value.int .u8 0]).setRow (numsA .u8 blk)
      have hx0 := (HX.out.alloc (.cells #[Value.int .u8 0, Value.int .u8 0, Value.int .u8 0, Value.int .u8 0, Value.int .u8 0, Value.int .u8 0, Value.int .u8 0, Value.int .u8 0, Value.int .u8 0, Value.int .u8 0, Value.int .u8 0, Value.int .u8 0, Value.int .u8 0, Value.int .u8 0, Value.int .u8 0, Value.int .u8 0, Value.int .u8 0, Value.int .u8 0, Value.int .u8 0, Value.int .u8 0, Value.int .u8 0, Value.int .u8 0, Value.int .u8 0, Value.int .u8 0, Value.int .u8 0, Value.int .u8 0, Value.int .u8 0, Value.int .u8 0, Value.int .u8 0, Value.int .u8 0, Value.int .u8 0, Value.int .u8 0] 40)).setRow HX.out.size (numsA .u8 blk)
      have G0 := Lib.hid hb0
      have G1 := Lib.hid hb1
      have G2 := Lib.hid hb2
      have GX := Lib.hid hx0
      have HM := Lib.hid (fun W => mixBlock_any s blk hs hu HK.out W)
      have HSS := Lib.hid hs
      clear hc hck hK hb0 hb1 hb2 hx0 hu hs
      go_wp2_with (first
        | (refine wpl_load ⟨g, o + k * 32, none⟩ (nums .u8 blk) (by rw [nums_length, hbl]; exact aggB32) rfl _ rfl rfl HCK.out ?_)
        | (refine wpl_storeN (k := .u8) (xs := blk) (Blk.new wr _ _) aggB32 hbl rfl rfl _ _ rfl rfl rfl rfl ?_)
        | (refine wpl_loadN G0.out aggU32 HSS.out rfl _ rfl rfl ?_)
        | (refine wpl_loadN G2.out aggB32 hbl rfl _ rfl rfl ?_))
      refine (HM.out _).mono ?_
      rintro e w4 ⟨rfl, hx4⟩
      have F0 := Lib.hid (G0.out.ext hx4)
      have F1 := Lib.hid (G1.out.ext hx4)
      have FX := Lib.hid (GX.out.trans hx4)
      have hml := mixL_length s blk HSS.out
      clear hx4
      go_wp2_with (refine wpl_storeN (k := .u32) (xs := mixL s blk) F0.out aggU32 hml (by rw [numsA_size]; exact HSS.out) rfl _ _ rfl rfl rfl rfl ?_)
      go_roundw
      case rel => exact ⟨k + 1, z, by omega, by go_num, hz, by rw [HN.out]; exact F0.out.setRow _, F1.out.row_far (by omega) _, FX.out.setRow (Nat.le_refl _) _⟩
      case measure => simp [intOf]; omega
    · obtain rfl : k = m := by omega
      have hs := mixN_length al st k HS8.out
      go_wp2_with (first
        | (refine wpl_loadN HB0.out aggU32 hs rfl _ rfl rfl ?_)
        | (refine wpl_storeN HB1.out aggU32 hs hz rfl _ _ rfl rfl rfl rfl ?_))
      refine bodyPost_ret (results_blk rfl _ rfl aggU32 hs (HB1.out.setRow _)) rfl ?_
      exact ⟨rfl, HX.out.setRow (by omega) _⟩

end Go.Proofs.Ytikpakhccmdmcaa
