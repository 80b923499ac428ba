/- The program's key of a node; nodes in the laws' words. No condition. -/
import Derived.Test.YtbngjhppngohaaaNodeB
namespace Go.Proofs.Ytbngjhppngohaaa
open Go.RowKit
set_option linter.unusedVariables false
set_option linter.unusedSimpArgs false

theorem aggMapNodeL : Agg Try.prog 64 66 := aggNodeL
theorem aggMapNodeI : Agg Try.prog 69 66 := aggNodeI
set_option maxHeartbeats 1000000 in
set_option maxRecDepth 100000 in
theorem nodeKey_any (x : Nd) (hok : x.ok) (he : entB x.n x.v = true) (w : World) :
    Calls Try.prog 80 #[.agg x.enc.toArray] w fun e w' => e = .returned (.agg (numsA .u8 (hashL 5 (nodeL x)))) ∧ Ext w w' := by
  have hk := (hashL_ok 5 (nodeL x)).1
  have hle := entB_le he
  have hnl := nodeL_length hok
  have Hnl : Hid ((nodeL x).length ≤ 1000) := Lib.hid (by omega)
  have hsz := (Nd.st hok).size
  clear hle hnl
  go_enter Try.func80, Try.ntmps80
  go_wp2_with (refine wpl_loadB ((Blk.new w _ _).alloc _) aggNodeI hsz rfl _ rfl rfl ?_)
  refine (nodeBytes_any x hok he _).mono ?_
  rintro e w1 ⟨v1, rfl, ho, hx⟩
  obtain ⟨A1, n1, c1, rfl⟩ := ho.shape3
  have B1 := Lib.hid ((Blk.new' (g := w.heap.size + 1) (w := w.alloc _) (by simp) 28 _).ext hx)
  have XW := Lib.hid (((ext_alloc w _).alloc _).trans hx)
  have HO := Lib.hid ho
  clear hx ho
  go_wp2_with fail
  refine (hash_any 5 (by decide) _ (nodeL x) _ _ HO.out.rd (by have := Hnl.out; omega)).mono ?_
  rintro e w2 ⟨rfl, hx⟩
  replace B1 := Lib.hid (B1.out.ext hx)
  replace XW := Lib.hid (XW.out.trans hx)
  clear hx HO
  go_wp2_with (refine wpl_storeN B1.out aggKey hk rfl rfl _ _ rfl rfl rfl rfl ?_)
  refine bodyPost_ret (results_blk rfl _ rfl aggKey hk (B1.out.setRow _)) rfl ?_
  exact ⟨rfl, XW.out.setRow (by omega) _⟩
set_option maxHeartbeats 1000000 in
set_option maxRecDepth 100000 in
theorem implMapNodeKey_any (x : Nd) (hok : x.ok) (w : World) :
    Calls Try.prog 45 #[.agg x.enc.toArray] w fun e w' => e = .returned (.tuple #[.agg (numsA .u8 (nodeKR x).1), .int .i64 (nodeKR x).2]) ∧ Ext w w' := by
  have hk := (hashL_ok 5 (nodeL x)).1
  have hc := validEntry_any x.n x.v hok.2.2.1 hok.2.2.2
  have hsz := (Nd.st hok).size
  cases hb : entB x.n x.v with
  | true =>
    have HE := Lib.hid hb
    simp only [nodeKR, hb, if_true]
    simp only [hb] at hc
    clear hb
    go_enter Try.func45, Try.ntmps45
    go_wp2_with (refine wpl_loadP (off := 64) (sub := #[.string x.n, .string x.v]) ((Blk.new w _ _).alloc _) aggEntryI rfl (Nd.ent hok) rfl _ rfl rfl ?_)
    refine (hc _).mono ?_
    rintro e w1 ⟨rfl, hx⟩
    have B0 := Lib.hid (((Blk.new w 69 x.enc.toArray).alloc _).ext hx)
    have B1 := Lib.hid ((Blk.new' (g := w.heap.size + 1) (w := w.alloc _) (by simp) 28 _).ext hx)
    have XW := Lib.hid (((ext_alloc w _).alloc _).trans hx)
    clear hx
    go_wp2_with (refine wpl_loadB B0.out aggNodeI hsz rfl _ rfl rfl ?_)
    refine (nodeKey_any x hok HE.out _).mono ?_
    rintro e w2 ⟨rfl, hx⟩
    replace B1 := Lib.hid (B1.out.ext hx)
    replace XW := Lib.hid (XW.out.trans hx)
    clear hx B0
    go_wp2_with (refine wpl_storeN B1.out aggKey hk rfl rfl _ _ rfl rfl rfl rfl ?_)
    refine bodyPost_ret (results_blk2 rfl _ rfl aggKey hk (B1.out.setRow _) rfl) rfl ?_
    exact ⟨rfl, XW.out.setRow (by omega) _⟩
  | false =>
    simp only [nodeKR, hb, Bool.false_eq_true, if_false]
    simp only [hb] at hc
    clear hb
    go_enter Try.func45, Try.ntmps45
    go_wp2_with (refine wpl_loadP (off := 64) (sub := #[.string x.n, .string x.v]) ((Blk.new w _ _).alloc _) aggEntryI rfl (Nd.ent hok) rfl _ rfl rfl ?_)
    refine (hc _).mono ?_
    rintro e w1 ⟨rfl, hx⟩
    have B1 := Lib.hid ((Blk.new' (g := w.heap.size + 1) (w := w.alloc _) (by simp) 28 _).ext hx)
    have XW := Lib.hid (((ext_alloc w _).alloc _).trans hx)
    clear hx
    go_wp2_with (refine wpl_storeN (xs := List.replicate 32 0) B1.out aggKey rfl rfl rfl _ _ rfl rfl rfl rfl ?_)
    refine bodyPost_ret (results_blk2 rfl _ rfl aggKey rfl (B1.out.setRow _) rfl) rfl ?_
    exact ⟨rfl, XW.out.setRow (by omega) _⟩
theorem specMapNodeKey_u (cs : Array Value) (x : Nd) (w : World) (S : Nat → Prop) (h : RMapNode w S cs x) :
    Calls Try.prog 43 #[.agg cs] w fun e w' => e = .returned (.tuple #[.agg (numsA .u8 (nodeKR x).1), .int .i64 (nodeKR x).2]) ∧ Ext w w' := by
  obtain ⟨rfl, h⟩ := h
  exact specMapNodeKey_any x h w
theorem implMapNodeKey_u (cs : Array Value) (x : Nd) (w : World) (S : Nat → Prop) (h : RMapNode w S cs x) :
    Calls Try.prog 45 #[.agg cs] w fun e w' => e = .returned (.tuple #[.agg (numsA .u8 (nodeKR x).1), .int .i64 (nodeKR x).2]) ∧ Ext w w' := by
  obtain ⟨rfl, h⟩ := h
  exact implMapNodeKey_any x h w

end Go.Proofs.Ytbngjhppngohaaa
