/- The bytes and the key of a node. No condition. -/
import Derived.Test.YtikpakhccmdmcaaFill
import Derived.Test.YtikpakhccmdmcaaPrioFns
namespace Go.Proofs.Ytikpakhccmdmcaa
open Go.RowKit
set_option linter.unusedVariables false
set_option linter.unusedSimpArgs false

theorem rd_of {w : World} {S : Nat → Prop} {A : Option Addr} {n c : Nat} {xs : List Int} (h : RdL tByte w S (.slice A n c) xs) : Rd w S tByte.sz A xs.length (xs.flatMap tByte.enc) ∧ (∀ y ∈ xs, tByte.ok y) ∧ n = xs.length := by
  obtain ⟨A2, cap2, e, _, _, h1, h2⟩ := h
  injection e with e1 e2 e3
  subst e1
  exact ⟨h1, h2, e2⟩
/-- the bytes of a node -/
@[irreducible] def nodeL (x : Nd) : List Int := x.l ++ x.r ++ [(x.n.size : Int) % 256] ++ strL x.n ++ strL x.v
theorem nodeL_eq (x : Nd) : nodeL x = x.l ++ x.r ++ [(x.n.size : Int) % 256] ++ strL x.n ++ strL x.v := by rw [nodeL]
theorem nodeL_length {x : Nd} (h : x.ok) : (nodeL x).length = 65 + x.n.size + x.v.size := by
  rw [nodeL]; simp only [List.length_append, strL_length, h.1.1, h.2.1.1, List.length_cons, List.length_nil]
set_option maxHeartbeats 1000000 in
set_option maxRecDepth 100000 in
theorem l04Bytes_any (x : Nd) (hok : x.ok) (he : entB x.n x.v = true) (b : Nat) (w : World) (hb : Blk w b 60 x.enc.toArray) :
    Calls Try.prog 111 #[.pointer (some ⟨b, 0, none⟩)] w fun e w' => ∃ v', e = .returned v' ∧ Own tByte 5 w' w.heap.size v' (nodeL x) ∧ Ext w w' := by
  obtain ⟨hn1, hn2, hv⟩ := entB_le he
  have HB := Lib.hid hb
  have HL := Lib.hid hok.1.1
  have HR := Lib.hid hok.2.1.1
  have HLb := Lib.hid hok.1.2
  have HRb := Lib.hid hok.2.1.2
  have HO := Lib.hid hok
  clear hb hok he
  go_enter Try.func111, Try.ntmps111
  go_wp2_with fail
  go_loopw [3, 4] (fun o i wr => ∃ k : Nat, k ≤ 32 ∧ i = .int .i64 k ∧ Own tByte 5 wr w.heap.size o (x.l.take k) ∧ Ext w wr) (fun _ i _ => 32 - (intOf i).toNat)
  case atStart => exact ⟨0, by omega, rfl, by rw [List.take_zero]; exact Own.empty' tByte rfl _ _ (Nat.le_refl _), ext_alloc _ _⟩
  case round =>
    obtain ⟨k, hk, rfl, ho, hx⟩ := hrel
    have HO1 := Lib.hid ho
    have HX := Lib.hid hx
    obtain ⟨C, cn, cc, rfl⟩ := ho.shape3
    clear ho hx
    by_cases hlt : k < 32
    · have hd : wr.cell? ⟨b, k, none⟩ = some (.int .u8 (gI x.l k)) := by
        have := (HB.out.ext HX.out).at_ (0 + k) (Nd.left HO.out k _ (numsA_at .u8 x.l k (by rw [HL.out]; exact hlt)))
        rwa [Nat.zero_add] at this
      have hu := HLb.out.get k
      have HS2 := Lib.hid (take_snoc x.l k (by rw [HL.out]; exact hlt))
      go_wp2_with (at_builtin; refine wpl_append rowByte rfl _ _ rfl (v := .slice C cn cc) rfl (HO1.out.alloc _) _ _ rfl (A := some ⟨wr.heap.size, 0, none⟩) (ys := [gI x.l k]) rfl (rd_byte wr (gI x.l k) hu _) (okOne hu) (by simp; omega) (HX.out.alloc _).size ?_; intro v9 w9 ho1 hg1 hat1; have HX9 := Lib.hid ((HO1.out.alloc _).ext_app (HX.out.alloc _) hg1); have HO9 := Lib.hid ho1; clear ho1 hg1 hat1)
      go_roundw
      case rel => exact ⟨k + 1, by omega, by go_num, by rw [HS2.out]; exact HO9.out, HX9.out⟩
      case measure => simp [intOf]; omega
    · obtain rfl : k = 32 := by omega
      have e : x.l.take 32 = x.l := List.take_of_length_le (by rw [HL.out]; exact Nat.le_refl _)
      rw [e] at HO1
      clear e
      simp only [Int.cast_ofNat_Int]
      go_wp2_with fail
      go_loopw [3, 5] (fun o i wr => ∃ k : Nat, k ≤ 32 ∧ i = .int .i64 k ∧ Own tByte 5 wr w.heap.size o (x.l ++ x.r.take k) ∧ Ext w wr) (fun _ i _ => 32 - (intOf i).toNat)
      case atStart => exact ⟨0, by omega, rfl, by rw [List.take_zero, List.append_nil]; exact HO1.out, HX.out⟩
      case round =>
        clear HO1 HX hlt hk
        obtain ⟨k, hk, rfl, ho, hx⟩ := hrel
        have HO1 := Lib.hid ho
        have HX := Lib.hid hx
        obtain ⟨D, dn, dc, rfl⟩ := ho.shape3
        clear ho hx
        by_cases hlt : k < 32
        · have hd : wr.cell? ⟨b, 32 + k, none⟩ = some (.int .u8 (gI x.r k)) := 
            (HB.out.ext HX.out).at_ (32 + k) (Nd.right HO.out k _ (numsA_at .u8 x.r k (by rw [HR.out]; exact hlt)))
          have hu := HRb.out.get k
          have HS2 := Lib.hid (take_snoc x.r k (by rw [HR.out]; exact hlt))
          go_wp2_with (at_builtin; refine wpl_append rowByte rfl _ _ rfl (v := .slice D dn dc) rfl (HO1.out.alloc _) _ _ rfl (A := some ⟨wr.heap.size, 0, none⟩) (ys := [gI x.r k]) rfl (rd_byte wr (gI x.r k) hu _) (okOne hu) (by simp [HL.out]; omega) (HX.out.alloc _).size ?_; intro v9 w9 ho1 hg1 hat1; have HX9 := Lib.hid ((HO1.out.alloc _).ext_app (HX.out.alloc _) hg1); have HO9 := Lib.hid ho1; clear ho1 hg1 hat1)
          go_roundw
          case rel => exact ⟨k + 1, by omega, by go_num, by rw [HS2.out, ← List.append_assoc]; exact HO9.out, HX9.out⟩
          case measure => simp [intOf]; omega
        · obtain rfl : k = 32 := by omega
          have e : x.r.take 32 = x.r := List.take_of_length_le (by rw [HR.out]; exact Nat.le_refl _)
          rw [e] at HO1
          clear e
          simp only [Int.cast_ofNat_Int]
          have c0 := (HB.out.ext HX.out).at_ 64 (Nd.at64 HO.out)
          have W1 : IntKind.u8.wrap (x.n.size : Int) = x.n.size := by rw [IntKind.wrap_u8]; omega
          have hl1 := strL_length x.n
          have hl2 := strL_length x.v
          have Hl1 := Lib.hid hl1
          have Hl2 := Lib.hid hl2
          have Hlen : Hid ((x.l ++ x.r).length = 64) := Lib.hid (by simp [HL.out, HR.out])
          clear hl1 hl2
          have hu : (0 : Int) ≤ x.n.size ∧ (x.n.size : Int) ≤ 255 := by omega
          go_wp2_with (first
            | (at_builtin; refine wpl_append rowByte rfl _ _ rfl (v := .slice D dn dc) rfl (HO1.out.alloc _) _ _ rfl (A := some ⟨wr.heap.size, 0, none⟩) (ys := [(x.n.size : Int)]) rfl (rd_byte wr (x.n.size : Int) hu _) (okOne hu) (by rw [Hlen.out]; simp) (HX.out.alloc _).size ?_; intro v9 w9 ho1 hg1 hat1; obtain ⟨E1, en, ec, rfl⟩ := ho1.shape3; have HX9 := Lib.hid ((HO1.out.alloc _).ext_app (HX.out.alloc _) hg1); have HO9 := Lib.hid ho1; have c1 := (HB.out.ext HX9.out).at_ 64 (Nd.at64 HO.out); clear ho1 hg1 hat1)
            | (refine wpl_conv (s := x.n) Try.underlying9 Try.underlying126 Try.underlying5 rfl _ rfl rfl (by omega) ?_; intro A1 k1 w10 hr hx; have HX10 := Lib.hid (HX9.out.trans hx); have HO10 := Lib.hid (HO9.out.ext hx); have HR10 := Lib.hid (rd_of hr); clear hr hx)
            | (at_builtin; refine wpl_append rowByte rfl _ _ rfl (v := .slice E1 en ec) rfl HO10.out _ _ rfl (ys := strL x.n) HR10.out.2.2 HR10.out.1 HR10.out.2.1 (by rw [List.length_append, Hlen.out, Hl1.out]; simp; omega) HX10.out.size ?_; intro v11 w11 ho1 hg1 hat1; obtain ⟨G1, gn, gc, rfl⟩ := ho1.shape3; have HX11 := Lib.hid (HO10.out.ext_app HX10.out hg1); have HO11 := Lib.hid ho1; have c2 := (HB.out.ext HX11.out).at_ 65 (Nd.at65 HO.out); clear ho1 hg1 hat1)
            | (refine wpl_conv (s := x.v) Try.underlying9 Try.underlying126 Try.underlying5 rfl _ rfl rfl (by omega) ?_; intro A2 k2 w12 hr hx; have HX12 := Lib.hid (HX11.out.trans hx); have HO12 := Lib.hid (HO11.out.ext hx); have HR12 := Lib.hid (rd_of hr); clear hr hx)
            | (at_builtin; refine wpl_append rowByte rfl _ _ rfl (v := .slice G1 gn gc) rfl HO12.out _ _ rfl (ys := strL x.v) HR12.out.2.2 HR12.out.1 HR12.out.2.1 (by rw [List.length_append, List.length_append, Hlen.out, Hl1.out, Hl2.out]; simp; omega) HX12.out.size ?_; intro v13 w13 ho1 hg1 hat1; have HX13 := Lib.hid (HO12.out.ext_app HX12.out hg1); have HO13 := Lib.hid ho1; clear ho1 hg1 hat1))
          go_ret
          refine ⟨_, rfl, ?_, HX13.out⟩
          have := HO13.out
          rw [nodeL_eq, show (x.n.size : Int) % 256 = x.n.size by omega]
          exact this
set_option maxHeartbeats 1000000 in
set_option maxRecDepth 100000 in
theorem l04NodeKey_any (x : Nd) (hok : x.ok) (he : entB x.n x.v = true) (b : Nat) (w : World) (hb : Blk w b 60 x.enc.toArray) :
    Calls Try.prog 90 #[.pointer (some ⟨b, 0, none⟩)] w fun e w' => e = .returned (.agg (numsA .u8 (hashL 5 (nodeL x)))) ∧ Ext w w' := by
  have hk := (hashL_ok 5 (nodeL x)).1
  have hle := entB_le he
  have hnl := nodeL_length hok
  have Hnl : Hid ((nodeL x).length ≤ 1000) := Lib.hid (by omega)
  have HB := Lib.hid hb
  clear hb hle hnl
  go_enter Try.func90, Try.ntmps90
  go_wp2_with fail
  refine (l04Bytes_any x hok he b _ (HB.out.alloc _)).mono ?_
  rintro e w1 ⟨v1, rfl, ho, hx⟩
  obtain ⟨A1, n1, c1, rfl⟩ := ho.shape3
  have B1 := Lib.hid ((Blk.new w 45 _).ext hx)
  have XW := Lib.hid ((ext_alloc w _).trans hx)
  have HO := Lib.hid ho
  clear hx ho
  go_wp2_with fail
  refine (l01Hash_any 5 (by decide) _ (nodeL x) _ _ HO.out.rd (by have := Hnl.out; omega)).mono ?_
  rintro e w2 ⟨rfl, hx⟩
  replace B1 := Lib.hid (B1.out.ext hx)
  replace XW := Lib.hid (XW.out.trans hx)
  clear hx HO
  go_wp2_with (refine wpl_storeN B1.out aggKey hk rfl rfl _ _ rfl rfl rfl rfl ?_)
  refine bodyPost_ret (results_blk rfl _ rfl aggKey hk (B1.out.setRow _)) rfl ?_
  exact ⟨rfl, XW.out.setRow (by omega) _⟩
/-- the key of a node, and the code -/
def nodeKR (x : Nd) : List Int × Int := if entB x.n x.v then (hashL 5 (nodeL x), 0) else (List.replicate 32 0, 1)
theorem nodeKR_ok (x : Nd) : K32 (nodeKR x).1 := by unfold nodeKR; split; exact hashL_ok _ _; exact zero_ok
end Go.Proofs.Ytikpakhccmdmcaa
