/- What the walk of the law FnChanges needs, part 6 of 7. No condition. -/
import Derived.Laws.StructEq
import Derived.Test.YtmndkbheehcoaaaPFnChanges5
/- The key of a node that lies in a row. No condition. -/
namespace Go.Proofs.Ytmndkbheehcoaaa
open Go.RowKit
set_option linter.unusedVariables false
set_option linter.unusedSimpArgs false

set_option maxHeartbeats 1000000 in
set_option maxRecDepth 100000 in
theorem l04BytesAt_any (x : Nd) (hok : x.ok) (he : entB x.n x.v = true) (b off : Nat) (w : World) (hb : ∀ W, Ext w W → ∀ j u, x.enc.toArray[j]? = some u → W.cell? ⟨b, off + j, none⟩ = some u) :
    Calls Try.prog 141 #[.pointer (some ⟨b, off, none⟩)] w fun e w' => ∃ v', e = .returned v' ∧ Own tByte 5 w' w.heap.size v' (nodeL x) ∧ Ext w w' := by
  obtain ⟨hn1, hn2, hv⟩ := entB_le he
  have HB := Lib.hid hb
  have HL := Lib.hid hok.1.1
  have HR := Lib.hid hok.2.1.1
  have HLb := Lib.hid hok.1.2
  have HRb := Lib.hid hok.2.1.2
  have HO := Lib.hid hok
  clear hb hok he
  go_enter Try.func141, Try.ntmps141
  go_wp2_with fail
  go_loopw [3, 4] (fun o i wr => ∃ k : Nat, k ≤ 32 ∧ i = .int .i64 k ∧ Own tByte 5 wr w.heap.size o (x.l.take k) ∧ Ext w wr) (fun _ i _ => 32 - (intOf i).toNat)
  case atStart => exact ⟨0, by omega, rfl, by rw [List.take_zero]; exact Own.empty' tByte rfl _ _ (Nat.le_refl _), ext_alloc _ _⟩
  case round =>
    obtain ⟨k, hk, rfl, ho, hx⟩ := hrel
    have HO1 := Lib.hid ho
    have HX := Lib.hid hx
    obtain ⟨C, cn, cc, rfl⟩ := ho.shape3
    clear ho hx
    by_cases hlt : k < 32
    · have hd : wr.cell? ⟨b, off + k, none⟩ = some (.int .u8 (gI x.l k)) := by
        have := HB.out _ HX.out (0 + k) _ (Nd.left HO.out k _ (numsA_at .u8 x.l k (by rw [HL.out]; exact hlt)))
        rwa [Nat.zero_add] at this
      have hu := HLb.out.get k
      have HS2 := Lib.hid (take_snoc x.l k (by rw [HL.out]; exact hlt))
      go_wp2_with (at_builtin; refine wpl_append rowByte rfl _ _ rfl (v := .slice C cn cc) rfl (HO1.out.alloc _) _ _ rfl (A := some ⟨wr.heap.size, 0, none⟩) (ys := [gI x.l k]) rfl (rd_byte wr (gI x.l k) hu _) (okOne hu) (by simp; omega) (HX.out.alloc _).size ?_; intro v9 w9 ho1 hg1 hat1; have HX9 := Lib.hid ((HO1.out.alloc _).ext_app (HX.out.alloc _) hg1); have HO9 := Lib.hid ho1; clear ho1 hg1 hat1)
      go_roundw
      case rel => exact ⟨k + 1, by omega, by go_num, by rw [HS2.out]; exact HO9.out, HX9.out⟩
      case measure => simp [intOf]; omega
    · obtain rfl : k = 32 := by omega
      have e : x.l.take 32 = x.l := List.take_of_length_le (by rw [HL.out]; exact Nat.le_refl _)
      rw [e] at HO1
      clear e
      simp only [Int.cast_ofNat_Int]
      go_wp2_with fail
      go_loopw [3, 5] (fun o i wr => ∃ k : Nat, k ≤ 32 ∧ i = .int .i64 k ∧ Own tByte 5 wr w.heap.size o (x.l ++ x.r.take k) ∧ Ext w wr) (fun _ i _ => 32 - (intOf i).toNat)
      case atStart => exact ⟨0, by omega, rfl, by rw [List.take_zero, List.append_nil]; exact HO1.out, HX.out⟩
      case round =>
        clear HO1 HX hlt hk
        obtain ⟨k, hk, rfl, ho, hx⟩ := hrel
        have HO1 := Lib.hid ho
        have HX := Lib.hid hx
        obtain ⟨D, dn, dc, rfl⟩ := ho.shape3
        clear ho hx
        by_cases hlt : k < 32
        · have hd : wr.cell? ⟨b, off + 32 + k, none⟩ = some (.int .u8 (gI x.r k)) := by
            have := HB.out _ HX.out (32 + k) _ (Nd.right HO.out k _ (numsA_at .u8 x.r k (by rw [HR.out]; exact hlt)))
            rwa [← Nat.add_assoc] at this
          have hu := HRb.out.get k
          have HS2 := Lib.hid (take_snoc x.r k (by rw [HR.out]; exact hlt))
          go_wp2_with (at_builtin; refine wpl_append rowByte rfl _ _ rfl (v := .slice D dn dc) rfl (HO1.out.alloc _) _ _ rfl (A := some ⟨wr.heap.size, 0, none⟩) (ys := [gI x.r k]) rfl (rd_byte wr (gI x.r k) hu _) (okOne hu) (by simp [HL.out]; omega) (HX.out.alloc _).size ?_; intro v9 w9 ho1 hg1 hat1; have HX9 := Lib.hid ((HO1.out.alloc _).ext_app (HX.out.alloc _) hg1); have HO9 := Lib.hid ho1; clear ho1 hg1 hat1)
          go_roundw
          case rel => exact ⟨k + 1, by omega, by go_num, by rw [HS2.out, ← List.append_assoc]; exact HO9.out, HX9.out⟩
          case measure => simp [intOf]; omega
        · obtain rfl : k = 32 := by omega
          have e : x.r.take 32 = x.r := List.take_of_length_le (by rw [HR.out]; exact Nat.le_refl _)
          rw [e] at HO1
          clear e
          simp only [Int.cast_ofNat_Int]
          have c0 := HB.out _ HX.out 64 _ (Nd.at64 HO.out)
          have W1 : IntKind.u8.wrap (x.n.size : Int) = x.n.size := by rw [IntKind.wrap_u8]; omega
          have hl1 := strL_length x.n
          have hl2 := strL_length x.v
          have Hl1 := Lib.hid hl1
          have Hl2 := Lib.hid hl2
          have Hlen : Hid ((x.l ++ x.r).length = 64) := Lib.hid (by simp [HL.out, HR.out])
          clear hl1 hl2
          have hu : (0 : Int) ≤ x.n.size ∧ (x.n.size : Int) ≤ 255 := by omega
          go_wp2_with (first
            | (at_builtin; refine wpl_append rowByte rfl _ _ rfl (v := .slice D dn dc) rfl (HO1.out.alloc _) _ _ rfl (A := some ⟨wr.heap.size, 0, none⟩) (ys := [(x.n.size : Int)]) rfl (rd_byte wr (x.n.size : Int) hu _) (okOne hu) (by rw [Hlen.out]; simp) (HX.out.alloc _).size ?_; intro v9 w9 ho1 hg1 hat1; obtain ⟨E1, en, ec, rfl⟩ := ho1.shape3; have HX9 := Lib.hid ((HO1.out.alloc _).ext_app (HX.out.alloc _) hg1); have HO9 := Lib.hid ho1; have c1 := HB.out _ HX9.out 64 _ (Nd.at64 HO.out); clear ho1 hg1 hat1)
            | (refine wpl_conv (s := x.n) Try.underlying9 Try.underlying56 Try.underlying5 rfl _ rfl rfl (by omega) ?_; intro A1 k1 w10 hr hx; have HX10 := Lib.hid (HX9.out.trans hx); have HO10 := Lib.hid (HO9.out.ext hx); have HR10 := Lib.hid (rd_of hr); clear hr hx)
            | (at_builtin; refine wpl_append rowByte rfl _ _ rfl (v := .slice E1 en ec) rfl HO10.out _ _ rfl (ys := strL x.n) HR10.out.2.2 HR10.out.1 HR10.out.2.1 (by rw [List.length_append, Hlen.out, Hl1.out]; simp; omega) HX10.out.size ?_; intro v11 w11 ho1 hg1 hat1; obtain ⟨G1, gn, gc, rfl⟩ := ho1.shape3; have HX11 := Lib.hid (HO10.out.ext_app HX10.out hg1); have HO11 := Lib.hid ho1; have c2 := HB.out _ HX11.out 65 _ (Nd.at65 HO.out); clear ho1 hg1 hat1)
            | (refine wpl_conv (s := x.v) Try.underlying9 Try.underlying56 Try.underlying5 rfl _ rfl rfl (by omega) ?_; intro A2 k2 w12 hr hx; have HX12 := Lib.hid (HX11.out.trans hx); have HO12 := Lib.hid (HO11.out.ext hx); have HR12 := Lib.hid (rd_of hr); clear hr hx)
            | (at_builtin; refine wpl_append rowByte rfl _ _ rfl (v := .slice G1 gn gc) rfl HO12.out _ _ rfl (ys := strL x.v) HR12.out.2.2 HR12.out.1 HR12.out.2.1 (by rw [List.length_append, List.length_append, Hlen.out, Hl1.out, Hl2.out]; simp; omega) HX12.out.size ?_; intro v13 w13 ho1 hg1 hat1; have HX13 := Lib.hid (HO12.out.ext_app HX12.out hg1); have HO13 := Lib.hid ho1; clear ho1 hg1 hat1))
          go_ret
          refine ⟨_, rfl, ?_, HX13.out⟩
          have := HO13.out
          rw [nodeL_eq, show (x.n.size : Int) % 256 = x.n.size by omega]
          exact this
set_option maxHeartbeats 1000000 in
set_option maxRecDepth 100000 in
theorem l04NodeKeyAt_any (x : Nd) (hok : x.ok) (he : entB x.n x.v = true) (b off : Nat) (w : World) (hb : ∀ W, Ext w W → ∀ j u, x.enc.toArray[j]? = some u → W.cell? ⟨b, off + j, none⟩ = some u) :
    Calls Try.prog 98 #[.pointer (some ⟨b, off, none⟩)] w fun e w' => e = .returned (.agg (numsA .u8 (hashL 5 (nodeL x)))) ∧ Ext w w' := by
  have hk := (hashL_ok 5 (nodeL x)).1
  have hle := entB_le he
  have hnl := nodeL_length hok
  have Hnl : Hid ((nodeL x).length ≤ 1000) := Lib.hid (by omega)
  have HB := Lib.hid hb
  clear hb hle hnl
  go_enter Try.func98, Try.ntmps98
  go_wp2_with fail
  refine (l04BytesAt_any x hok he b off _ (fun W hW => HB.out W ((ext_alloc _ _).trans hW))).mono ?_
  rintro e w1 ⟨v1, rfl, ho, hx⟩
  obtain ⟨A1, n1, c1, rfl⟩ := ho.shape3
  have B1 := Lib.hid ((Blk.new w 27 _).ext hx)
  have XW := Lib.hid ((ext_alloc w _).trans hx)
  have HO := Lib.hid ho
  clear hx ho
  go_wp2_with fail
  refine (l01Hash_any 5 (by decide) _ (nodeL x) _ _ HO.out.rd (by have := Hnl.out; omega)).mono ?_
  rintro e w2 ⟨rfl, hx⟩
  replace B1 := Lib.hid (B1.out.ext hx)
  replace XW := Lib.hid (XW.out.trans hx)
  clear hx HO
  go_wp2_with (refine wpl_storeN B1.out aggKey hk rfl rfl _ _ rfl rfl rfl rfl ?_)
  refine bodyPost_ret (results_blk rfl _ rfl aggKey hk (B1.out.setRow _)) rfl ?_
  exact ⟨rfl, XW.out.setRow (by omega) _⟩
end Go.Proofs.Ytmndkbheehcoaaa
/- Arrays of bytes held against each other by == and !=. No condition. -/
namespace Go.Proofs.Ytmndkbheehcoaaa
open Go.RowKit
set_option linter.unusedVariables false
set_option linter.unusedSimpArgs false

def eqArr (d : Nat) (e : TypeId) (n : Nat) (xs ys : Array Value) : List Nat → Sem Bool
  | [] => pure true
  | i :: is => do
    let a ← part e xs (i * n)
    let b ← part e ys (i * n)
    let r ← Op.equalIn d e a b
    if (!r) = true then pure false else eqArr d e n xs ys is
section
variable {P : Program} (w : World)
theorem run_equalIn_array (d : Nat) (t e : TypeId) (len n : Nat) (xs ys : Array Value) (ht : P.underlying t = some (.array len e)) (hn : ∀ w, (sizeOf e).run P w = .ok n w) :
    (Op.equalIn (d + 1) t (.agg xs) (.agg ys)).run P w = (eqArr d e n xs ys (List.range' 0 len)).run P w := by
  simp only [Op.equalIn, Sem.run_bind, run_underlying ht, Result.andThen_ok, hn]
  rw [Std.Legacy.Range.forIn_eq_forIn_range']
  simp only [Std.Legacy.Range.size, Nat.sub_zero, Nat.add_sub_cancel, Nat.div_one]
  generalize List.range' 0 len = l
  clear ht
  induction l generalizing w with
  | nil => simp [eqArr]
  | cons f fs ih =>
    simp only [List.forIn_cons, eqArr, Sem.run_bind, Sem.run_ite]
    generalize (part e xs (f * n)).run P w = r1
    cases r1 with
    | ok a w1 =>
      simp only [Result.andThen_ok]
      generalize (part e ys (f * n)).run P w1 = r2
      cases r2 with
      | ok b w2 =>
        simp only [Result.andThen_ok]
        generalize (Op.equalIn d e a b).run P w2 = r3
        cases r3 with
        | ok r w3 =>
          cases r
          · simp only [Result.andThen_ok, Bool.not_false, if_true, Sem.run_pure]
          · simp only [Result.andThen_ok, Bool.not_true, Bool.false_eq_true, if_false, Sem.run_pure]
            exact ih w3
        | halt x w3 => simp [Result.andThen]
      | halt x w2 => simp [Result.andThen]
    | halt x w1 => simp [Result.andThen]
theorem run_eqArr (d : Nat) (e : TypeId) (k' : IntKind) (he : P.underlying e = some (.int k')) (k : IntKind) (a b : List Int) (hl : a.length = b.length) (m i : Nat) (hi : i + m = a.length) :
    (eqArr (d + 1) e 1 (numsA k a) (numsA k b) (List.range' i m)).run P w = .ok (decide (a.drop i = b.drop i)) w := by
  have hagg : (isAgg e).run P w = .ok false w := by
    unfold isAgg
    rw [Sem.run_bind, run_underlying he w]
    rfl
  induction m generalizing i with
  | zero =>
    rw [List.drop_eq_nil_of_le (by omega), List.drop_eq_nil_of_le (by omega)]
    simp [eqArr]
  | succ m ih =>
    have h1 : i < a.length := by omega
    have h2 : i < b.length := by omega
    have e1 := numsA_at k a i h1
    have e2 := numsA_at k b i h2
    rw [List.range'_succ]
    simp only [eqArr, Sem.run_bind, part, hagg, Result.andThen_ok, Bool.false_eq_true, if_false, Nat.mul_one, e1, e2, Sem.run_pure, run_equalIn_int w d e k k' _ _ he, Sem.run_ite]
    rw [List.drop_eq_getElem_cons h1, List.drop_eq_getElem_cons h2]
    by_cases hq : gI a i = gI b i
    · have h3 : (gI a i == gI b i) = true := by simpa using hq
      simp only [h3, Bool.not_true, Bool.false_eq_true, if_false]
      rw [ih (i + 1) (by omega)]
      rw [gI_lt h1, gI_lt h2] at hq
      simp only [List.cons.injEq, hq, true_and]
    · have h3 : (gI a i == gI b i) = false := by simpa using hq
      simp only [h3, Bool.not_false, if_true]
      rw [gI_lt h1, gI_lt h2] at hq
      simp only [List.cons.injEq, hq, false_and, decide_false]
end
theorem run_eqKey (a b : List Int) (ha : K32 a) (hb : K32 b) (W : World) : (binOp .eql 27 (.agg (numsA .u8 a)) (.agg (numsA .u8 b))).run Try.prog W = .ok (.bool (decide (a = b))) W := by
  rw [run_eql_struct, run_equalIn_array (P := Try.prog) W 9999 27 5 32 1 _ _ (by kernel_rfl) (fun w => by kernel_rfl), run_eqArr (P := Try.prog) W 9998 5 .u8 (by kernel_rfl) .u8 a b (by rw [ha.1, hb.1]) 32 0 (by rw [ha.1])]
  simp
theorem run_neqKey (a b : List Int) (ha : K32 a) (hb : K32 b) (W : World) : (binOp .neq 27 (.agg (numsA .u8 a)) (.agg (numsA .u8 b))).run Try.prog W = .ok (.bool (!decide (a = b))) W := by
  rw [run_neq_struct, run_equalIn_array (P := Try.prog) W 9999 27 5 32 1 _ _ (by kernel_rfl) (fun w => by kernel_rfl), run_eqArr (P := Try.prog) W 9998 5 .u8 (by kernel_rfl) .u8 a b (by rw [ha.1, hb.1]) 32 0 (by rw [ha.1])]
  simp

end Go.Proofs.Ytmndkbheehcoaaa
/- What a path tells about a name, plainly; which nodes are valid: the reference. No condition. -/
namespace Go.Proofs.Ytmndkbheehcoaaa
open Go.RowKit
set_option linter.unusedVariables false
set_option linter.unusedSimpArgs false

/-- all nodes are valid -/
def okNs (L : List Nd) : Bool := L.all fun x => entB x.n x.v
theorem okNs_bad {L : List Nd} {k : Nat} (hk : k < L.length) (h : entB L[k].n L[k].v = false) : okNs L = false := by
  unfold okNs
  rw [List.all_eq_false]
  exact ⟨L[k], List.getElem_mem hk, by rw [h]; decide⟩
theorem okNs_good {L : List Nd} (h : ∀ p (hp : p < L.length), entB L[p].n L[p].v = true) : okNs L = true := by
  unfold okNs
  rw [List.all_eq_true]
  intro x hx
  obtain ⟨i, hi, rfl⟩ := List.getElem_of_mem hx
  exact h i hi
theorem okNs_at {L : List Nd} (h : okNs L = true) {k : Nat} (hk : k < L.length) : entB L[k].n L[k].v = true := by
  unfold okNs at h
  rw [List.all_eq_true] at h
  exact h _ (List.getElem_mem hk)
attribute [irreducible] okNs
/-- what a path tells: whether the name is there, its value, whether the path is as it should be -/
def ckS (s : ByteArray) (due : List Int) (x : Nd) (last : Bool) (r : Bool × ByteArray × Bool) : Bool × ByteArray × Bool := if hashL 5 (nodeL x) = due then (if x.n = s then (last, x.v, last) else r) else (false, ⟨#[]⟩, false)
def ckF (s : ByteArray) : List Int → List Nd → Bool × ByteArray × Bool
  | due, [] => (false, ⟨#[]⟩, decide (due = emptyL))
  | due, x :: r => ckS s due x r.isEmpty (ckF s (if ltB s x.n then x.l else x.r) r)
theorem ckF_nil (s : ByteArray) (due : List Int) : ckF s due [] = (false, ⟨#[]⟩, decide (due = emptyL)) := rfl
theorem ckF_cons (s : ByteArray) (due : List Int) (x : Nd) (r : List Nd) : ckF s due (x :: r) = ckS s due x r.isEmpty (ckF s (if ltB s x.n then x.l else x.r) r) := rfl
attribute [irreducible] ckF
theorem ckS_bad {s : ByteArray} {due : List Int} {x : Nd} (last : Bool) (r : Bool × ByteArray × Bool) (h : hashL 5 (nodeL x) ≠ due) : ckS s due x last r = (false, ⟨#[]⟩, false) := by rw [ckS, if_neg h]
theorem ckS_hit {s : ByteArray} {due : List Int} {x : Nd} (last : Bool) (r : Bool × ByteArray × Bool) (h : hashL 5 (nodeL x) = due) (h2 : x.n = s) : ckS s due x last r = (last, x.v, last) := by rw [ckS, if_pos h, if_pos h2]
theorem ckS_on {s : ByteArray} {due : List Int} {x : Nd} (last : Bool) (r : Bool × ByteArray × Bool) (h : hashL 5 (nodeL x) = due) (h2 : x.n ≠ s) : ckS s due x last r = r := by rw [ckS, if_pos h, if_neg h2]
/-- what CheckName returns -/
def chkR (root : List Int) (s : ByteArray) (L : List Nd) : Bool × ByteArray × Int :=
  if nameB s && okNs L then (if 64 < L.length then (false, ⟨#[]⟩, 3) else if (ckF s root L).2.2 then ((ckF s root L).1, (ckF s root L).2.1, 0) else (false, ⟨#[]⟩, 8)) else (false, ⟨#[]⟩, 1)
/-- the code of some nodes -/
def givenR (L : List Nd) : Int := if okNs L then (if 64 < L.length then 3 else 0) else 1
theorem Nd.at64' {x : Nd} (h : x.ok) : x.enc.toArray[64]? = some (.string x.n) := Nd.at64 h
set_option maxHeartbeats 1000000 in
set_option maxRecDepth 100000 in
theorem l04Given_any (v : Value) (L : List Nd) (w : World) (S : Nat → Prop) (h : RdL tNd w S v L) :
    Calls Try.prog 78 #[v] w fun e w' => e = .returned (.int .i64 (givenR L)) ∧ Ext w w' := by
  obtain ⟨A, cap, rfl, hcap, hlen, hrd, hok⟩ := h
  have Hrd := Lib.hid hrd
  have Hok := Lib.hid hok
  have HR := Lib.hid (show givenR L = if okNs L then (if 64 < L.length then 3 else 0) else 1 from rfl)
  clear hrd hok
  go_enter Try.func78, Try.ntmps78
  go_wp2
  go_loopw [3] (fun i wr => ∃ k : Nat, k ≤ L.length ∧ i = .int .i64 k ∧ (∀ p (hp : p < L.length), p < k → entB L[p].n L[p].v = true) ∧ Ext w wr) (fun i _ => L.length - (intOf i).toNat)
  case atStart => exact ⟨0, by omega, rfl, fun p hp h => by omega, Ext.refl _⟩
  case round =>
    obtain ⟨k, hk, rfl, hm, hx⟩ := hrel
    have HX := Lib.hid hx
    have HM := Lib.hid hm
    clear hx hm
    by_cases hlt : k < L.length
    · obtain ⟨g, o, rfl, hs0, hc⟩ := Hrd.out.elem Hok.out k hlt
      have hx0 : L[k].ok := Hok.out _ (List.getElem_mem hlt)
      have c0 : wr.cell? ⟨g, o + k * 66 + 64, none⟩ = some (.string L[k].n) := HX.out.cell (hc 64 _ (by have := Nd.at64 hx0; rwa [List.getElem?_toArray] at this))
      have c1 : wr.cell? ⟨g, o + k * 66 + 64 + 1, none⟩ = some (.string L[k].v) := HX.out.cell (hc 65 _ (by have := Nd.at65 hx0; rwa [List.getElem?_toArray] at this))
      have hen := l04Entry_any L[k].n L[k].v hx0.2.2.1 hx0.2.2.2 g (o + k * 66 + 64) wr c0 c1
      have hi : (0 : Int) ≤ (k : Int) := by omega
      have hi2 : (k : Int) < (L.length : Int) := by omega
      clear hc c0 c1 hx0
      cases hb : entB L[k].n L[k].v with
      | true =>
        simp only [hb] at hen
        go_wp2_with fail
        refine hen.mono ?_
        rintro e w' ⟨rfl, rfl⟩
        clear hen
        go_wp2
        go_roundw
        case rel => exact ⟨k + 1, by omega, by go_num, fun p hp h => by
          by_cases e : p = k
          · subst e; exact hb
          · exact HM.out p hp (by omega), HX.out⟩
        case measure => simp [intOf]; omega
      | false =>
        simp only [hb] at hen
        have HQ := Lib.hid (show givenR L = 1 by rw [HR.out, okNs_bad hlt hb]; rfl)
        go_wp2_with fail
        refine hen.mono ?_
        rintro e w' ⟨rfl, rfl⟩
        clear hen
        go_wp2
        go_ret
        exact ⟨by rw [HQ.out]; rfl, HX.out⟩
    · obtain rfl : k = L.length := by omega
      have hg : okNs L = true := okNs_good fun p hp => HM.out p hp hp
      by_cases h64 : 64 < L.length
      · have HQ := Lib.hid (show givenR L = 3 by rw [HR.out, hg, if_pos rfl, if_pos h64])
        have h2 : (64 : Int) < (L.length : Int) := by omega
        go_wp2
        go_ret
        exact ⟨by rw [HQ.out]; rfl, HX.out⟩
      · have HQ := Lib.hid (show givenR L = 0 by rw [HR.out, hg, if_pos rfl, if_neg h64])
        have h2 : ¬ (64 : Int) < (L.length : Int) := by omega
        go_wp2
        go_ret
        exact ⟨by rw [HQ.out]; rfl, HX.out⟩
end Go.Proofs.Ytmndkbheehcoaaa
/- The place of the greatest priority: the reference. No condition. -/
namespace Go.Proofs.Ytmndkbheehcoaaa
open Go.RowKit
set_option linter.unusedVariables false
set_option linter.unusedSimpArgs false

set_option maxHeartbeats 1000000 in
set_option maxRecDepth 100000 in
theorem l04Top_any (v : Value) (L : List En) (h0 : 0 < L.length) (hg : good L) (w : World) (S : Nat → Prop) (h : RdL tEnt w S v L) :
    Calls Try.prog 136 #[v] w fun e w' => e = .returned (.int .i64 (topE L)) ∧ Ext w w' := by
  obtain ⟨A, cap, rfl, hcap, hlen, hrd, hok⟩ := h
  have Hrd := Lib.hid hrd
  have Hok := Lib.hid hok
  have HG := Lib.hid hg
  clear hrd hok hg
  have hsz : ∀ k (hk : k < L.length), L[k].1.size ≤ 1048576 := fun k hk => by have := entB_le (HG.out _ (List.getElem_mem hk)).2; omega
  have HSZ := Lib.hid hsz
  obtain ⟨g, o, rfl, hs0, hc⟩ := Hrd.out.elem Hok.out 0 h0
  have d0 : w.cell? ⟨g, o, none⟩ = some (.string L[0].1) := by have := hc 0 _ rfl; simpa using this
  have i0 : (0 : Int) < (L.length : Int) := by omega
  have hT := topE
  have HTE := Lib.hid (show topE L = topI (prios L) L.length from rfl)
  have HT1 := Lib.hid (topI_one (prios L))
  have HP0 := Lib.hid (prios_at L 0 h0)
  clear hc hsz hT
  go_enter Try.func136, Try.ntmps136
  go_wp2_with fail
  refine (l04Priority_any L[0].1 (HSZ.out 0 h0) _).mono ?_
  rintro e w1 ⟨rfl, hx⟩
  have HX1 := Lib.hid hx
  have HK := Lib.hid (fun k => (prioL_ok k).1)
  clear hx d0
  go_wp2_with (refine wpl_storeNew aggKey (HK.out _) rfl rfl _ _ rfl rfl rfl rfl ?_)
  go_loopw [3, 5] (fun b i wr => ∃ k : Nat, 1 ≤ k ∧ k ≤ L.length ∧ i = .int .i64 k ∧ b = .int .i64 (topI (prios L) k) ∧ Blk wr w1.heap.size 27 (numsA .u8 (gK (prios L) (topI (prios L) k))) ∧ Ext w wr) (fun _ i _ => L.length - (intOf i).toNat)
  case atStart => exact ⟨1, Nat.le_refl _, h0, rfl, by rw [HT1.out]; rfl, by rw [HT1.out, HP0.out]; exact Blk.new w1 _ _, HX1.out.alloc _⟩
  case round =>
    obtain ⟨k, hk1, hk, rfl, rfl, hB, hx⟩ := hrel
    have HX := Lib.hid hx
    have HB := Lib.hid hB
    have HTL := Lib.hid (topI_lt (prios L) k (by omega))
    have HSC := Lib.hid (topI_succ (prios L) k)
    clear hx hB
    obtain ⟨t, ht⟩ : ∃ t, topI (prios L) k = t := ⟨_, rfl⟩
    rw [ht] at HB HTL HSC ⊢
    have HT := Lib.hid ht
    clear ht
    by_cases hlt : k < L.length
    · obtain ⟨g2, o2, e2, hs2, hc⟩ := Hrd.out.elem Hok.out k hlt
      injection e2 with e2
      injection e2 with e3 e4
      subst e3 e4
      have d0 : wr.cell? ⟨g, o + k * 2, none⟩ = some (.string L[k].1) := HX.out.cell (hc 0 _ rfl)
      have HPK := Lib.hid (prios_at L k hlt)
      have HKT := Lib.hid (show K32 (gK (prios L) t) by rw [gK_lt (by rw [prios_length]; have := HTL.out; omega)]; exact prios_ok L _ (List.getElem_mem _))
      have hi : (0 : Int) ≤ (k : Int) := by omega
      have hi2 : (k : Int) < (L.length : Int) := by omega
      clear hc
      go_wp2_with fail
      refine (l04Priority_any L[k].1 (HSZ.out k hlt) _).mono ?_
      rintro e w2 ⟨rfl, hx⟩
      have HX2 := Lib.hid (HX.out.trans hx)
      have HB2 := Lib.hid (HB.out.ext hx)
      clear hx d0 HX HB
      go_wp2_with (first
        | (refine wpl_storeNew aggKey (HK.out _) rfl rfl _ _ rfl rfl rfl rfl ?_)
        | (refine wpl_loadN (Blk.new w2 27 (numsA .u8 (prioL L[k].1))) aggKey (HK.out _) rfl _ rfl rfl ?_)
        | (refine wpl_loadN (HB2.out.alloc _) aggKey HKT.out.1 rfl _ rfl rfl ?_))
      refine (l01Compare_any (prioL L[k].1) (gK (prios L) t) (prioL_ok _) HKT.out _).mono ?_
      rintro e w3 ⟨rfl, hx⟩
      have HB3 := Lib.hid ((HB2.out.alloc (.cells (numsA .u8 (prioL L[k].1)) 27)).ext hx)
      have HN3 := Lib.hid ((Blk.new w2 27 (numsA .u8 (prioL L[k].1))).ext hx)
      have HX3 := Lib.hid ((HX2.out.alloc _).trans hx)
      clear hx
      by_cases hc : 0 < cmpL (prioL L[k].1) (gK (prios L) t)
      · have HC := Lib.hid (show topI (prios L) (k + 1) = k by rw [HSC.out, HPK.out, if_pos hc])
        go_wp2_with (first
          | (refine wpl_loadN HN3.out aggKey (HK.out _) rfl _ rfl rfl ?_)
          | (refine wpl_storeN HB3.out aggKey (HK.out _) (by rw [numsA_size, HKT.out.1]) rfl _ _ rfl rfl rfl rfl ?_))
        go_roundw
        case rel => exact ⟨k + 1, by omega, by omega, by go_num, by rw [HC.out], by rw [HC.out, HPK.out]; exact HB3.out.setRow _, HX3.out.setRow HX1.out.size _⟩
        case measure => simp [intOf]; omega
      · have HC := Lib.hid (show topI (prios L) (k + 1) = t by rw [HSC.out, HPK.out, if_neg hc])
        go_wp2
        go_roundw
        case rel => exact ⟨k + 1, by omega, by omega, by go_num, by rw [HC.out], by rw [HC.out]; exact HB3.out, HX3.out⟩
        case measure => simp [intOf]; omega
    · obtain rfl : k = L.length := by omega
      go_wp2
      go_ret
      exact ⟨by rw [HTE.out, HT.out]; rfl, HX.out⟩
end Go.Proofs.Ytmndkbheehcoaaa
/- The nodes of a map and its key: the reference. No condition. -/
namespace Go.Proofs.Ytmndkbheehcoaaa
open Go.RowKit
set_option linter.unusedVariables false
set_option linter.unusedSimpArgs false

def NodesC (f : Nat) : Prop := ∀ (v : Value) (L : List En), L.length ≤ f → L.length ≤ 64 → good L → ∀ (w : World) (S : Nat → Prop), RdL tEnt w S v L →
    Calls Try.prog 79 #[v] w fun e w' => ∃ v', e = .returned (.tuple #[v', .agg (numsA .u8 (trF f L).key)]) ∧ Own tNd 31 w' w.heap.size v' (trF f L).all ∧ Ext w w'
set_option maxHeartbeats 1000000 in
set_option maxRecDepth 100000 in
theorem nodes_nil (f : Nat) (v : Value) (L : List En) (h0 : L.length = 0) (w : World) (S : Nat → Prop) (h : RdL tEnt w S v L) :
    Calls Try.prog 79 #[v] w fun e w' => ∃ v', e = .returned (.tuple #[v', .agg (numsA .u8 (trF f L).key)]) ∧ Own tNd 31 w' w.heap.size v' (trF f L).all ∧ Ext w w' := by
  rw [trF_nil _ _ h0]
  obtain ⟨A, cap, rfl, hcap, hlen, _⟩ := h
  rw [h0]
  have hk := emptyL_ok.1
  clear h0 hcap hlen
  show Calls Try.prog 79 #[.slice A 0 cap] w fun e w' => ∃ v', e = .returned (.tuple #[v', .agg (numsA .u8 emptyL)]) ∧ Own tNd 31 w' w.heap.size v' [] ∧ Ext w w'
  go_enter Try.func79, Try.ntmps79
  go_wp2_with fail
  refine (l04Empty_any _).mono ?_
  rintro e w1 ⟨rfl, hx⟩
  have B3 := Lib.hid (((Blk.new w 27 _).alloc _).ext hx)
  have OE := Lib.hid ((Own.empty' tNd (g := w.heap.size + 1) (w := w.alloc _) (by simp) 31 w.heap.size (by simp)).ext hx)
  have XW := Lib.hid (((ext_alloc w _).alloc _).trans hx)
  clear hx
  go_wp2_with (refine wpl_storeN B3.out aggKey hk rfl rfl _ _ rfl rfl rfl rfl ?_)
  refine bodyPost_ret (results_tb rfl _ rfl aggKey (sizeN hk) (B3.out.setRow _) rfl) rfl ?_
  exact ⟨_, rfl, OE.out.kept (grown_row (grown_refl _ _) _) (.inr (fun e => absurd (Option.some.inj e) (by show ¬ (w.heap.size + 1 = w.heap.size); omega))), XW.out.setRow (Nat.le_refl _) _⟩
set_option maxHeartbeats 1000000 in
set_option maxRecDepth 100000 in
theorem nodes_cons1 (f : Nat) (ih : NodesC f) (A : Option Addr) (cap : Nat) (L : List En) (h0 : ¬ L.length = 0) (hf : L.length ≤ f + 1) (h64 : L.length ≤ 64) (hg : good L) (hcase : cap = topE L + 1) (w : World) (S : Nat → Prop) (h : RdL tEnt w S (.slice A L.length cap) L) :
    Calls Try.prog 79 #[.slice A L.length cap] w fun e w' => ∃ v', e = .returned (.tuple #[v', .agg (numsA .u8 (trF (f + 1) L).key)]) ∧ Own tNd 31 w' w.heap.size v' (trF (f + 1) L).all ∧ Ext w w' := by
  have hlt := topE_lt (L := L) (by omega)
  have hND := trF_ok (f + 1) L hg
  have hLL := trF_len f (L.take (topE L))
  have hLR := trF_len f (L.drop (topE L + 1))
  have htop := fun W hW => l04Top_any (.slice A L.length cap) L (by omega) hg W S hW
  rw [trF_cons _ _ h0] at hND ⊢
  obtain ⟨k, hk⟩ : ∃ k, topE L = k := ⟨_, rfl⟩
  simp only [hk] at hlt hND hLL hLR htop hcase ⊢
  rw [gE_lt hlt] at hND ⊢
  subst hcase
  have H := Lib.hid h
  obtain ⟨A', cap', e', hcap, hlen, hrd, hok⟩ := h
  injection e' with e1 _ e3
  subst e1 e3
  obtain ⟨g, o, rfl, hs0, hc⟩ := hrd.elem hok k hlt
  have ihl := fun W hW => ih _ (L.take k) (by rw [List.length_take]; omega) (by rw [List.length_take]; omega) (hg.take k) W S (RdL.head (k := k) (show RdL tEnt W S (.slice (some ⟨g, o, none⟩) L.length (k + 1)) L from hW) (by omega))
  have ihr := fun W hW => ih _ (L.drop (k + 1)) (by rw [List.length_drop]; omega) (by rw [List.length_drop]; omega) (hg.drop (k + 1)) W S (RdL.cut (k := k + 1) (show RdL tEnt W S (.slice (some ⟨g, o, none⟩) L.length (k + 1)) L from hW) (by omega))
  simp only [Option.map_some, Addr.add_lit, show tEnt.sz = 2 from rfl, eq_self, if_true, Nat.sub_self] at ihr
  obtain ⟨TL, hTL⟩ : ∃ T, trF f (L.take k) = T := ⟨_, rfl⟩
  obtain ⟨TR, hTR⟩ : ∃ T, trF f (L.drop (k + 1)) = T := ⟨_, rfl⟩
  simp only [hTL] at ihl hLL hND ⊢
  simp only [hTR] at ihr hLR hND ⊢
  rw [List.length_take] at hLL
  rw [List.length_drop] at hLR
  have HND := Lib.hid hND.1
  have HEB := Lib.hid hND.2.1
  have KL := Lib.hid TL.key_ok.1
  have KR := Lib.hid TR.key_ok.1
  have hc0 : ∀ W, Ext w W → ∀ j u, ([Value.string L[k].1, .string L[k].2] : List Value)[j]? = some u → W.cell? ⟨g, o + k * 2 + j, none⟩ = some u := fun W hW j u hu => hW.cell (hc j u hu)
  have HC := Lib.hid hc0
  have hi : (0 : Int) ≤ (k : Int) := by omega
  have hi2 : (k : Int) ≤ (L.length : Int) := by omega
  have hi3 : (k : Int) < (L.length : Int) := by omega
  have hi4 : (k : Int) + 1 ≤ (L.length : Int) := by omega
  have hi5 : (0 : Int) ≤ (k : Int) + 1 := by omega
  have hi6 : (k : Int) ≤ ((k + 1 : Nat) : Int) := by omega
  have hi7 : ((L.length : Int) == 0) = false := by rw [beq_eq_false_iff_ne]; omega
  have hi8 : (L.length : Int) ≤ ((k + 1 : Nat) : Int) := by omega
  have hi9 : (k : Int) + 1 ≤ ((k + 1 : Nat) : Int) := by omega
  have HLL := Lib.hid hLL
  have HLR := Lib.hid hLR
  have HCAP := Lib.hid hcap
  clear hc hrd hok hTL hTR hk hND hc0 hLL hLR hcap
  show Calls Try.prog 79 #[.slice (some ⟨g, o, none⟩) L.length (k + 1)] w fun e w' => ∃ v', e = .returned (.tuple #[v', .agg (numsA .u8 (hashL 5 (nodeL ⟨TL.key, TR.key, L[k].1, L[k].2⟩)))]) ∧ Own tNd 31 w' w.heap.size v' (⟨TL.key, TR.key, L[k].1, L[k].2⟩ :: (TL.all ++ TR.all)) ∧ Ext w w'
  go_enter Try.func79, Try.ntmps79
  go_wp2_with fail
  refine (htop _ (H.out.ext (by decide) (ext_alloc _ _))).mono ?_
  rintro e w1 ⟨rfl, hx⟩
  have B3 := Lib.hid ((Blk.new w 27 _).ext hx)
  have XW := Lib.hid ((ext_alloc w _).trans hx)
  have HN := Lib.hid (show w.heap.size + 1 ≤ w1.heap.size by have := hx.size; simpa using this)
  clear hx htop
  go_wp2_with fail
  refine (ihl _ (H.out.ext (by decide) XW.out)).mono ?_
  rintro e w2 ⟨vl, rfl, ho, hx⟩
  replace B3 := Lib.hid (B3.out.ext hx)
  replace XW := Lib.hid (XW.out.trans hx)
  have HN2 := Lib.hid (show w.heap.size + 1 ≤ w2.heap.size by have := hx.size; have := HN.out; omega)
  obtain ⟨AL, cl, rfl⟩ := ho.shape
  have OL := Lib.hid ho.rd
  clear ho hx ihl
  go_wp2_with (refine wpl_storeNew aggKey KL.out rfl rfl _ _ rfl rfl rfl rfl ?_)
  refine (ihr _ (H.out.ext (by decide) (XW.out.alloc _))).mono ?_
  rintro e w3 ⟨vr, rfl, ho, hx⟩
  replace B3 := Lib.hid ((B3.out.alloc _).ext hx)
  replace XW := Lib.hid ((XW.out.alloc _).trans hx)
  have B6 := Lib.hid (((Blk.new w2 27 (numsA .u8 TL.key)).ext hx).alloc (.cells (numsA .u8 TR.key) 27))
  replace OL := Lib.hid ((OL.out.ext (by decide) (ext_alloc _ _)).ext (by decide) hx)
  obtain ⟨AR, cr, rfl⟩ := ho.shape
  have OR := Lib.hid ho.rd
  replace HN2 := Lib.hid (show w.heap.size + 1 ≤ w3.heap.size by have := hx.size; have := HN2.out; simp only [size_alloc] at *; omega)
  clear ho hx ihr
  have B8 := Lib.hid (Blk.new w3 27 (numsA .u8 TR.key))
  have HD := Lib.hid (HC.out _ (XW.out.alloc (.cells (numsA .u8 TR.key) 27)))
  go_wp2_with (refine wpl_storeNew aggKey KR.out rfl rfl _ _ rfl rfl rfl rfl ?_)
  refine wp_region_held_drew (S := fun W => Ext (w3.alloc (.cells (numsA .u8 TR.key) 27)) W) (by kernel_rfl) (Ext.refl _).drew (fun hHeld => ?_)
  refine wpAnyH_take (i := 0) (oi := ?oiz1) (v := (.agg (numsA .u8 TL.key))) ?hiz1 (by kernel_rfl) (by kernel_rfl) (by kernel_rfl) ?hQz1 ?hyz1 (by assumption) ?restz1
  case hiz1 => simp only [List.getElem?_toArray, List.getElem?_cons_zero, List.getElem?_cons_succ]; rfl
  case hQz1 => exact fun _ _ _ h => h
  case hyz1 => refine yields_loadB B6.out aggKey (sizeN KL.out) ?_ _ rfl rfl; rfl
  try simp only [Act.put, List.setIfInBounds_toArray, List.set_cons_zero, List.set_cons_succ]
  refine wpAnyH_take (i := 1) (oi := ?oiz2) (v := (.agg (numsA .u8 TR.key))) ?hiz2 (by kernel_rfl) (by kernel_rfl) (by kernel_rfl) ?hQz2 ?hyz2 (by assumption) ?restz2
  case hiz2 => simp only [List.getElem?_toArray, List.getElem?_cons_zero, List.getElem?_cons_succ]; rfl
  case hQz2 => exact fun _ _ _ h => h
  case hyz2 => refine yields_loadB B8.out aggKey (sizeN KR.out) ?_ _ rfl rfl; rfl
  try simp only [Act.put, List.setIfInBounds_toArray, List.set_cons_zero, List.set_cons_succ]
  refine wpAnyH_take (i := 2) (oi := ?oiz3) (v := ?vz3) ?hiz3 (by kernel_rfl) (by kernel_rfl) (by kernel_rfl) ?hQz3 ?hyz3 (by assumption) ?restz3
  case hiz3 => simp only [List.getElem?_toArray, List.getElem?_cons_zero, List.getElem?_cons_succ]; rfl
  case hQz3 => exact fun _ _ _ h => h
  case hyz3 => exact Or.inl ⟨by rfl, by intro w hSw; (try dsimp only at hSw); go_simp; with_reducible rfl⟩
  try simp only [Act.put, List.setIfInBounds_toArray, List.set_cons_zero, List.set_cons_succ]
  refine wpAnyH_take (i := 3) (oi := ?oiz4) (v := ?vz4) ?hiz4 (by kernel_rfl) (by kernel_rfl) (by kernel_rfl) ?hQz4 ?hyz4 (by assumption) ?restz4
  case hiz4 => simp only [List.getElem?_toArray, List.getElem?_cons_zero, List.getElem?_cons_succ]; rfl
  case hQz4 => exact fun _ _ _ h => h
  case hyz4 => exact Or.inl ⟨by rfl, by intro w hSw; (try dsimp only at hSw); go_simp; with_reducible rfl⟩
  try simp only [Act.put, List.setIfInBounds_toArray, List.set_cons_zero, List.set_cons_succ]
  refine wpAnyH_take (i := 4) (oi := ?oiz5) (v := ?vz5) ?hiz5 (by kernel_rfl) (by kernel_rfl) (by kernel_rfl) ?hQz5 ?hyz5 (by assumption) ?restz5
  case hiz5 => simp only [List.getElem?_toArray, List.getElem?_cons_zero, List.getElem?_cons_succ]; rfl
  case hQz5 => exact fun _ _ _ h => h
  case hyz5 => exact Or.inl ⟨by rfl, by intro w hSw; (try dsimp only at hSw); go_simp; with_reducible rfl⟩
  try simp only [Act.put, List.setIfInBounds_toArray, List.set_cons_zero, List.set_cons_succ]
  refine wpAnyH_take (i := 5) (oi := ?oiz6) (v := (.agg #[.string L[k].1, .string L[k].2])) ?hiz6 (by kernel_rfl) (by kernel_rfl) (by kernel_rfl) ?hQz6 ?hyz6 (by assumption) ?restz6
  case hiz6 => simp only [List.getElem?_toArray, List.getElem?_cons_zero, List.getElem?_cons_succ]; rfl
  case hQz6 => exact fun _ _ _ h => h
  case hyz6 => refine yields_loadR g (o + k * 2) [.string L[k].1, .string L[k].2] aggEntryI HD.out ?_ _ rfl rfl; rfl
  try simp only [Act.put, List.setIfInBounds_toArray, List.set_cons_zero, List.set_cons_succ]
  refine wpAnyH_take (i := 6) (oi := ?oiz7) (v := (.agg (Nd.enc ⟨TL.key, TR.key, L[k].1, L[k].2⟩).toArray)) ?hiz7 (by kernel_rfl) (by kernel_rfl) (by kernel_rfl) ?hQz7 ?hyz7 (by assumption) ?restz7
  case hiz7 => simp only [List.getElem?_toArray, List.getElem?_cons_zero, List.getElem?_cons_succ]; rfl
  case hQz7 => exact fun _ _ _ h => h
  case hyz7 => refine yields_build ?_ rfl (built_node ⟨TL.key, TR.key, L[k].1, L[k].2⟩ HND.out); rfl
  try simp only [Act.put, List.setIfInBounds_toArray, List.set_cons_zero, List.set_cons_succ]
  have hs9 := hHeld.size
  have HX9 := Lib.hid hHeld
  generalize hw9 : (w3.alloc (.cells (numsA .u8 TR.key) 27)).drew = w9 at hHeld HX9 hs9 ⊢
  clear hw9
  refine wpAnyH_ready (rs := [7]) (by kernel_rfl) (by simp) (AllReadyH.cons (o := ?oy87) ?hy87 (fun K hK => ?sy87) AllReadyH.nil)
  case hy87 => simp only [List.getElem?_toArray, List.getElem?_cons_zero, List.getElem?_cons_succ]; rfl
  refine stp_alloc zNd.toArray (by kernel_rfl) rfl rfl ?_
  have hH2 := hHeld.alloc (.cells zNd.toArray 31)
  refine hK.out _ _ hH2 (fun _ => ?_)
  clear hK K hH2
  try simp only [Act.put, List.setIfInBounds_toArray, List.set_cons_zero, List.set_cons_succ]
  refine wpAnyH_ready (rs := [8]) (by kernel_rfl) (by simp) (AllReadyH.cons (o := ?oy98) ?hy98 (fun K hK => ?sy98) AllReadyH.nil)
  case hy98 => simp only [List.getElem?_toArray, List.getElem?_cons_zero, List.getElem?_cons_succ]; rfl
  refine stp_storeP (Blk.new w9 31 _) aggNodeI (Nd.st HND.out) (by simp [zNd]) rfl _ _ rfl rfl rfl rfl ?_
  have hH3 := hHeld.alloc (.cells (Nd.enc ⟨TL.key, TR.key, L[k].1, L[k].2⟩).toArray 31)
  rw [splice_all _ _ (by rw [Array.length_toList, (Nd.st HND.out).size]; rfl), setRow_alloc, Array.toArray_toList]
  refine hK.out _ _ hH3 (fun _ => ?_)
  clear hK K hH3 hHeld
  try simp only [Act.put, List.setIfInBounds_toArray, List.set_cons_zero, List.set_cons_succ]
  refine wpAnyH_done (by kernel_rfl) ?_ _
  have HW9 := Lib.hid ((XW.out.alloc (.cells (numsA .u8 TR.key) 27)).trans HX9.out)
  have HN9 := Lib.hid (show w.heap.size + 1 ≤ w9.heap.size by have := hs9; have := HN2.out; simp only [size_alloc] at *; omega)
  have B3x := Lib.hid ((B3.out.alloc (.cells (numsA .u8 TR.key) 27)).ext HX9.out)
  have OLx := Lib.hid ((OL.out.ext (by decide) (ext_alloc _ (.cells (numsA .u8 TR.key) 27))).ext (by decide) HX9.out)
  have ORx := Lib.hid ((OR.out.ext (by decide) (ext_alloc _ (.cells (numsA .u8 TR.key) 27))).ext (by decide) HX9.out)
  clear hs9 HX9 B3 B6 B8 OL OR XW HN2
  obtain ⟨x, hx0⟩ : ∃ x : Nd, x = ⟨TL.key, TR.key, L[k].1, L[k].2⟩ := ⟨_, rfl⟩
  have HXO := Lib.hid (show x.ok by rw [hx0]; exact HND.out)
  have HXE := Lib.hid (show entB x.n x.v = true by rw [hx0]; exact HEB.out)
  simp only [← hx0, Array.toArray_toList]
  have HXX := Lib.hid hx0
  clear hx0 HND HEB
  obtain ⟨wa, hwa⟩ : ∃ wa, w9.alloc (.cells x.enc.toArray 31) = wa := ⟨_, rfl⟩
  have HA := Lib.hid (show Ext w9 wa by rw [← hwa]; exact ext_alloc _ _)
  have HNA := Lib.hid (show Blk wa w9.heap.size 31 x.enc.toArray by rw [← hwa]; exact Blk.new w9 _ _)
  have HSA := Lib.hid (show wa.heap.size = w9.heap.size + 1 by rw [← hwa]; simp)
  rw [hwa]
  clear hwa
  have OL2 := Lib.hid ((OLx.out.ext (by decide) HA.out).ext (by decide) (ext_alloc wa (.cells x.enc.toArray 31)))
  have hsz := (Nd.st HXO.out).size
  have henc := Nd.enc_length HXO.out
  have OS := Lib.hid (Own.of_blk tNd (w := wa.alloc (.cells x.enc.toArray 31)) (base := wa.heap.size) (xs := [x]) (by rw [show [x].flatMap tNd.enc = x.enc from by rw [List.flatMap_cons, List.flatMap_nil, List.append_nil]; rfl]; exact Blk.new wa 31 x.enc.toArray) (Nat.le_refl _) (by simp) (by intro y hy; obtain rfl := List.mem_singleton.1 hy; exact HXO.out))
  go_wp2_with (first
    | (refine wpl_loadB HNA.out aggNodeI hsz rfl _ rfl rfl ?_)
    | (at_builtin; rw [fold_fill x.enc _ (by rw [henc]; rfl)]; refine wpl_append rowNd rfl _ _ rfl (v := .slice (some ⟨wa.heap.size, 0, none⟩) 1 1) rfl OS.out _ _ rfl (ys := TL.all) rfl (rd_nd OL2.out) (ok_nd OL2.out) (by have := HLL.out; simp only [List.length_singleton]; omega) (by simp) ?_; intro v5 w5 ho1 hg1 hat1; have HX5 := Lib.hid (OS.out.ext_app (ext_alloc wa _) hg1); obtain ⟨B5, n5, c5, rfl⟩ := ho1.shape3; have HO5 := Lib.hid ho1; clear ho1 hg1 hat1)
    | (at_builtin; refine wpl_append rowNd rfl _ _ rfl (v := .slice B5 n5 c5) rfl HO5.out _ _ rfl (ys := TR.all) rfl (rd_nd ((ORx.out.ext (by decide) HA.out).ext (by decide) HX5.out)) (ok_nd ORx.out) (by have := HLL.out; have := HLR.out; simp only [List.length_append, List.length_singleton]; omega) HX5.out.size ?_; intro v6 w6 ho1 hg1 hat1; have HX6 := Lib.hid (HO5.out.ext_app HX5.out hg1); have HO6 := Lib.hid ho1; clear ho1 hg1 hat1))
  refine (l04NodeKey_any x HXO.out HXE.out w9.heap.size _ (HNA.out.ext HX6.out)).mono ?_
  rintro e w7 ⟨rfl, hx⟩
  have HO7 := Lib.hid (HO6.out.ext hx)
  have B3y := Lib.hid (((B3x.out.ext HA.out).ext HX6.out).ext hx)
  have HX7 := Lib.hid (((HW9.out.trans HA.out).trans HX6.out).trans hx)
  have hkx := (hashL_ok 5 (nodeL x)).1
  have HLT := Lib.hid (show w.heap.size < wa.heap.size by have := HSA.out; have := HN9.out; omega)
  clear hx HO6
  go_wp2_with (refine wpl_storeN B3y.out aggKey hkx rfl rfl _ _ rfl rfl rfl rfl ?_)
  refine bodyPost_ret (results_tb rfl _ rfl aggKey (sizeN hkx) (B3y.out.setRow _) rfl) rfl ?_
  have ho8 := HO7.out
  rw [show [x] ++ TL.all ++ TR.all = x :: (TL.all ++ TR.all) by simp] at ho8
  rw [← HXX.out]
  refine ⟨_, rfl, ?_, HX7.out.setRow (Nat.le_refl _) _⟩
  exact (ho8.kept (grown_row (g := w.heap.size) (grown_refl _ _) _) (.inr (fun e => by have := (ho8.base_le _ e).1; have := HLT.out; omega))).le (Nat.le_of_lt HLT.out)
set_option maxHeartbeats 1000000 in
set_option maxRecDepth 100000 in
theorem nodes_cons2 (f : Nat) (ih : NodesC f) (A : Option Addr) (cap : Nat) (L : List En) (h0 : ¬ L.length = 0) (hf : L.length ≤ f + 1) (h64 : L.length ≤ 64) (hg : good L) (hcase : ¬ cap = topE L + 1) (w : World) (S : Nat → Prop) (h : RdL tEnt w S (.slice A L.length cap) L) :
    Calls Try.prog 79 #[.slice A L.length cap] w fun e w' => ∃ v', e = .returned (.tuple #[v', .agg (numsA .u8 (trF (f + 1) L).key)]) ∧ Own tNd 31 w' w.heap.size v' (trF (f + 1) L).all ∧ Ext w w' := by
  have hlt := topE_lt (L := L) (by omega)
  have hND := trF_ok (f + 1) L hg
  have hLL := trF_len f (L.take (topE L))
  have hLR := trF_len f (L.drop (topE L + 1))
  have htop := fun W hW => l04Top_any (.slice A L.length cap) L (by omega) hg W S hW
  rw [trF_cons _ _ h0] at hND ⊢
  obtain ⟨k, hk⟩ : ∃ k, topE L = k := ⟨_, rfl⟩
  simp only [hk] at hlt hND hLL hLR htop hcase ⊢
  rw [gE_lt hlt] at hND ⊢

  have H := Lib.hid h
  obtain ⟨A', cap', e', hcap, hlen, hrd, hok⟩ := h
  injection e' with e1 _ e3
  subst e1 e3
  obtain ⟨g, o, rfl, hs0, hc⟩ := hrd.elem hok k hlt
  have ihl := fun W hW => ih _ (L.take k) (by rw [List.length_take]; omega) (by rw [List.length_take]; omega) (hg.take k) W S (RdL.head (k := k) (show RdL tEnt W S (.slice (some ⟨g, o, none⟩) L.length cap) L from hW) (by omega))
  have ihr := fun W hW => ih _ (L.drop (k + 1)) (by rw [List.length_drop]; omega) (by rw [List.length_drop]; omega) (hg.drop (k + 1)) W S (RdL.cut (k := k + 1) (show RdL tEnt W S (.slice (some ⟨g, o, none⟩) L.length cap) L from hW) (by omega))
  simp only [Option.map_some, Addr.add_lit, show tEnt.sz = 2 from rfl, if_neg hcase] at ihr
  obtain ⟨TL, hTL⟩ : ∃ T, trF f (L.take k) = T := ⟨_, rfl⟩
  obtain ⟨TR, hTR⟩ : ∃ T, trF f (L.drop (k + 1)) = T := ⟨_, rfl⟩
  simp only [hTL] at ihl hLL hND ⊢
  simp only [hTR] at ihr hLR hND ⊢
  rw [List.length_take] at hLL
  rw [List.length_drop] at hLR
  have HND := Lib.hid hND.1
  have HEB := Lib.hid hND.2.1
  have KL := Lib.hid TL.key_ok.1
  have KR := Lib.hid TR.key_ok.1
  have hc0 : ∀ W, Ext w W → ∀ j u, ([Value.string L[k].1, .string L[k].2] : List Value)[j]? = some u → W.cell? ⟨g, o + k * 2 + j, none⟩ = some u := fun W hW j u hu => hW.cell (hc j u hu)
  have HC := Lib.hid hc0
  have hi : (0 : Int) ≤ (k : Int) := by omega
  have hi2 : (k : Int) ≤ (L.length : Int) := by omega
  have hi3 : (k : Int) < (L.length : Int) := by omega
  have hi4 : (k : Int) + 1 ≤ (L.length : Int) := by omega
  have hi5 : (0 : Int) ≤ (k : Int) + 1 := by omega
  have hi6 : (k : Int) ≤ (cap : Int) := by omega
  have hi7 : ((L.length : Int) == 0) = false := by rw [beq_eq_false_iff_ne]; omega
  have hi8 : (L.length : Int) ≤ (cap : Int) := by omega
  have hi9 : (k : Int) + 1 ≤ (cap : Int) := by omega
  have HLL := Lib.hid hLL
  have HLR := Lib.hid hLR
  have HCAP := Lib.hid hcap
  clear hc hrd hok hTL hTR hk hND hc0 hLL hLR hcap
  show Calls Try.prog 79 #[.slice (some ⟨g, o, none⟩) L.length cap] w fun e w' => ∃ v', e = .returned (.tuple #[v', .agg (numsA .u8 (hashL 5 (nodeL ⟨TL.key, TR.key, L[k].1, L[k].2⟩)))]) ∧ Own tNd 31 w' w.heap.size v' (⟨TL.key, TR.key, L[k].1, L[k].2⟩ :: (TL.all ++ TR.all)) ∧ Ext w w'
  go_enter Try.func79, Try.ntmps79
  go_wp2_with fail
  refine (htop _ (H.out.ext (by decide) (ext_alloc _ _))).mono ?_
  rintro e w1 ⟨rfl, hx⟩
  have B3 := Lib.hid ((Blk.new w 27 _).ext hx)
  have XW := Lib.hid ((ext_alloc w _).trans hx)
  have HN := Lib.hid (show w.heap.size + 1 ≤ w1.heap.size by have := hx.size; simpa using this)
  clear hx htop
  go_wp2_with fail
  refine (ihl _ (H.out.ext (by decide) XW.out)).mono ?_
  rintro e w2 ⟨vl, rfl, ho, hx⟩
  replace B3 := Lib.hid (B3.out.ext hx)
  replace XW := Lib.hid (XW.out.trans hx)
  have HN2 := Lib.hid (show w.heap.size + 1 ≤ w2.heap.size by have := hx.size; have := HN.out; omega)
  obtain ⟨AL, cl, rfl⟩ := ho.shape
  have OL := Lib.hid ho.rd
  clear ho hx ihl
  go_wp2_with (refine wpl_storeNew aggKey KL.out rfl rfl _ _ rfl rfl rfl rfl ?_)
  refine (ihr _ (H.out.ext (by decide) (XW.out.alloc _))).mono ?_
  rintro e w3 ⟨vr, rfl, ho, hx⟩
  replace B3 := Lib.hid ((B3.out.alloc _).ext hx)
  replace XW := Lib.hid ((XW.out.alloc _).trans hx)
  have B6 := Lib.hid (((Blk.new w2 27 (numsA .u8 TL.key)).ext hx).alloc (.cells (numsA .u8 TR.key) 27))
  replace OL := Lib.hid ((OL.out.ext (by decide) (ext_alloc _ _)).ext (by decide) hx)
  obtain ⟨AR, cr, rfl⟩ := ho.shape
  have OR := Lib.hid ho.rd
  replace HN2 := Lib.hid (show w.heap.size + 1 ≤ w3.heap.size by have := hx.size; have := HN2.out; simp only [size_alloc] at *; omega)
  clear ho hx ihr
  have B8 := Lib.hid (Blk.new w3 27 (numsA .u8 TR.key))
  have HD := Lib.hid (HC.out _ (XW.out.alloc (.cells (numsA .u8 TR.key) 27)))
  go_wp2_with (refine wpl_storeNew aggKey KR.out rfl rfl _ _ rfl rfl rfl rfl ?_)
  refine wp_region_held_drew (S := fun W => Ext (w3.alloc (.cells (numsA .u8 TR.key) 27)) W) (by kernel_rfl) (Ext.refl _).drew (fun hHeld => ?_)
  refine wpAnyH_take (i := 0) (oi := ?oiz10) (v := (.agg (numsA .u8 TL.key))) ?hiz10 (by kernel_rfl) (by kernel_rfl) (by kernel_rfl) ?hQz10 ?hyz10 (by assumption) ?restz10
  case hiz10 => simp only [List.getElem?_toArray, List.getElem?_cons_zero, List.getElem?_cons_succ]; rfl
  case hQz10 => exact fun _ _ _ h => h
  case hyz10 => refine yields_loadB B6.out aggKey (sizeN KL.out) ?_ _ rfl rfl; rfl
  try simp only [Act.put, List.setIfInBounds_toArray, List.set_cons_zero, List.set_cons_succ]
  refine wpAnyH_take (i := 1) (oi := ?oiz11) (v := (.agg (numsA .u8 TR.key))) ?hiz11 (by kernel_rfl) (by kernel_rfl) (by kernel_rfl) ?hQz11 ?hyz11 (by assumption) ?restz11
  case hiz11 => simp only [List.getElem?_toArray, List.getElem?_cons_zero, List.getElem?_cons_succ]; rfl
  case hQz11 => exact fun _ _ _ h => h
  case hyz11 => refine yields_loadB B8.out aggKey (sizeN KR.out) ?_ _ rfl rfl; rfl
  try simp only [Act.put, List.setIfInBounds_toArray, List.set_cons_zero, List.set_cons_succ]
  refine wpAnyH_take (i := 2) (oi := ?oiz12) (v := ?vz12) ?hiz12 (by kernel_rfl) (by kernel_rfl) (by kernel_rfl) ?hQz12 ?hyz12 (by assumption) ?restz12
  case hiz12 => simp only [List.getElem?_toArray, List.getElem?_cons_zero, List.getElem?_cons_succ]; rfl
  case hQz12 => exact fun _ _ _ h => h
  case hyz12 => exact Or.inl ⟨by rfl, by intro w hSw; (try dsimp only at hSw); go_simp; with_reducible rfl⟩
  try simp only [Act.put, List.setIfInBounds_toArray, List.set_cons_zero, List.set_cons_succ]
  refine wpAnyH_take (i := 3) (oi := ?oiz13) (v := ?vz13) ?hiz13 (by kernel_rfl) (by kernel_rfl) (by kernel_rfl) ?hQz13 ?hyz13 (by assumption) ?restz13
  case hiz13 => simp only [List.getElem?_toArray, List.getElem?_cons_zero, List.getElem?_cons_succ]; rfl
  case hQz13 => exact fun _ _ _ h => h
  case hyz13 => exact Or.inl ⟨by rfl, by intro w hSw; (try dsimp only at hSw); go_simp; with_reducible rfl⟩
  try simp only [Act.put, List.setIfInBounds_toArray, List.set_cons_zero, List.set_cons_succ]
  refine wpAnyH_take (i := 4) (oi := ?oiz14) (v := ?vz14) ?hiz14 (by kernel_rfl) (by kernel_rfl) (by kernel_rfl) ?hQz14 ?hyz14 (by assumption) ?restz14
  case hiz14 => simp only [List.getElem?_toArray, List.getElem?_cons_zero, List.getElem?_cons_succ]; rfl
  case hQz14 => exact fun _ _ _ h => h
  case hyz14 => exact Or.inl ⟨by rfl, by intro w hSw; (try dsimp only at hSw); go_simp; with_reducible rfl⟩
  try simp only [Act.put, List.setIfInBounds_toArray, List.set_cons_zero, List.set_cons_succ]
  refine wpAnyH_take (i := 5) (oi := ?oiz15) (v := (.agg #[.string L[k].1, .string L[k].2])) ?hiz15 (by kernel_rfl) (by kernel_rfl) (by kernel_rfl) ?hQz15 ?hyz15 (by assumption) ?restz15
  case hiz15 => simp only [List.getElem?_toArray, List.getElem?_cons_zero, List.getElem?_cons_succ]; rfl
  case hQz15 => exact fun _ _ _ h => h
  case hyz15 => refine yields_loadR g (o + k * 2) [.string L[k].1, .string L[k].2] aggEntryI HD.out ?_ _ rfl rfl; rfl
  try simp only [Act.put, List.setIfInBounds_toArray, List.set_cons_zero, List.set_cons_succ]
  refine wpAnyH_take (i := 6) (oi := ?oiz16) (v := (.agg (Nd.enc ⟨TL.key, TR.key, L[k].1, L[k].2⟩).toArray)) ?hiz16 (by kernel_rfl) (by kernel_rfl) (by kernel_rfl) ?hQz16 ?hyz16 (by assumption) ?restz16
  case hiz16 => simp only [List.getElem?_toArray, List.getElem?_cons_zero, List.getElem?_cons_succ]; rfl
  case hQz16 => exact fun _ _ _ h => h
  case hyz16 => refine yields_build ?_ rfl (built_node ⟨TL.key, TR.key, L[k].1, L[k].2⟩ HND.out); rfl
  try simp only [Act.put, List.setIfInBounds_toArray, List.set_cons_zero, List.set_cons_succ]
  have hs9 := hHeld.size
  have HX9 := Lib.hid hHeld
  generalize hw9 : (w3.alloc (.cells (numsA .u8 TR.key) 27)).drew = w9 at hHeld HX9 hs9 ⊢
  clear hw9
  refine wpAnyH_ready (rs := [7]) (by kernel_rfl) (by simp) (AllReadyH.cons (o := ?oy177) ?hy177 (fun K hK => ?sy177) AllReadyH.nil)
  case hy177 => simp only [List.getElem?_toArray, List.getElem?_cons_zero, List.getElem?_cons_succ]; rfl
  refine stp_alloc zNd.toArray (by kernel_rfl) rfl rfl ?_
  have hH2 := hHeld.alloc (.cells zNd.toArray 31)
  refine hK.out _ _ hH2 (fun _ => ?_)
  clear hK K hH2
  try simp only [Act.put, List.setIfInBounds_toArray, List.set_cons_zero, List.set_cons_succ]
  refine wpAnyH_ready (rs := [8]) (by kernel_rfl) (by simp) (AllReadyH.cons (o := ?oy188) ?hy188 (fun K hK => ?sy188) AllReadyH.nil)
  case hy188 => simp only [List.getElem?_toArray, List.getElem?_cons_zero, List.getElem?_cons_succ]; rfl
  refine stp_storeP (Blk.new w9 31 _) aggNodeI (Nd.st HND.out) (by simp [zNd]) rfl _ _ rfl rfl rfl rfl ?_
  have hH3 := hHeld.alloc (.cells (Nd.enc ⟨TL.key, TR.key, L[k].1, L[k].2⟩).toArray 31)
  rw [splice_all _ _ (by rw [Array.length_toList, (Nd.st HND.out).size]; rfl), setRow_alloc, Array.toArray_toList]
  refine hK.out _ _ hH3 (fun _ => ?_)
  clear hK K hH3 hHeld
  try simp only [Act.put, List.setIfInBounds_toArray, List.set_cons_zero, List.set_cons_succ]
  refine wpAnyH_done (by kernel_rfl) ?_ _
  have HW9 := Lib.hid ((XW.out.alloc (.cells (numsA .u8 TR.key) 27)).trans HX9.out)
  have HN9 := Lib.hid (show w.heap.size + 1 ≤ w9.heap.size by have := hs9; have := HN2.out; simp only [size_alloc] at *; omega)
  have B3x := Lib.hid ((B3.out.alloc (.cells (numsA .u8 TR.key) 27)).ext HX9.out)
  have OLx := Lib.hid ((OL.out.ext (by decide) (ext_alloc _ (.cells (numsA .u8 TR.key) 27))).ext (by decide) HX9.out)
  have ORx := Lib.hid ((OR.out.ext (by decide) (ext_alloc _ (.cells (numsA .u8 TR.key) 27))).ext (by decide) HX9.out)
  clear hs9 HX9 B3 B6 B8 OL OR XW HN2
  obtain ⟨x, hx0⟩ : ∃ x : Nd, x = ⟨TL.key, TR.key, L[k].1, L[k].2⟩ := ⟨_, rfl⟩
  have HXO := Lib.hid (show x.ok by rw [hx0]; exact HND.out)
  have HXE := Lib.hid (show entB x.n x.v = true by rw [hx0]; exact HEB.out)
  simp only [← hx0, Array.toArray_toList]
  have HXX := Lib.hid hx0
  clear hx0 HND HEB
  obtain ⟨wa, hwa⟩ : ∃ wa, w9.alloc (.cells x.enc.toArray 31) = wa := ⟨_, rfl⟩
  have HA := Lib.hid (show Ext w9 wa by rw [← hwa]; exact ext_alloc _ _)
  have HNA := Lib.hid (show Blk wa w9.heap.size 31 x.enc.toArray by rw [← hwa]; exact Blk.new w9 _ _)
  have HSA := Lib.hid (show wa.heap.size = w9.heap.size + 1 by rw [← hwa]; simp)
  rw [hwa]
  clear hwa
  have OL2 := Lib.hid ((OLx.out.ext (by decide) HA.out).ext (by decide) (ext_alloc wa (.cells x.enc.toArray 31)))
  have hsz := (Nd.st HXO.out).size
  have henc := Nd.enc_length HXO.out
  have OS := Lib.hid (Own.of_blk tNd (w := wa.alloc (.cells x.enc.toArray 31)) (base := wa.heap.size) (xs := [x]) (by rw [show [x].flatMap tNd.enc = x.enc from by rw [List.flatMap_cons, List.flatMap_nil, List.append_nil]; rfl]; exact Blk.new wa 31 x.enc.toArray) (Nat.le_refl _) (by simp) (by intro y hy; obtain rfl := List.mem_singleton.1 hy; exact HXO.out))
  go_wp2_with (first
    | (refine wpl_loadB HNA.out aggNodeI hsz rfl _ rfl rfl ?_)
    | (at_builtin; rw [fold_fill x.enc _ (by rw [henc]; rfl)]; refine wpl_append rowNd rfl _ _ rfl (v := .slice (some ⟨wa.heap.size, 0, none⟩) 1 1) rfl OS.out _ _ rfl (ys := TL.all) rfl (rd_nd OL2.out) (ok_nd OL2.out) (by have := HLL.out; simp only [List.length_singleton]; omega) (by simp) ?_; intro v5 w5 ho1 hg1 hat1; have HX5 := Lib.hid (OS.out.ext_app (ext_alloc wa _) hg1); obtain ⟨B5, n5, c5, rfl⟩ := ho1.shape3; have HO5 := Lib.hid ho1; clear ho1 hg1 hat1)
    | (at_builtin; refine wpl_append rowNd rfl _ _ rfl (v := .slice B5 n5 c5) rfl HO5.out _ _ rfl (ys := TR.all) rfl (rd_nd ((ORx.out.ext (by decide) HA.out).ext (by decide) HX5.out)) (ok_nd ORx.out) (by have := HLL.out; have := HLR.out; simp only [List.length_append, List.length_singleton]; omega) HX5.out.size ?_; intro v6 w6 ho1 hg1 hat1; have HX6 := Lib.hid (HO5.out.ext_app HX5.out hg1); have HO6 := Lib.hid ho1; clear ho1 hg1 hat1))
  refine (l04NodeKey_any x HXO.out HXE.out w9.heap.size _ (HNA.out.ext HX6.out)).mono ?_
  rintro e w7 ⟨rfl, hx⟩
  have HO7 := Lib.hid (HO6.out.ext hx)
  have B3y := Lib.hid (((B3x.out.ext HA.out).ext HX6.out).ext hx)
  have HX7 := Lib.hid (((HW9.out.trans HA.out).trans HX6.out).trans hx)
  have hkx := (hashL_ok 5 (nodeL x)).1
  have HLT := Lib.hid (show w.heap.size < wa.heap.size by have := HSA.out; have := HN9.out; omega)
  clear hx HO6
  go_wp2_with (refine wpl_storeN B3y.out aggKey hkx rfl rfl _ _ rfl rfl rfl rfl ?_)
  refine bodyPost_ret (results_tb rfl _ rfl aggKey (sizeN hkx) (B3y.out.setRow _) rfl) rfl ?_
  have ho8 := HO7.out
  rw [show [x] ++ TL.all ++ TR.all = x :: (TL.all ++ TR.all) by simp] at ho8
  rw [← HXX.out]
  refine ⟨_, rfl, ?_, HX7.out.setRow (Nat.le_refl _) _⟩
  exact (ho8.kept (grown_row (g := w.heap.size) (grown_refl _ _) _) (.inr (fun e => by have := (ho8.base_le _ e).1; have := HLT.out; omega))).le (Nat.le_of_lt HLT.out)
theorem l04Nodes_any (f : Nat) : NodesC f := by
  induction f with
  | zero => exact fun v L hf h64 hg w S h => nodes_nil 0 v L (by omega) w S h
  | succ f ih =>
    intro v L hf h64 hg w S h
    by_cases h0 : L.length = 0
    · exact nodes_nil (f + 1) v L h0 w S h
    · obtain ⟨A, cap, rfl, _⟩ := id h
      by_cases hc : cap = topE L + 1
      · exact nodes_cons1 f ih A cap L h0 hf h64 hg hc w S h
      · exact nodes_cons2 f ih A cap L h0 hf h64 hg hc w S h
end Go.Proofs.Ytmndkbheehcoaaa
/- The tree of a map: the program's, and its key. No condition. -/
namespace Go.Proofs.Ytmndkbheehcoaaa
open Go.RowKit
set_option linter.unusedVariables false
set_option linter.unusedSimpArgs false

/-- v points to the tree T -/
def TrAt (w : World) : Value → Tr → Prop
  | v, .leaf => v = .pointer none
  | v, .node x l r => ∃ g pl pr, v = .pointer (some ⟨g, 0, none⟩) ∧ Blk w g 161 (x.enc ++ [pl, pr]).toArray ∧ TrAt w pl l ∧ TrAt w pr r
theorem TrAt.ext {w w' : World} {v : Value} {T : Tr} (h : TrAt w v T) (e : Ext w w') : TrAt w' v T := by
  induction T generalizing v with
  | leaf => exact h
  | node x l r il ir =>
    obtain ⟨g, pl, pr, h1, h2, h3, h4⟩ := h
    exact ⟨g, pl, pr, h1, h2.ext e, il h3, ir h4⟩
theorem TrAt.ptr {w : World} {v : Value} {T : Tr} (h : TrAt w v T) : ∃ p, v = .pointer p := by
  cases T with
  | leaf => exact ⟨_, h⟩
  | node x l r =>
    obtain ⟨g, pl, pr, h1, _⟩ := h
    exact ⟨_, h1⟩
theorem enc_in (x : Nd) (a b : Value) (j : Nat) (u : Value) (hu : x.enc.toArray[j]? = some u) : (x.enc ++ [a, b]).toArray[0 + j]? = some u := by
  rw [Nat.zero_add, List.getElem?_toArray] at *
  have hj := (List.getElem?_eq_some_iff.1 hu).1
  rw [List.getElem?_append_left hj]
  exact hu
def zTr : List Value := zNd ++ [Value.pointer none, Value.pointer none]
theorem built_tree (p q : Option Addr) : Try.prog.built 161 [(1, .pointer p), (2, .pointer q)] = some (zNd ++ [Value.pointer p, Value.pointer q]).toArray := by
  have hb : ∀ parts, Try.prog.built 161 parts = Instr.fill (fun i => #[(0, 66), (66, 1), (67, 1)][i]?) zTr.toArray parts := fun parts => by kernel_rfl
  have e1 : splice zTr.toArray 66 [.pointer p] = (zNd ++ [Value.pointer p] ++ [Value.pointer none]).toArray := by
    have := splice_next zNd [Value.pointer none, Value.pointer none] [.pointer p] (o := 66) rfl
    exact this
  have e2 : splice (zNd ++ [Value.pointer p] ++ [Value.pointer none]).toArray 67 [.pointer q] = (zNd ++ [Value.pointer p, Value.pointer q]).toArray := by
    have := splice_next (zNd ++ [Value.pointer p]) [.pointer none] [.pointer q] (o := 67) rfl
    rw [show ([Value.pointer none]).drop ([Value.pointer q]).length = [] from rfl, List.append_nil, List.append_assoc] at this
    exact this
  have c1 : (Value.pointer p).cells.toList = [.pointer p] := rfl
  have c2 : (Value.pointer q).cells.toList = [.pointer q] := rfl
  have z1 : zTr.length = 68 := rfl
  rw [hb, fill_one _ _ 1 66 1 _ _ rfl rfl (by rw [List.size_toArray, z1]; decide), c1, e1, fill_one _ _ 2 67 1 _ _ rfl rfl (by rw [List.size_toArray, List.length_append, List.length_append]; exact Nat.le_refl 68), c2, e2, Instr.fill]
set_option maxHeartbeats 1000000 in
set_option maxRecDepth 100000 in
theorem treeKey_any (T : Tr) (hok : T.ok) (v : Value) (w : World) (h : TrAt w v T) : Calls Try.prog 88 #[v] w fun e w' => e = .returned (.agg (numsA .u8 T.key)) ∧ Ext w w' := by
  cases T with
  | leaf =>
    obtain rfl := h
    have hk := emptyL_ok.1
    show Calls Try.prog 88 #[.pointer none] w fun e w' => e = .returned (.agg (numsA .u8 emptyL)) ∧ Ext w w'
    go_enter Try.func88, Try.ntmps88
    go_wp2_with fail
    refine (implEmptyMapKey_any _).mono ?_
    rintro e w1 ⟨rfl, hx⟩
    have B2 := Lib.hid ((Blk.new w 27 _).ext hx)
    have XW := Lib.hid ((ext_alloc w _).trans hx)
    clear hx
    go_wp2_with (refine wpl_storeN B2.out aggKey hk rfl rfl _ _ rfl rfl rfl rfl ?_)
    refine bodyPost_ret (results_blk rfl _ rfl aggKey hk (B2.out.setRow _)) rfl ?_
    exact ⟨rfl, XW.out.setRow (Nat.le_refl _) _⟩
  | node x l r =>
    obtain ⟨g, pl, pr, rfl, hb, _⟩ := h
    obtain ⟨hx0, he, _⟩ := hok
    have HB := Lib.hid hb
    have HX0 := Lib.hid hx0
    have HE := Lib.hid he
    have hk := (hashL_ok 5 (nodeL x)).1
    have hsz := (Nd.st hx0).size
    clear hb hx0 he
    show Calls Try.prog 88 #[.pointer (some ⟨g, 0, none⟩)] w fun e w' => e = .returned (.agg (numsA .u8 (hashL 5 (nodeL x)))) ∧ Ext w w'
    go_enter Try.func88, Try.ntmps88
    go_wp2_with (refine wpl_loadP (off := 0) (sub := x.enc.toArray) (HB.out.alloc _) aggNodeI hsz (enc_in x pl pr) rfl _ rfl rfl ?_)
    refine (nodeKey_any x HX0.out HE.out _).mono ?_
    rintro e w1 ⟨rfl, hx⟩
    have B2 := Lib.hid ((Blk.new w 27 _).ext hx)
    have XW := Lib.hid ((ext_alloc w _).trans hx)
    clear hx
    go_wp2_with (refine wpl_storeN B2.out aggKey hk rfl rfl _ _ rfl rfl rfl rfl ?_)
    refine bodyPost_ret (results_blk rfl _ rfl aggKey hk (B2.out.setRow _)) rfl ?_
    exact ⟨rfl, XW.out.setRow (Nat.le_refl _) _⟩
def mapKR (L : List En) : List Int × Int := if okE L then ((trF L.length L).key, 0) else (List.replicate 32 0, 1)
theorem mapKR_ok (L : List En) : K32 (mapKR L).1 := by unfold mapKR; split; exact Tr.key_ok _; exact zero_ok
set_option maxHeartbeats 1000000 in
set_option maxRecDepth 100000 in
theorem specMapKey_any (v : Value) (L : List En) (w : World) (S : Nat → Prop) (h : RdL tEnt w S v L) :
    Calls Try.prog 71 #[v] w fun e w' => e = .returned (.tuple #[.agg (numsA .u8 (mapKR L).1), .int .i64 (mapKR L).2]) ∧ Ext w w' := by
  have H := Lib.hid h
  have hok := h.choose_spec.choose_spec.2.2.2.2
  have hc := fun W hW => l04Ok_any v L W S hW
  have hn := fun (hb : okE L = true) W hW => l04Nodes_any L.length v L (Nat.le_refl _) (by have := hb; rw [okE_eq, Bool.and_eq_true] at this; simpa using this.2) (good_of hb hok) W S hW
  obtain ⟨A, cap, rfl, hcap, hlen, _⟩ := h
  cases hb : okE L with
  | false =>
    simp only [mapKR, hb, Bool.false_eq_true, if_false]
    simp only [hb] at hc
    clear hb hn
    go_enter Try.func71, Try.ntmps71
    go_wp2_with fail
    refine (hc _ (H.out.ext (by decide) (ext_alloc _ _))).mono ?_
    rintro e w1 ⟨rfl, hx⟩
    have B2 := Lib.hid ((Blk.new w 27 _).ext hx)
    have XW := Lib.hid ((ext_alloc w _).trans hx)
    clear hx
    go_wp2_with (refine wpl_storeN (xs := List.replicate 32 0) B2.out aggKey rfl rfl rfl _ _ rfl rfl rfl rfl ?_)
    refine bodyPost_ret (results_blk2 rfl _ rfl aggKey rfl (B2.out.setRow _) rfl) rfl ?_
    exact ⟨rfl, XW.out.setRow (Nat.le_refl _) _⟩
  | true =>
    replace hn := hn hb
    simp only [mapKR, hb, if_true]
    simp only [hb] at hc
    clear hb
    obtain ⟨T, hT⟩ : ∃ T, trF L.length L = T := ⟨_, rfl⟩
    rw [hT] at hn ⊢
    have hk := T.key_ok.1
    clear hT
    go_enter Try.func71, Try.ntmps71
    go_wp2_with fail
    refine (hc _ (H.out.ext (by decide) (ext_alloc _ _))).mono ?_
    rintro e w1 ⟨rfl, hx⟩
    have B2 := Lib.hid ((Blk.new w 27 _).ext hx)
    have XW := Lib.hid ((ext_alloc w _).trans hx)
    clear hx
    go_wp2_with fail
    refine (hn _ (H.out.ext (by decide) XW.out)).mono ?_
    rintro e w2 ⟨v2, rfl, ho, hx⟩
    replace B2 := Lib.hid (B2.out.ext hx)
    replace XW := Lib.hid (XW.out.trans hx)
    obtain ⟨A2, n2, c2, rfl⟩ := ho.shape3
    clear hx ho
    go_wp2_with (first
      | (refine wpl_storeNew aggKey hk rfl rfl _ _ rfl rfl rfl rfl ?_)
      | (refine wpl_loadN (Blk.new w2 27 (numsA .u8 T.key)) aggKey hk rfl _ rfl rfl ?_)
      | (refine wpl_storeN (B2.out.alloc _) aggKey hk rfl rfl _ _ rfl rfl rfl rfl ?_))
    refine bodyPost_ret (results_blk2 rfl _ rfl aggKey hk ((B2.out.alloc _).setRow _) rfl) rfl ?_
    exact ⟨rfl, (XW.out.alloc _).setRow (Nat.le_refl _) _⟩
/-- the tree that grows of entries with their priorities -/
def GrowC (f : Nat) : Prop := ∀ (v u : Value) (L : List En), L.length ≤ f → L.length ≤ 64 → good L → ∀ (w : World) (S S' : Nat → Prop), RdL tEnt w S v L → RdL tKey w S' u (prios L) →
    Calls Try.prog 140 #[v, u] w fun e w' => ∃ v', e = .returned v' ∧ TrAt w' v' (trF f L) ∧ Ext w w'
set_option maxHeartbeats 1000000 in
set_option maxRecDepth 100000 in
theorem grow_nil (f : Nat) (v u : Value) (L : List En) (h0 : L.length = 0) (w : World) (S S' : Nat → Prop) (h : RdL tEnt w S v L) (h' : RdL tKey w S' u (prios L)) :
    Calls Try.prog 140 #[v, u] w fun e w' => ∃ v', e = .returned v' ∧ TrAt w' v' (trF f L) ∧ Ext w w' := by
  rw [trF_nil _ _ h0]
  obtain ⟨A, cap, rfl, hcap, hlen, _⟩ := h
  obtain ⟨A', cap', rfl, hcap', hlen', _⟩ := h'
  rw [h0]
  clear h0 hcap hlen hcap' hlen'
  go_enter Try.func140, Try.ntmps140
  go_wp2
  go_ret
  exact ⟨_, rfl, rfl, Ext.refl _⟩
theorem yields_loadS {P : Program} {ops : Array Oper} {op : Oper} {a : Act} {S : World → Prop} {t : Nat} (g o : Nat) (cs : List Value) (ht : Agg P t cs.length) (hc : ∀ W, S W → ∀ j u, cs[j]? = some u → W.cell? ⟨g, o + j, none⟩ = some u) (hw : Region.wanted op (yielded ops a.tmps) = true) (x : Operand) (ho : op.op = .load t x) (hx : a.eval x = .pointer (some ⟨g, o, none⟩)) :
    YieldsIf P ops S op (.agg cs.toArray) a := Or.inl ⟨hw, fun W hW => by
  have hl := run_loadVar_at (P := P) (w := W) (t := t) ⟨g, o, none⟩ cs ht (fun j u hu => by rw [Addr.add_lit]; exact hc W hW j u hu)
  unfold execOp
  simp only [ho, hx, Instr.loadAt, Instr.sureAddr, Sem.run_bind, Sem.run_pure, Result.andThen_ok, hl]⟩
theorem enc_66 {x : Nd} (h : x.ok) (p q : Value) : (x.enc ++ [p, q]).toArray[66]? = some p := by
  rw [List.getElem?_toArray, List.getElem?_append_right (by rw [Nd.enc_length h]; decide), Nd.enc_length h]; rfl
theorem enc_67 {x : Nd} (h : x.ok) (p q : Value) : (x.enc ++ [p, q]).toArray[67]? = some q := by
  rw [List.getElem?_toArray, List.getElem?_append_right (by rw [Nd.enc_length h]; decide), Nd.enc_length h]; rfl
theorem splice_tr {x : Nd} (h : x.ok) (p q : Value) : splice (zNd ++ [p, q]).toArray 0 x.enc.toArray.toList = (x.enc ++ [p, q]).toArray := by
  have := splice_next [] (zNd ++ [p, q]) x.enc (o := 0) rfl
  rw [Nd.enc_length h, show (zNd ++ [p, q]).drop 66 = [p, q] from rfl] at this
  simpa using this
theorem RdL.headN {α : Type} {T : Ty α} {w : World} {S : Nat → Prop} {A : Option Addr} {xs : List α} {n cap : Nat} (h : RdL T w S (.slice A n cap) xs) (hn : n = xs.length) {k : Nat} (hk : k ≤ n) : RdL T w S (.slice A k cap) (xs.take k) := by
  subst hn; exact h.head hk
theorem RdL.cutN {α : Type} {T : Ty α} {w : World} {S : Nat → Prop} {A : Option Addr} {xs : List α} {n cap : Nat} (h : RdL T w S (.slice A n cap) xs) (hn : n = xs.length) {k : Nat} (hk : k ≤ n) :
    RdL T w S (.slice (if cap = k then A else A.map (·.add (k * T.sz))) (n - k) (cap - k)) (xs.drop k) := by
  subst hn; exact h.cut hk
set_option maxHeartbeats 1000000 in
set_option maxRecDepth 100000 in
theorem grow_cons (f : Nat) (ih : GrowC f) (A A' : Option Addr) (cap cap' : Nat) (L : List En) (h0 : ¬ L.length = 0) (hf : L.length ≤ f + 1) (h64 : L.length ≤ 64) (hg : good L) (w : World) (S S' : Nat → Prop) (h : RdL tEnt w S (.slice A L.length cap) L) (h' : RdL tKey w S' (.slice A' L.length cap') (prios L)) :
    Calls Try.prog 140 #[.slice A L.length cap, .slice A' L.length cap'] w fun e w' => ∃ v', e = .returned v' ∧ TrAt w' v' (trF (f + 1) L) ∧ Ext w w' := by
  have hlt := topE_lt (L := L) (by omega)
  have hND := trF_ok (f + 1) L hg
  rw [trF_cons _ _ h0] at hND ⊢
  have HTE := Lib.hid (show topE L = topI (prios L) L.length from rfl)
  obtain ⟨k, hk⟩ : ∃ k, topE L = k := ⟨_, rfl⟩
  simp only [hk] at hlt hND ⊢
  rw [hk] at HTE
  rw [gE_lt hlt] at hND ⊢
  have H := Lib.hid h
  have HP := Lib.hid h'
  obtain ⟨A1, cap1, e1, hcap, hlen, hrd, hok⟩ := h
  injection e1 with e1 e2 e3
  subst e1 e3
  clear e2
  obtain ⟨A1, cap1, e1, hcap', hlen', hrd', hok'⟩ := h'
  injection e1 with e1 e2 e3
  subst e1 e3
  clear e2
  have hpl := prios_length L
  rw [hpl] at hcap'
  obtain ⟨gl, ol, rfl, hs0, hc⟩ := hrd.elem hok k hlt
  obtain ⟨g, o, rfl, hs1, hc1⟩ := hrd'.elem hok' 0 (by omega)
  have ihl := fun (W : World) (hW : RdL tEnt W S (.slice (some ⟨gl, ol, none⟩) L.length cap) L) (hW' : RdL tKey W S' (.slice (some ⟨g, o, none⟩) L.length cap') (prios L)) => ih _ _ (L.take k) (by rw [List.length_take]; omega) (by rw [List.length_take]; omega) (hg.take k) W S S' (RdL.headN (k := k) (show RdL tEnt W S (.slice (some ⟨gl, ol, none⟩) L.length cap) L from hW) rfl (by omega)) (by rw [prios_take]; exact RdL.headN (k := k) (show RdL tKey W S' (.slice (some ⟨g, o, none⟩) L.length cap') (prios L) from hW') hpl.symm (by omega))
  have ihr := fun (W : World) (hW : RdL tEnt W S (.slice (some ⟨gl, ol, none⟩) L.length cap) L) (hW' : RdL tKey W S' (.slice (some ⟨g, o, none⟩) L.length cap') (prios L)) => ih _ _ (L.drop (k + 1)) (by rw [List.length_drop]; omega) (by rw [List.length_drop]; omega) (hg.drop (k + 1)) W S S' (RdL.cutN (k := k + 1) (show RdL tEnt W S (.slice (some ⟨gl, ol, none⟩) L.length cap) L from hW) rfl (by omega)) (by rw [prios_drop]; exact RdL.cutN (k := k + 1) (show RdL tKey W S' (.slice (some ⟨g, o, none⟩) L.length cap') (prios L) from hW') hpl.symm (by omega))
  simp only [Option.map_some, Addr.add_lit, show tEnt.sz = 2 from rfl, show tKey.sz = 32 from rfl] at ihr
  obtain ⟨TL, hTL⟩ : ∃ T, trF f (L.take k) = T := ⟨_, rfl⟩
  obtain ⟨TR, hTR⟩ : ∃ T, trF f (L.drop (k + 1)) = T := ⟨_, rfl⟩
  simp only [hTL] at ihl hND ⊢
  simp only [hTR] at ihr hND ⊢
  have HND := Lib.hid hND.1
  have HOKL := Lib.hid hND.2.2.2.2.1
  have HOKR := Lib.hid hND.2.2.2.2.2
  have KL := Lib.hid TL.key_ok.1
  have KR := Lib.hid TR.key_ok.1
  have hc0 : ∀ W, Ext w W → ∀ j u, ([Value.string L[k].1, .string L[k].2] : List Value)[j]? = some u → W.cell? ⟨gl, ol + k * 2 + j, none⟩ = some u := fun W hW j u hu => hW.cell (hc j u hu)
  have HC := Lib.hid hc0
  obtain ⟨ps, hps⟩ : ∃ ps, prios L = ps := ⟨_, rfl⟩
  rw [hps] at hpl hrd' hok' HP HTE
  simp only [hps] at ihl ihr
  have Hrd' := Lib.hid hrd'
  have Hok' := Lib.hid hok'
  have HPL := Lib.hid hpl
  have HTK := Lib.hid (show ∀ i, i ≤ L.length → topI ps i < L.length from fun i hi => by
    rcases Nat.eq_zero_or_pos i with rfl | h
    · rw [topI_zero]; omega
    · have := topI_lt ps i h; omega)
  have HTS := Lib.hid (topI_succ ps)
  have HT0 := Lib.hid (topI_zero ps)
  have hi7 : ((L.length : Int) == 0) = false := by rw [beq_eq_false_iff_ne]; omega
  have hi8 : (L.length : Int) ≤ (cap : Int) := by omega
  have hi9 : (L.length : Int) ≤ (cap' : Int) := by omega
  clear hc hc1 hrd hok hrd' hok' hTL hTR hk hND hc0 hpl hps hs0 hs1
  go_enter Try.func140, Try.ntmps140
  go_wp2
  go_loopw [5, 14] (fun b i wr => ∃ j : Nat, j ≤ L.length ∧ i = .int .i64 j ∧ b = .int .i64 (topI ps j) ∧ Ext w wr) (fun _ i _ => L.length - (intOf i).toNat)
  case atStart => exact ⟨0, by omega, rfl, by rw [HT0.out]; rfl, Ext.refl _⟩
  case round =>
    obtain ⟨i, hi, rfl, rfl, hx⟩ := hrel
    have HX := Lib.hid hx
    clear hx
    obtain ⟨t, ht⟩ : ∃ t, topI ps i = t := ⟨_, rfl⟩
    have htl := HTK.out i hi
    have hts := HTS.out i
    rw [ht] at htl hts ⊢
    have HT := Lib.hid ht
    clear ht
    by_cases hlt2 : i < L.length
    · have hil : i < ps.length := by rw [HPL.out]; exact hlt2
      have htl2 : t < ps.length := by rw [HPL.out]; exact htl
      rw [gK_lt hil, gK_lt htl2] at hts
      have HTSI := Lib.hid hts
      clear hts
      obtain ⟨g2, o2, e2, hs2, hci⟩ := Hrd'.out.elem Hok'.out i hil
      injection e2 with e2
      injection e2 with e3 e4
      subst e3 e4
      obtain ⟨g2, o2, e2, hs2, hct⟩ := Hrd'.out.elem Hok'.out t htl2
      injection e2 with e2
      injection e2 with e3 e4
      subst e3 e4
      have HKI := Lib.hid (show K32 ps[i] from Hok'.out _ (List.getElem_mem hil))
      have HKT := Lib.hid (show K32 ps[t] from Hok'.out _ (List.getElem_mem htl2))
      have HDI := Lib.hid (show ∀ j u, (nums .u8 ps[i])[j]? = some u → wr.cell? ⟨g, o + i * 32 + j, none⟩ = some u from fun j u hu => HX.out.cell (hci j u hu))
      have HDT := Lib.hid (show ∀ j u, (nums .u8 ps[t])[j]? = some u → (wr.alloc (.cells (numsA .u8 ps[i]) 27)).cell? ⟨g, o + t * 32 + j, none⟩ = some u from fun j u hu => (HX.out.alloc _).cell (hct j u hu))
      have B7 := Lib.hid (Blk.new wr 27 (numsA .u8 ps[i]))
      have hj : (0 : Int) ≤ (i : Int) := by omega
      have hj2 : (i : Int) < (L.length : Int) := by omega
      have hj3 : (0 : Int) ≤ (t : Int) := by omega
      have hj4 : (t : Int) < (L.length : Int) := by omega
      clear hci hct
      go_wp2_with (first
        | (refine wpl_load ⟨g, o + i * 32, none⟩ (nums .u8 ps[i]) (by rw [nums_length, HKI.out.1]; exact aggKey) rfl _ rfl rfl (fun j u hu => by rw [Addr.add_lit]; exact HDI.out j u hu) ?_)
        | (refine wpl_storeNew aggKey HKI.out.1 rfl rfl _ _ rfl rfl rfl rfl ?_))
      refine wp_region_held_drew (S := fun W => Ext (wr.alloc (.cells (numsA .u8 ps[i]) 27)) W) (by kernel_rfl) (Ext.refl _).drew (fun hHeld => ?_)
      refine wpAnyH_take (i := 0) (oi := ?oiz1) (v := (.agg (numsA .u8 ps[i]))) ?hiz1 (by kernel_rfl) (by kernel_rfl) (by kernel_rfl) ?hQz1 ?hyz1 (by assumption) ?restz1
      case hiz1 => simp only [List.getElem?_toArray, List.getElem?_cons_zero, List.getElem?_cons_succ]; rfl
      case hQz1 => exact fun _ _ _ h => h
      case hyz1 => refine yields_loadB B7.out aggKey (sizeN HKI.out.1) ?_ _ rfl rfl; rfl
      try simp only [Act.put, List.setIfInBounds_toArray, List.set_cons_zero, List.set_cons_succ]
      refine wpAnyH_take (i := 1) (oi := ?oiz2) (v := ?vz2) ?hiz2 (by kernel_rfl) (by kernel_rfl) (by kernel_rfl) ?hQz2 ?hyz2 (by assumption) ?restz2
      case hiz2 => simp only [List.getElem?_toArray, List.getElem?_cons_zero, List.getElem?_cons_succ]; rfl
      case hQz2 => exact fun _ _ _ h => h
      case hyz2 => exact Or.inl ⟨by rfl, by intro w hSw; (try dsimp only at hSw); go_simp; with_reducible rfl⟩
      try simp only [Act.put, List.setIfInBounds_toArray, List.set_cons_zero, List.set_cons_succ]
      refine wpAnyH_take (i := 2) (oi := ?oiz3) (v := ?vz3) ?hiz3 (by kernel_rfl) (by kernel_rfl) (by kernel_rfl) ?hQz3 ?hyz3 (by assumption) ?restz3
      case hiz3 => simp only [List.getElem?_toArray, List.getElem?_cons_zero, List.getElem?_cons_succ]; rfl
      case hQz3 => exact fun _ _ _ h => h
      case hyz3 => exact Or.inl ⟨by rfl, by intro w hSw; (try dsimp only at hSw); go_simp; with_reducible rfl⟩
      try simp only [Act.put, List.setIfInBounds_toArray, List.set_cons_zero, List.set_cons_succ]
      refine wpAnyH_take (i := 3) (oi := ?oiz4) (v := ?vz4) ?hiz4 (by kernel_rfl) (by kernel_rfl) (by kernel_rfl) ?hQz4 ?hyz4 (by assumption) ?restz4
      case hiz4 => simp only [List.getElem?_toArray, List.getElem?_cons_zero, List.getElem?_cons_succ]; rfl
      case hQz4 => exact fun _ _ _ h => h
      case hyz4 => exact Or.inl ⟨by rfl, by intro w hSw; (try dsimp only at hSw); go_simp; with_reducible rfl⟩
      try simp only [Act.put, List.setIfInBounds_toArray, List.set_cons_zero, List.set_cons_succ]
      refine wpAnyH_take (i := 4) (oi := ?oiz5) (v := (.agg (numsA .u8 ps[t]))) ?hiz5 (by kernel_rfl) (by kernel_rfl) (by kernel_rfl) ?hQz5 ?hyz5 (by assumption) ?restz5
      case hiz5 => simp only [List.getElem?_toArray, List.getElem?_cons_zero, List.getElem?_cons_succ]; rfl
      case hQz5 => exact fun _ _ _ h => h
      case hyz5 => refine yields_loadR g (o + t * 32) (nums .u8 ps[t]) (by rw [nums_length, HKT.out.1]; exact aggKey) HDT.out ?_ _ rfl rfl; rfl
      try simp only [Act.put, List.setIfInBounds_toArray, List.set_cons_zero, List.set_cons_succ]
      refine wpAnyH_ready (rs := [5]) (by kernel_rfl) (by simp) (AllReadyH.cons (o := ?oy65) ?hy65 (fun K hK => ?sy65) AllReadyH.nil)
      case hy65 => simp only [List.getElem?_toArray, List.getElem?_cons_zero, List.getElem?_cons_succ]; rfl
      go_simp
      refine (compareKeys_any ps[i] ps[t] HKI.out HKT.out _).mono ?_
      rintro e w2 ⟨rfl, hx⟩
      have hH2 := hHeld.trans hx
      refine hK.out _ _ hH2 (fun _ => ?_)
      clear hHeld hK K
      have hHeld := hH2
      clear hH2
      try simp only [Act.put, List.setIfInBounds_toArray, List.set_cons_zero, List.set_cons_succ]
      refine wpAnyH_take (i := 6) (oi := ?oiz7) (v := ?vz7) ?hiz7 (by kernel_rfl) (by kernel_rfl) (by kernel_rfl) ?hQz7 ?hyz7 (by assumption) ?restz7
      case hiz7 => simp only [List.getElem?_toArray, List.getElem?_cons_zero, List.getElem?_cons_succ]; rfl
      case hQz7 => exact fun _ _ _ h => h
      case hyz7 => exact Or.inl ⟨by rfl, by intro w hSw; (try dsimp only at hSw); go_simp; with_reducible rfl⟩
      try simp only [Act.put, List.setIfInBounds_toArray, List.set_cons_zero, List.set_cons_succ]
      refine wpAnyH_done (by kernel_rfl) ?_ _
      have HX2 := Lib.hid ((HX.out.alloc (.cells (numsA .u8 ps[i]) 27)).trans hHeld)
      clear hHeld
      by_cases hcm : 0 < cmpL ps[i] ps[t]
      · have HS := Lib.hid (show topI ps (i + 1) = i by rw [HTSI.out, if_pos hcm])
        go_wp2
        go_roundw
        case rel => exact ⟨i + 1, by omega, by go_num, by rw [HS.out], HX2.out⟩
        case measure => simp [intOf]; omega
      · have HS := Lib.hid (show topI ps (i + 1) = t by rw [HTSI.out, if_neg hcm])
        go_wp2
        go_roundw
        case rel => exact ⟨i + 1, by omega, by go_num, by rw [HS.out], HX2.out⟩
        case measure => simp [intOf]; omega
    · obtain rfl : i = L.length := by omega
      have htk : t = k := by rw [← HT.out, HTE.out]
      subst htk
      clear hts htl HTK HTS HT0 hi
      have q1 : (t : Int) ≤ (cap : Int) := by omega
      have q2 : (t : Int) ≤ (cap' : Int) := by omega
      have q3 : (t : Int) + 1 ≤ (L.length : Int) := by omega
      have q4 : (t : Int) + 1 ≤ (cap : Int) := by omega
      have q5 : (t : Int) + 1 ≤ (cap' : Int) := by omega
      have q6 : (0 : Int) ≤ (t : Int) + 1 := by omega
      have q7 : (0 : Int) ≤ (t : Int) := by omega
      have q8 : IntKind.i64.wrap ((t : Int) + 1) = (t : Int) + 1 := by rw [IntKind.wrap_i64]; omega
      go_wp2_with fail
      refine wp_region_held_drew (S := fun W => Ext wr W) (by kernel_rfl) (Ext.refl _).drew (fun hHeld => ?_)
      refine wpAnyH_take (i := 0) (oi := ?oiz8) (v := ?vz8) ?hiz8 (by kernel_rfl) (by kernel_rfl) (by kernel_rfl) ?hQz8 ?hyz8 (by assumption) ?restz8
      case hiz8 => simp only [List.getElem?_toArray, List.getElem?_cons_zero, List.getElem?_cons_succ]; rfl
      case hQz8 => exact fun _ _ _ h => h
      case hyz8 => exact Or.inl ⟨by rfl, by intro w hSw; (try dsimp only at hSw); go_simp; with_reducible rfl⟩
      try simp only [Act.put, List.setIfInBounds_toArray, List.set_cons_zero, List.set_cons_succ]
      refine wpAnyH_take (i := 1) (oi := ?oiz9) (v := ?vz9) ?hiz9 (by kernel_rfl) (by kernel_rfl) (by kernel_rfl) ?hQz9 ?hyz9 (by assumption) ?restz9
      case hiz9 => simp only [List.getElem?_toArray, List.getElem?_cons_zero, List.getElem?_cons_succ]; rfl
      case hQz9 => exact fun _ _ _ h => h
      case hyz9 => exact Or.inl ⟨by rfl, by intro w hSw; (try dsimp only at hSw); go_simp; with_reducible rfl⟩
      try simp only [Act.put, List.setIfInBounds_toArray, List.set_cons_zero, List.set_cons_succ]
      refine wpAnyH_take (i := 2) (oi := ?oiz10) (v := ?vz10) ?hiz10 (by kernel_rfl) (by kernel_rfl) (by kernel_rfl) ?hQz10 ?hyz10 (by assumption) ?restz10
      case hiz10 => simp only [List.getElem?_toArray, List.getElem?_cons_zero, List.getElem?_cons_succ]; rfl
      case hQz10 => exact fun _ _ _ h => h
      case hyz10 => exact Or.inl ⟨by rfl, by intro w hSw; (try dsimp only at hSw); go_simp; with_reducible rfl⟩
      try simp only [Act.put, List.setIfInBounds_toArray, List.set_cons_zero, List.set_cons_succ]
      refine wpAnyH_take (i := 3) (oi := ?oiz11) (v := ?vz11) ?hiz11 (by kernel_rfl) (by kernel_rfl) (by kernel_rfl) ?hQz11 ?hyz11 (by assumption) ?restz11
      case hiz11 => simp only [List.getElem?_toArray, List.getElem?_cons_zero, List.getElem?_cons_succ]; rfl
      case hQz11 => exact fun _ _ _ h => h
      case hyz11 => exact Or.inl ⟨by rfl, by intro w hSw; (try dsimp only at hSw); go_simp; with_reducible rfl⟩
      try simp only [Act.put, List.setIfInBounds_toArray, List.set_cons_zero, List.set_cons_succ]
      refine wpAnyH_take (i := 4) (oi := ?oiz12) (v := ?vz12) ?hiz12 (by kernel_rfl) (by kernel_rfl) (by kernel_rfl) ?hQz12 ?hyz12 (by assumption) ?restz12
      case hiz12 => simp only [List.getElem?_toArray, List.getElem?_cons_zero, List.getElem?_cons_succ]; rfl
      case hQz12 => exact fun _ _ _ h => h
      case hyz12 => exact Or.inl ⟨by rfl, by intro w hSw; (try dsimp only at hSw); go_simp; with_reducible rfl⟩
      try simp only [Act.put, List.setIfInBounds_toArray, List.set_cons_zero, List.set_cons_succ]
      refine wpAnyH_take (i := 5) (oi := ?oiz13) (v := ?vz13) ?hiz13 (by kernel_rfl) (by kernel_rfl) (by kernel_rfl) ?hQz13 ?hyz13 (by assumption) ?restz13
      case hiz13 => simp only [List.getElem?_toArray, List.getElem?_cons_zero, List.getElem?_cons_succ]; rfl
      case hQz13 => exact fun _ _ _ h => h
      case hyz13 => exact Or.inl ⟨by rfl, by intro w hSw; (try dsimp only at hSw); go_simp; with_reducible rfl⟩
      try simp only [Act.put, List.setIfInBounds_toArray, List.set_cons_zero, List.set_cons_succ]
      refine wpAnyH_take (i := 7) (oi := ?oiz14) (v := ?vz14) ?hiz14 (by kernel_rfl) (by kernel_rfl) (by kernel_rfl) ?hQz14 ?hyz14 (by assumption) ?restz14
      case hiz14 => simp only [List.getElem?_toArray, List.getElem?_cons_zero, List.getElem?_cons_succ]; rfl
      case hQz14 => exact fun _ _ _ h => h
      case hyz14 => exact Or.inl ⟨by rfl, by intro w hSw; (try dsimp only at hSw); go_simp; with_reducible rfl⟩
      try simp only [Act.put, List.setIfInBounds_toArray, List.set_cons_zero, List.set_cons_succ]
      refine wpAnyH_take (i := 8) (oi := ?oiz15) (v := ?vz15) ?hiz15 (by kernel_rfl) (by kernel_rfl) (by kernel_rfl) ?hQz15 ?hyz15 (by assumption) ?restz15
      case hiz15 => simp only [List.getElem?_toArray, List.getElem?_cons_zero, List.getElem?_cons_succ]; rfl
      case hQz15 => exact fun _ _ _ h => h
      case hyz15 => exact Or.inl ⟨by rfl, by intro w hSw; (try dsimp only at hSw); go_simp; with_reducible rfl⟩
      try simp only [Act.put, List.setIfInBounds_toArray, List.set_cons_zero, List.set_cons_succ]
      refine wpAnyH_take (i := 9) (oi := ?oiz16) (v := ?vz16) ?hiz16 (by kernel_rfl) (by kernel_rfl) (by kernel_rfl) ?hQz16 ?hyz16 (by assumption) ?restz16
      case hiz16 => simp only [List.getElem?_toArray, List.getElem?_cons_zero, List.getElem?_cons_succ]; rfl
      case hQz16 => exact fun _ _ _ h => h
      case hyz16 => exact Or.inl ⟨by rfl, by intro w hSw; (try dsimp only at hSw); go_simp; with_reducible rfl⟩
      try simp only [Act.put, List.setIfInBounds_toArray, List.set_cons_zero, List.set_cons_succ]
      refine wpAnyH_take (i := 10) (oi := ?oiz17) (v := ?vz17) ?hiz17 (by kernel_rfl) (by kernel_rfl) (by kernel_rfl) ?hQz17 ?hyz17 (by assumption) ?restz17
      case hiz17 => simp only [List.getElem?_toArray, List.getElem?_cons_zero, List.getElem?_cons_succ]; rfl
      case hQz17 => exact fun _ _ _ h => h
      case hyz17 => exact Or.inl ⟨by rfl, by intro w hSw; (try dsimp only at hSw); go_simp; with_reducible rfl⟩
      try simp only [Act.put, List.setIfInBounds_toArray, List.set_cons_zero, List.set_cons_succ]
      refine wpAnyH_take (i := 11) (oi := ?oiz18) (v := ?vz18) ?hiz18 (by kernel_rfl) (by kernel_rfl) (by kernel_rfl) ?hQz18 ?hyz18 (by assumption) ?restz18
      case hiz18 => simp only [List.getElem?_toArray, List.getElem?_cons_zero, List.getElem?_cons_succ]; rfl
      case hQz18 => exact fun _ _ _ h => h
      case hyz18 => exact Or.inl ⟨by rfl, by intro w hSw; (try dsimp only at hSw); go_simp; with_reducible rfl⟩
      try simp only [Act.put, List.setIfInBounds_toArray, List.set_cons_zero, List.set_cons_succ]
      refine wpAnyH_take (i := 12) (oi := ?oiz19) (v := ?vz19) ?hiz19 (by kernel_rfl) (by kernel_rfl) (by kernel_rfl) ?hQz19 ?hyz19 (by assumption) ?restz19
      case hiz19 => simp only [List.getElem?_toArray, List.getElem?_cons_zero, List.getElem?_cons_succ]; rfl
      case hQz19 => exact fun _ _ _ h => h
      case hyz19 => exact Or.inl ⟨by rfl, by intro w hSw; (try dsimp only at hSw); go_simp; with_reducible rfl⟩
      try simp only [Act.put, List.setIfInBounds_toArray, List.set_cons_zero, List.set_cons_succ]
      refine wpAnyH_take (i := 13) (oi := ?oiz20) (v := ?vz20) ?hiz20 (by kernel_rfl) (by kernel_rfl) (by kernel_rfl) ?hQz20 ?hyz20 (by assumption) ?restz20
      case hiz20 => simp only [List.getElem?_toArray, List.getElem?_cons_zero, List.getElem?_cons_succ]; rfl
      case hQz20 => exact fun _ _ _ h => h
      case hyz20 => exact Or.inl ⟨by rfl, by intro w hSw; (try dsimp only at hSw); go_simp; with_reducible rfl⟩
      try simp only [Act.put, List.setIfInBounds_toArray, List.set_cons_zero, List.set_cons_succ]
      refine wpAnyH_take (i := 14) (oi := ?oiz21) (v := ?vz21) ?hiz21 (by kernel_rfl) (by kernel_rfl) (by kernel_rfl) ?hQz21 ?hyz21 (by assumption) ?restz21
      case hiz21 => simp only [List.getElem?_toArray, List.getElem?_cons_zero, List.getElem?_cons_succ]; rfl
      case hQz21 => exact fun _ _ _ h => h
      case hyz21 => exact Or.inl ⟨by rfl, by intro w hSw; (try dsimp only at hSw); go_simp; with_reducible rfl⟩
      try simp only [Act.put, List.setIfInBounds_toArray, List.set_cons_zero, List.set_cons_succ]
      refine wpAnyH_ready (rs := [6]) (by kernel_rfl) (by simp) (AllReadyH.cons (o := ?oy226) ?hy226 (fun K hK => ?sy226) AllReadyH.nil)
      case hy226 => simp only [List.getElem?_toArray, List.getElem?_cons_zero, List.getElem?_cons_succ]; rfl
      go_simp
      refine (ihl _ (H.out.ext (by decide) (HX.out.trans hHeld)) (HP.out.ext (by decide) (HX.out.trans hHeld))).mono ?_
      rintro e wl ⟨vl, rfl, htl, hx⟩
      obtain ⟨pl, rfl⟩ := htl.ptr
      have HTL := Lib.hid htl
      clear htl
      have hH2 := hHeld.trans hx
      refine hK.out _ _ hH2 (fun _ => ?_)
      clear hHeld hK K
      have hHeld := hH2
      clear hH2
      try simp only [Act.put, List.setIfInBounds_toArray, List.set_cons_zero, List.set_cons_succ]
      refine wpAnyH_ready (rs := [15]) (by kernel_rfl) (by simp) (AllReadyH.cons (o := ?oy2315) ?hy2315 (fun K hK => ?sy2315) AllReadyH.nil)
      case hy2315 => simp only [List.getElem?_toArray, List.getElem?_cons_zero, List.getElem?_cons_succ]; rfl
      go_simp
      refine (ihr _ (H.out.ext (by decide) (HX.out.trans hHeld)) (HP.out.ext (by decide) (HX.out.trans hHeld))).mono ?_
      rintro e wR ⟨vr, rfl, htr, hx⟩
      obtain ⟨pr, rfl⟩ := htr.ptr
      have HTR := Lib.hid htr
      replace HTL := Lib.hid (HTL.out.ext hx)
      clear htr
      have hH2 := hHeld.trans hx
      refine hK.out _ _ hH2 (fun _ => ?_)
      clear hHeld hK K
      have hHeld := hH2
      clear hH2
      try simp only [Act.put, List.setIfInBounds_toArray, List.set_cons_zero, List.set_cons_succ]
      refine wpAnyH_take (i := 16) (oi := ?oiz24) (v := (.agg (zNd ++ [Value.pointer pl, Value.pointer pr]).toArray)) ?hiz24 (by kernel_rfl) (by kernel_rfl) (by kernel_rfl) ?hQz24 ?hyz24 (by assumption) ?restz24
      case hiz24 => simp only [List.getElem?_toArray, List.getElem?_cons_zero, List.getElem?_cons_succ]; rfl
      case hQz24 => exact fun _ _ _ h => h
      case hyz24 => refine yields_build ?_ rfl (built_tree pl pr); rfl
      try simp only [Act.put, List.setIfInBounds_toArray, List.set_cons_zero, List.set_cons_succ]
      refine wpAnyH_ready (rs := [17]) (by kernel_rfl) (by simp) (AllReadyH.cons (o := ?oy2517) ?hy2517 (fun K hK => ?sy2517) AllReadyH.nil)
      case hy2517 => simp only [List.getElem?_toArray, List.getElem?_cons_zero, List.getElem?_cons_succ]; rfl
      refine stp_box rfl _ rfl rfl ?_
      have HXR := Lib.hid (HX.out.trans hHeld)
      have hH2 := hHeld.alloc (.cells (zNd ++ [Value.pointer pl, Value.pointer pr]).toArray 161)
      refine hK.out _ _ hH2 (fun _ => ?_)
      clear hK K hH2 hHeld
      try simp only [Act.put, List.setIfInBounds_toArray, List.set_cons_zero, List.set_cons_succ]
      refine wpAnyH_take (i := 18) (oi := ?oiz26) (v := ?vz26) ?hiz26 (by kernel_rfl) (by kernel_rfl) (by kernel_rfl) ?hQz26 ?hyz26 (by assumption) ?restz26
      case hiz26 => simp only [List.getElem?_toArray, List.getElem?_cons_zero, List.getElem?_cons_succ]; rfl
      case hQz26 => exact fun _ _ _ h => h
      case hyz26 => exact Or.inl ⟨by rfl, by intro w hSw; (try dsimp only at hSw); go_simp; with_reducible rfl⟩
      try simp only [Act.put, List.setIfInBounds_toArray, List.set_cons_zero, List.set_cons_succ]
      refine wpAnyH_done (by kernel_rfl) ?_ _
      obtain ⟨wb, hwb⟩ : ∃ wb, wR.alloc (.cells (zNd ++ [Value.pointer pl, Value.pointer pr]).toArray 161) = wb := ⟨_, rfl⟩
      obtain ⟨g9, hg9⟩ : ∃ g9, wR.heap.size = g9 := ⟨_, rfl⟩
      have HBT := Lib.hid (show Blk wb g9 161 (zNd ++ [Value.pointer pl, Value.pointer pr]).toArray by rw [← hwb, ← hg9]; exact Blk.new wR _ _)
      have HXb := Lib.hid (show Ext wR wb by rw [← hwb]; exact ext_alloc _ _)
      have HXB := Lib.hid (HXR.out.trans HXb.out)
      have HG9 := Lib.hid (show w.heap.size ≤ g9 by rw [← hg9]; exact HXR.out.size)
      have HGR := Lib.hid (show wR.heap.size ≤ g9 by rw [← hg9]; exact Nat.le_refl _)
      have HR66 := Lib.hid (show (zNd ++ [Value.pointer pl, Value.pointer pr]).toArray[66]? = some (.pointer pl) from rfl)
      have HR67 := Lib.hid (show (zNd ++ [Value.pointer pl, Value.pointer pr]).toArray[67]? = some (.pointer pr) from rfl)
      have HRS := Lib.hid (show (zNd ++ [Value.pointer pl, Value.pointer pr]).toArray.size = 68 from rfl)
      have HTLb := Lib.hid (HTL.out.ext HXb.out)
      have HTRb := Lib.hid (HTR.out.ext HXb.out)
      simp only [hwb, hg9]
      clear hwb hg9 ihl ihr
      have q9 : (t : Int) < (L.length : Int) := by omega
      generalize (if cap = t + 1 then (some (⟨gl, ol, none⟩ : Addr)) else some (⟨gl, ol + (t + 1) * 2, none⟩ : Addr)) = junk1
      generalize (if cap' = t + 1 then (some (⟨g, o, none⟩ : Addr)) else some (⟨g, o + (t + 1) * 32, none⟩ : Addr)) = junk2
      go_wp2_with fail
      refine wp_region_held_drew (S := fun W => Ext w W ∧ W.cell? ⟨g9, 66, none⟩ = some (.pointer pl) ∧ W.cell? ⟨g9, 67, none⟩ = some (.pointer pr)) (by kernel_rfl) ⟨HXB.out.drew, (HBT.out.drewN 1).at_ 66 HR66.out, (HBT.out.drewN 1).at_ 67 HR67.out⟩ (fun hHeld => ?_)
      have HE := Lib.hid ((Ext.refl wb).drew)
      generalize wb.drew = w0 at hHeld HE ⊢
      refine wpAnyH_take (i := 0) (oi := ?oiz27) (v := ?vz27) ?hiz27 (by kernel_rfl) (by kernel_rfl) (by kernel_rfl) ?hQz27 ?hyz27 (by assumption) ?restz27
      case hiz27 => simp only [List.getElem?_toArray, List.getElem?_cons_zero, List.getElem?_cons_succ]; rfl
      case hQz27 => exact fun _ _ _ h => h
      case hyz27 => exact Or.inl ⟨by rfl, by intro w hSw; (try dsimp only at hSw); go_simp; with_reducible rfl⟩
      try simp only [Act.put, List.setIfInBounds_toArray, List.set_cons_zero, List.set_cons_succ]
      refine wpAnyH_take (i := 1) (oi := ?oiz28) (v := ?vz28) ?hiz28 (by kernel_rfl) (by kernel_rfl) (by kernel_rfl) ?hQz28 ?hyz28 (by assumption) ?restz28
      case hiz28 => simp only [List.getElem?_toArray, List.getElem?_cons_zero, List.getElem?_cons_succ]; rfl
      case hQz28 => exact fun _ _ _ h => h
      case hyz28 => exact Or.inl ⟨by rfl, by intro w hSw; (try dsimp only at hSw); go_simp; with_reducible rfl⟩
      try simp only [Act.put, List.setIfInBounds_toArray, List.set_cons_zero, List.set_cons_succ]
      refine wpAnyH_take (i := 2) (oi := ?oiz29) (v := ?vz29) ?hiz29 (by kernel_rfl) (by kernel_rfl) (by kernel_rfl) ?hQz29 ?hyz29 (by assumption) ?restz29
      case hiz29 => simp only [List.getElem?_toArray, List.getElem?_cons_zero, List.getElem?_cons_succ]; rfl
      case hQz29 => exact fun _ _ _ h => h
      case hyz29 => exact Or.inl ⟨by rfl, by intro w hSw; (try dsimp only at hSw); go_simp; with_reducible rfl⟩
      try simp only [Act.put, List.setIfInBounds_toArray, List.set_cons_zero, List.set_cons_succ]
      refine wpAnyH_take (i := 3) (oi := ?oiz30) (v := ?vz30) ?hiz30 (by kernel_rfl) (by kernel_rfl) (by kernel_rfl) ?hQz30 ?hyz30 (by assumption) ?restz30
      case hiz30 => simp only [List.getElem?_toArray, List.getElem?_cons_zero, List.getElem?_cons_succ]; rfl
      case hQz30 => exact fun _ _ _ h => h
      case hyz30 => exact Or.inl ⟨by rfl, by intro w hSw; (try dsimp only at hSw); go_simp; with_reducible rfl⟩
      try simp only [Act.put, List.setIfInBounds_toArray, List.set_cons_zero, List.set_cons_succ]
      refine wpAnyH_take (i := 4) (oi := ?oiz31) (v := ?vz31) ?hiz31 (by kernel_rfl) (by kernel_rfl) (by kernel_rfl) ?hQz31 ?hyz31 (by assumption) ?restz31
      case hiz31 => simp only [List.getElem?_toArray, List.getElem?_cons_zero, List.getElem?_cons_succ]; rfl
      case hQz31 => exact fun _ _ _ h => h
      case hyz31 => exact Or.inl ⟨by rfl, by intro w hSw; have c66 := hSw.2.1; have c67 := hSw.2.2; clear hSw; go_simp; with_reducible rfl⟩
      try simp only [Act.put, List.setIfInBounds_toArray, List.set_cons_zero, List.set_cons_succ]
      refine wpAnyH_take (i := 6) (oi := ?oiz32) (v := ?vz32) ?hiz32 (by kernel_rfl) (by kernel_rfl) (by kernel_rfl) ?hQz32 ?hyz32 (by assumption) ?restz32
      case hiz32 => simp only [List.getElem?_toArray, List.getElem?_cons_zero, List.getElem?_cons_succ]; rfl
      case hQz32 => exact fun _ _ _ h => h
      case hyz32 => exact Or.inl ⟨by rfl, by intro w hSw; (try dsimp only at hSw); go_simp; with_reducible rfl⟩
      try simp only [Act.put, List.setIfInBounds_toArray, List.set_cons_zero, List.set_cons_succ]
      refine wpAnyH_take (i := 7) (oi := ?oiz33) (v := ?vz33) ?hiz33 (by kernel_rfl) (by kernel_rfl) (by kernel_rfl) ?hQz33 ?hyz33 (by assumption) ?restz33
      case hiz33 => simp only [List.getElem?_toArray, List.getElem?_cons_zero, List.getElem?_cons_succ]; rfl
      case hQz33 => exact fun _ _ _ h => h
      case hyz33 => exact Or.inl ⟨by rfl, by intro w hSw; (try dsimp only at hSw); go_simp; with_reducible rfl⟩
      try simp only [Act.put, List.setIfInBounds_toArray, List.set_cons_zero, List.set_cons_succ]
      refine wpAnyH_take (i := 8) (oi := ?oiz34) (v := ?vz34) ?hiz34 (by kernel_rfl) (by kernel_rfl) (by kernel_rfl) ?hQz34 ?hyz34 (by assumption) ?restz34
      case hiz34 => simp only [List.getElem?_toArray, List.getElem?_cons_zero, List.getElem?_cons_succ]; rfl
      case hQz34 => exact fun _ _ _ h => h
      case hyz34 => exact Or.inl ⟨by rfl, by intro w hSw; (try dsimp only at hSw); go_simp; with_reducible rfl⟩
      try simp only [Act.put, List.setIfInBounds_toArray, List.set_cons_zero, List.set_cons_succ]
      refine wpAnyH_take (i := 9) (oi := ?oiz35) (v := ?vz35) ?hiz35 (by kernel_rfl) (by kernel_rfl) (by kernel_rfl) ?hQz35 ?hyz35 (by assumption) ?restz35
      case hiz35 => simp only [List.getElem?_toArray, List.getElem?_cons_zero, List.getElem?_cons_succ]; rfl
      case hQz35 => exact fun _ _ _ h => h
      case hyz35 => exact Or.inl ⟨by rfl, by intro w hSw; have c66 := hSw.2.1; have c67 := hSw.2.2; clear hSw; go_simp; with_reducible rfl⟩
      try simp only [Act.put, List.setIfInBounds_toArray, List.set_cons_zero, List.set_cons_succ]
      refine wpAnyH_take (i := 11) (oi := ?oiz36) (v := ?vz36) ?hiz36 (by kernel_rfl) (by kernel_rfl) (by kernel_rfl) ?hQz36 ?hyz36 (by assumption) ?restz36
      case hiz36 => simp only [List.getElem?_toArray, List.getElem?_cons_zero, List.getElem?_cons_succ]; rfl
      case hQz36 => exact fun _ _ _ h => h
      case hyz36 => exact Or.inl ⟨by rfl, by intro w hSw; (try dsimp only at hSw); go_simp; with_reducible rfl⟩
      try simp only [Act.put, List.setIfInBounds_toArray, List.set_cons_zero, List.set_cons_succ]
      refine wpAnyH_take (i := 12) (oi := ?oiz37) (v := ?vz37) ?hiz37 (by kernel_rfl) (by kernel_rfl) (by kernel_rfl) ?hQz37 ?hyz37 (by assumption) ?restz37
      case hiz37 => simp only [List.getElem?_toArray, List.getElem?_cons_zero, List.getElem?_cons_succ]; rfl
      case hQz37 => exact fun _ _ _ h => h
      case hyz37 => exact Or.inl ⟨by rfl, by intro w hSw; (try dsimp only at hSw); go_simp; with_reducible rfl⟩
      try simp only [Act.put, List.setIfInBounds_toArray, List.set_cons_zero, List.set_cons_succ]
      refine wpAnyH_take (i := 13) (oi := ?oiz38) (v := ?vz38) ?hiz38 (by kernel_rfl) (by kernel_rfl) (by kernel_rfl) ?hQz38 ?hyz38 (by assumption) ?restz38
      case hiz38 => simp only [List.getElem?_toArray, List.getElem?_cons_zero, List.getElem?_cons_succ]; rfl
      case hQz38 => exact fun _ _ _ h => h
      case hyz38 => exact Or.inl ⟨by rfl, by intro w hSw; (try dsimp only at hSw); go_simp; with_reducible rfl⟩
      try simp only [Act.put, List.setIfInBounds_toArray, List.set_cons_zero, List.set_cons_succ]
      refine wpAnyH_take (i := 14) (oi := ?oiz39) (v := (.agg #[.string L[t].1, .string L[t].2])) ?hiz39 (by kernel_rfl) (by kernel_rfl) (by kernel_rfl) ?hQz39 ?hyz39 (by assumption) ?restz39
      case hiz39 => simp only [List.getElem?_toArray, List.getElem?_cons_zero, List.getElem?_cons_succ]; rfl
      case hQz39 => exact fun _ _ _ h => h
      case hyz39 => refine yields_loadS gl (ol + t * 2) [.string L[t].1, .string L[t].2] aggEntryI (fun W hW => HC.out W hW.1) ?_ _ rfl rfl; rfl
      try simp only [Act.put, List.setIfInBounds_toArray, List.set_cons_zero, List.set_cons_succ]
      refine wpAnyH_ready (rs := [5]) (by kernel_rfl) (by simp) (AllReadyH.cons (o := ?oy405) ?hy405 (fun K hK => ?sy405) AllReadyH.nil)
      case hy405 => simp only [List.getElem?_toArray, List.getElem?_cons_zero, List.getElem?_cons_succ]; rfl
      go_simp
      refine (treeKey_any TL HOKL.out _ _ (HTLb.out.ext HE.out)).mono ?_
      rintro e wc ⟨rfl, hx⟩
      replace HE := Lib.hid (HE.out.trans hx)
      have hH2 : Ext w wc ∧ World.cell? wc ⟨g9, 66, none⟩ = some (.pointer pl) ∧ World.cell? wc ⟨g9, 67, none⟩ = some (.pointer pr) := ⟨hHeld.1.trans hx, hx.cell hHeld.2.1, hx.cell hHeld.2.2⟩
      refine hK.out _ _ hH2 (fun _ => ?_)
      clear hHeld hK K hx
      have hHeld := hH2
      clear hH2
      try simp only [Act.put, List.setIfInBounds_toArray, List.set_cons_zero, List.set_cons_succ]
      refine wpAnyH_ready (rs := [10]) (by kernel_rfl) (by simp) (AllReadyH.cons (o := ?oy4110) ?hy4110 (fun K hK => ?sy4110) AllReadyH.nil)
      case hy4110 => simp only [List.getElem?_toArray, List.getElem?_cons_zero, List.getElem?_cons_succ]; rfl
      go_simp
      refine (treeKey_any TR HOKR.out _ _ (HTRb.out.ext HE.out)).mono ?_
      rintro e wd ⟨rfl, hx⟩
      replace HE := Lib.hid (HE.out.trans hx)
      have hH2 : Ext w wd ∧ World.cell? wd ⟨g9, 66, none⟩ = some (.pointer pl) ∧ World.cell? wd ⟨g9, 67, none⟩ = some (.pointer pr) := ⟨hHeld.1.trans hx, hx.cell hHeld.2.1, hx.cell hHeld.2.2⟩
      refine hK.out _ _ hH2 (fun _ => ?_)
      clear hHeld hK K hx
      have hHeld := hH2
      clear hH2
      try simp only [Act.put, List.setIfInBounds_toArray, List.set_cons_zero, List.set_cons_succ]
      refine wpAnyH_take (i := 15) (oi := ?oiz42) (v := (.agg (Nd.enc ⟨TL.key, TR.key, L[t].1, L[t].2⟩).toArray)) ?hiz42 (by kernel_rfl) (by kernel_rfl) (by kernel_rfl) ?hQz42 ?hyz42 (by assumption) ?restz42
      case hiz42 => simp only [List.getElem?_toArray, List.getElem?_cons_zero, List.getElem?_cons_succ]; rfl
      case hQz42 => exact fun _ _ _ h => h
      case hyz42 => refine yields_build ?_ rfl (built_node ⟨TL.key, TR.key, L[t].1, L[t].2⟩ HND.out); rfl
      try simp only [Act.put, List.setIfInBounds_toArray, List.set_cons_zero, List.set_cons_succ]
      refine wpAnyH_take (i := 16) (oi := ?oiz43) (v := ?vz43) ?hiz43 (by kernel_rfl) (by kernel_rfl) (by kernel_rfl) ?hQz43 ?hyz43 (by assumption) ?restz43
      case hiz43 => simp only [List.getElem?_toArray, List.getElem?_cons_zero, List.getElem?_cons_succ]; rfl
      case hQz43 => exact fun _ _ _ h => h
      case hyz43 => exact Or.inl ⟨by rfl, by intro w hSw; (try dsimp only at hSw); go_simp; with_reducible rfl⟩
      try simp only [Act.put, List.setIfInBounds_toArray, List.set_cons_zero, List.set_cons_succ]
      refine wpAnyH_take (i := 17) (oi := ?oiz44) (v := ?vz44) ?hiz44 (by kernel_rfl) (by kernel_rfl) (by kernel_rfl) ?hQz44 ?hyz44 (by assumption) ?restz44
      case hiz44 => simp only [List.getElem?_toArray, List.getElem?_cons_zero, List.getElem?_cons_succ]; rfl
      case hQz44 => exact fun _ _ _ h => h
      case hyz44 => exact Or.inl ⟨by rfl, by intro w hSw; (try dsimp only at hSw); go_simp; with_reducible rfl⟩
      try simp only [Act.put, List.setIfInBounds_toArray, List.set_cons_zero, List.set_cons_succ]
      refine wpAnyH_ready (rs := [18]) (by kernel_rfl) (by simp) (AllReadyH.cons (o := ?oy4518) ?hy4518 (fun K hK => ?sy4518) AllReadyH.nil)
      case hy4518 => simp only [List.getElem?_toArray, List.getElem?_cons_zero, List.getElem?_cons_succ]; rfl
      have HB9 := Lib.hid (HBT.out.ext HE.out)
      refine stp_storeP (off := 0) HB9.out aggNodeI (Nd.st HND.out) (by rw [HRS.out]; decide) rfl _ _ rfl rfl rfl rfl ?_
      have hsp : splice (zNd ++ [Value.pointer pl, Value.pointer pr]).toArray 0 (Nd.enc ⟨TL.key, TR.key, L[t].1, L[t].2⟩).toArray.toList = (Nd.enc ⟨TL.key, TR.key, L[t].1, L[t].2⟩ ++ [Value.pointer pl, Value.pointer pr]).toArray := splice_tr HND.out _ _
      rw [hsp]
      have HB8 := Lib.hid (HB9.out.setRow (Nd.enc ⟨TL.key, TR.key, L[t].1, L[t].2⟩ ++ [Value.pointer pl, Value.pointer pr]).toArray)
      have HEW := Lib.hid (hHeld.1.setRow HG9.out (Nd.enc ⟨TL.key, TR.key, L[t].1, L[t].2⟩ ++ [Value.pointer pl, Value.pointer pr]).toArray)
      refine hK.out _ _ ⟨HEW.out, HB8.out.at_ 66 (enc_66 HND.out _ _), HB8.out.at_ 67 (enc_67 HND.out _ _)⟩ (fun _ => ?_)
      clear hK K hHeld
      try simp only [Act.put, List.setIfInBounds_toArray, List.set_cons_zero, List.set_cons_succ]
      refine wpAnyH_done (by kernel_rfl) ?_ _
      have hfl := (HXb.out.trans HE.out).setRow HGR.out (Nd.enc ⟨TL.key, TR.key, L[t].1, L[t].2⟩ ++ [Value.pointer pl, Value.pointer pr]).toArray
      have HTLf := Lib.hid (HTL.out.ext hfl)
      have HTRf := Lib.hid (HTR.out.ext hfl)
      clear hfl
      go_wp2
      go_ret
      exact ⟨_, rfl, ⟨g9, .pointer pl, .pointer pr, rfl, HB8.out, HTLf.out, HTRf.out⟩, HEW.out⟩
theorem growTr_any (f : Nat) : GrowC f := by
  induction f with
  | zero => exact fun v u L hf h64 hg w S S' h h' => grow_nil 0 v u L (by omega) w S S' h h'
  | succ f ih =>
    intro v u L hf h64 hg w S S' h h'
    by_cases h0 : L.length = 0
    · exact grow_nil (f + 1) v u L h0 w S S' h h'
    · obtain ⟨A, cap, rfl, _⟩ := id h
      obtain ⟨A', cap', rfl, _⟩ := id h'
      rw [prios_length] at h' ⊢
      exact grow_cons f ih A A' cap cap' L h0 hf h64 hg w S S' h h'
end Go.Proofs.Ytmndkbheehcoaaa
/- The tree of a map and its key: the program. No condition. -/
namespace Go.Proofs.Ytmndkbheehcoaaa
open Go.RowKit
set_option linter.unusedVariables false
set_option linter.unusedSimpArgs false

theorem rowKeys : Row Try.prog tKey 124 27 32 := Row.mk' Try.underlying124 (.agg (numsA .u8 (List.replicate 32 0))) (by kernel_rfl) rfl (by decide) (by decide)
set_option maxHeartbeats 1000000 in
set_option maxRecDepth 100000 in
theorem treeOf_any (v : Value) (L : List En) (h64 : L.length ≤ 64) (hg : good L) (w : World) (S : Nat → Prop) (h : RdL tEnt w S v L) :
    Calls Try.prog 87 #[v] w fun e w' => ∃ v', e = .returned v' ∧ TrAt w' v' (trF L.length L) ∧ Ext w w' := by
  have H := Lib.hid h
  obtain ⟨A, cap, rfl, hcap, hlen, hrd, hok⟩ := h
  have Hrd := Lib.hid hrd
  have Hok := Lib.hid hok
  have hgrow := fun u W S' hW hu => growTr_any L.length (.slice A L.length cap) u L (Nat.le_refl _) h64 hg W S S' hW hu
  have HSZ := Lib.hid (show ∀ k (hk : k < L.length), L[k].1.size ≤ 1048576 from fun k hk => by have := entB_le (hg _ (List.getElem_mem hk)).2; omega)
  have HPT := Lib.hid (show ∀ k, k < L.length → (hk : k < L.length) → prios (L.take (k + 1)) = prios (L.take k) ++ [prioL L[k].1] from fun k hk _ => by rw [List.take_succ_eq_append_getElem hk, prios, List.map_append]; rfl)
  have HPA := Lib.hid (show prios (L.take L.length) = prios L by rw [List.take_length])
  have HPLn := Lib.hid (show ∀ k, k ≤ L.length → (prios (L.take k)).length = k from fun k hk => by rw [prios_length, List.length_take]; omega)
  clear hrd hok
  go_enter Try.func87, Try.ntmps87
  go_wp2_with fail
  go_loopw [3, 9] (fun o i wr => ∃ k : Nat, k ≤ L.length ∧ i = .int .i64 k ∧ Own tKey 27 wr w.heap.size o (prios (L.take k)) ∧ Ext w wr) (fun _ i _ => L.length - (intOf i).toNat)
  case atStart => exact ⟨0, by omega, rfl, by rw [List.take_zero]; exact Own.empty tKey w 27 w.heap.size (Nat.le_refl _), ext_alloc _ _⟩
  case round =>
    obtain ⟨k, hk, rfl, ho, hx⟩ := hrel
    have HX := Lib.hid hx
    have HO := Lib.hid ho
    obtain ⟨C, cn, cc, rfl⟩ := ho.shape3
    clear hx ho
    by_cases hlt : k < L.length
    · obtain ⟨g, o, rfl, hs0, hc⟩ := Hrd.out.elem Hok.out k hlt
      have HD := Lib.hid (show ∀ j u, ([Value.string L[k].1, .string L[k].2] : List Value)[j]? = some u → wr.cell? ⟨g, o + k * 2 + j, none⟩ = some u from fun j u hu => HX.out.cell (hc j u hu))
      have hi : (0 : Int) ≤ (k : Int) := by omega
      have hi2 : (k : Int) < (L.length : Int) := by omega
      have hst : St 2 #[.string L[k].1, .string L[k].2] := ⟨rfl, fun u hu => by simp at hu; rcases hu with rfl | rfl <;> rfl⟩
      have hsz := HSZ.out k hlt
      have HKO := Lib.hid (prioL_ok L[k].1)
      have hnl : (nums .u8 (prioL L[k].1)).length = 32 := by rw [nums_length, HKO.out.1]
      have HLN := Lib.hid (HPLn.out k hk)
      have hns : (numsA .u8 (prioL L[k].1)).size = 32 := sizeN HKO.out.1
      clear hc
      go_wp2_with (first
        | (refine wpl_load ⟨g, o + k * 2, none⟩ [.string L[k].1, .string L[k].2] aggEntryI rfl _ rfl rfl (fun j u hu => by rw [Addr.add_lit]; exact HD.out j u hu) ?_)
        | (refine wpl_storeNewB aggEntryI hst rfl rfl _ _ rfl rfl rfl rfl ?_)
        | (refine wpl_conv Try.underlying9 Try.underlying56 Try.underlying5 rfl _ rfl rfl (by omega) ?_; intro A1 c1 w1 hr hx; have HR := Lib.hid hr; have HX1 := Lib.hid ((HX.out.alloc _).trans hx); have HO1 := Lib.hid ((HO.out.alloc _).ext hx); clear hr hx))
      refine (hash_any 4 (by decide) _ (strL L[k].1) _ _ HR.out (by rw [strL_length]; omega)).mono ?_
      rw [← prioL_eq]
      rintro e w2 ⟨rfl, hx⟩
      have HX2 := Lib.hid (HX1.out.trans hx)
      have HO2 := Lib.hid (HO1.out.ext hx)
      clear hx HO1 HX1 HR
      go_wp2_with (at_builtin; go_loud (rw [fold_fillA (numsA .u8 (prioL L[k].1)) _ _ (sizeN HKO.out.1) rfl]); go_loud (refine wpl_append rowKeys rfl _ _ rfl (v := .slice C cn cc) rfl (HO2.out.alloc _) _ _ rfl (A := some ⟨w2.heap.size, 0, none⟩) (ys := [prioL L[k].1]) rfl (rd_one (T := tKey) w2 (prioL L[k].1) HKO.out _) (by intro y hy; obtain rfl := List.mem_singleton.1 hy; exact HKO.out) (by rw [HLN.out]; simp; omega) (HX2.out.alloc _).size ?_); intro v9 w9 ho1 hg1 hat1; have HX9 := Lib.hid ((HO2.out.alloc _).ext_app (HX2.out.alloc _) hg1); have HO9 := Lib.hid ho1; clear ho1 hg1 hat1)
      go_roundw
      case rel => exact ⟨k + 1, by omega, by go_num, by rw [HPT.out k hlt hlt]; exact HO9.out, HX9.out⟩
      case measure => simp [intOf]; omega
    · obtain rfl : k = L.length := by omega
      rw [HPA.out] at HO
      go_wp2_with fail
      refine (hgrow _ _ _ (H.out.ext (by decide) HX.out) HO.out.rd).mono ?_
      rintro e w2 ⟨v2, rfl, ht, hx⟩
      have HX2 := Lib.hid (HX.out.trans hx)
      have HTR := Lib.hid ht
      obtain ⟨p, rfl⟩ := ht.ptr
      clear hx ht hgrow
      go_wp2
      go_ret
      exact ⟨_, rfl, HTR.out, HX2.out⟩
set_option maxHeartbeats 1000000 in
set_option maxRecDepth 100000 in
theorem implMapKey_any (v : Value) (L : List En) (w : World) (S : Nat → Prop) (h : RdL tEnt w S v L) :
    Calls Try.prog 38 #[v] w fun e w' => e = .returned (.tuple #[.agg (numsA .u8 (mapKR L).1), .int .i64 (mapKR L).2]) ∧ Ext w w' := by
  have H := Lib.hid h
  have hok := h.choose_spec.choose_spec.2.2.2.2
  have hc := fun W hW => validEntries_any v L W S hW
  have hn := fun (hb : okE L = true) W hW => treeOf_any v L (by have := hb; rw [okE_eq, Bool.and_eq_true] at this; simpa using this.2) (good_of hb hok) W S hW
  have HTO := Lib.hid (fun hb : okE L = true => trF_ok L.length L (good_of hb hok))
  obtain ⟨A, cap, rfl, hcap, hlen, _⟩ := h
  cases hb : okE L with
  | false =>
    simp only [mapKR, hb, Bool.false_eq_true, if_false]
    simp only [hb] at hc
    clear hb hn
    go_enter Try.func38, Try.ntmps38
    go_wp2_with fail
    refine (hc _ (H.out.ext (by decide) (ext_alloc _ _))).mono ?_
    rintro e w1 ⟨rfl, hx⟩
    have B2 := Lib.hid ((Blk.new w 27 _).ext hx)
    have XW := Lib.hid ((ext_alloc w _).trans hx)
    clear hx
    go_wp2_with (refine wpl_storeN (xs := List.replicate 32 0) B2.out aggKey rfl rfl rfl _ _ rfl rfl rfl rfl ?_)
    refine bodyPost_ret (results_blk2 rfl _ rfl aggKey rfl (B2.out.setRow _) rfl) rfl ?_
    exact ⟨rfl, XW.out.setRow (Nat.le_refl _) _⟩
  | true =>
    replace hn := hn hb
    replace HTO := Lib.hid (HTO.out hb)
    simp only [mapKR, hb, if_true]
    simp only [hb] at hc
    clear hb
    obtain ⟨T, hT⟩ : ∃ T, trF L.length L = T := ⟨_, rfl⟩
    rw [hT] at hn HTO ⊢
    have hk := T.key_ok.1
    clear hT
    go_enter Try.func38, Try.ntmps38
    go_wp2_with fail
    refine (hc _ (H.out.ext (by decide) (ext_alloc _ _))).mono ?_
    rintro e w1 ⟨rfl, hx⟩
    have B2 := Lib.hid ((Blk.new w 27 _).ext hx)
    have XW := Lib.hid ((ext_alloc w _).trans hx)
    clear hx
    go_wp2_with fail
    refine (hn _ (H.out.ext (by decide) XW.out)).mono ?_
    rintro e w2 ⟨v2, rfl, ht, hx⟩
    replace B2 := Lib.hid (B2.out.ext hx)
    replace XW := Lib.hid (XW.out.trans hx)
    have HT := Lib.hid ht
    obtain ⟨p, rfl⟩ := ht.ptr
    clear hx ht hn
    go_wp2_with fail
    refine (treeKey_any T HTO.out _ _ HT.out).mono ?_
    rintro e w3 ⟨rfl, hx⟩
    replace B2 := Lib.hid (B2.out.ext hx)
    replace XW := Lib.hid (XW.out.trans hx)
    clear hx
    go_wp2_with (refine wpl_storeN B2.out aggKey hk rfl rfl _ _ rfl rfl rfl rfl ?_)
    refine bodyPost_ret (results_blk2 rfl _ rfl aggKey hk (B2.out.setRow _) rfl) rfl ?_
    exact ⟨rfl, XW.out.setRow (Nat.le_refl _) _⟩
end Go.Proofs.Ytmndkbheehcoaaa
/- The nodes of a tree that are looked at. No condition. -/
namespace Go.Proofs.Ytmndkbheehcoaaa
open Go.RowKit
set_option linter.unusedVariables false
set_option linter.unusedSimpArgs false

theorem gt_eq (a b : ByteArray) : (!Op.bytesLess a.toList b.toList && !(a.toList == b.toList)) = ltB b a := by
  rw [ltB_eq]
  cases h : ltB a b with
  | true => rw [ltB_asymm h]; rfl
  | false =>
    cases k : ltB b a with
    | true =>
      have hne : a ≠ b := fun e => by subst e; rw [ltB_irrefl] at k; cases k
      have h2 : (a.toList == b.toList) = false := by rw [beq_eq_false_iff_ne]; exact fun e => hne (toList_inj e)
      rw [h2]; rfl
    | false =>
      have := ltB_total h k
      subst this
      simp
/-- the nodes that are met: to the left where p says so, to the right where q does -/
def Tr.sel (p q : ByteArray → Bool) : Tr → List Nd
  | .leaf => []
  | .node x l r => x :: ((if p x.n then l.sel p q else []) ++ (if q x.n then r.sel p q else []))
theorem Tr.sel_le (p q : ByteArray → Bool) (T : Tr) : (T.sel p q).length ≤ T.all.length := by
  induction T with
  | leaf => exact Nat.le_refl _
  | node x l r il ir =>
    simp only [Tr.sel, Tr.all, List.length_cons, List.length_append]
    have h1 : (if p x.n then l.sel p q else []).length ≤ l.all.length := by split; exact il; exact Nat.zero_le _
    have h2 : (if q x.n then r.sel p q else []).length ≤ r.all.length := by split; exact ir; exact Nat.zero_le _
    omega
theorem Tr.sel_all (T : Tr) : T.sel (fun _ => true) (fun _ => true) = T.all := by
  induction T with
  | leaf => rfl
  | node x l r il ir => simp only [Tr.sel, Tr.all, if_true, il, ir]
theorem Tr.sel_ok (p q : ByteArray → Bool) (T : Tr) (h : T.ok) : ∀ x ∈ T.sel p q, tNd.ok x := by
  induction T with
  | leaf => intro x hx; simp [Tr.sel] at hx
  | node y l r il ir =>
    obtain ⟨h1, h2, _, _, h5, h6⟩ := h
    intro x hx
    simp only [Tr.sel, List.mem_cons, List.mem_append] at hx
    rcases hx with rfl | hx | hx
    · exact h1
    · split at hx
      · exact il h5 x hx
      · simp at hx
    · split at hx
      · exact ir h6 x hx
      · simp at hx
theorem TrAt.cells {w : World} {g : Nat} {x : Nd} (hx : x.ok) {pl pr : Value} (h : Blk w g 161 (x.enc ++ [pl, pr]).toArray) : w.cell? ⟨g, 64, none⟩ = some (.string x.n) ∧ w.cell? ⟨g, 66, none⟩ = some pl ∧ w.cell? ⟨g, 67, none⟩ = some pr := by
  refine ⟨?_, h.at_ 66 (enc_66 hx _ _), h.at_ 67 (enc_67 hx _ _)⟩
  have := enc_in x pl pr 64 _ (Nd.at64 hx)
  rw [Nat.zero_add] at this
  exact h.at_ 64 this
set_option maxHeartbeats 1000000 in
set_option maxRecDepth 100000 in
theorem treeNodesA (p q : ByteArray → Bool) (w0 : World) (h1 : ∀ (s : ByteArray) W, Ext w0 W → Calls Try.prog 142 #[.string s] W fun e w' => e = .returned (.bool (p s)) ∧ Ext W w') (h2 : ∀ (s : ByteArray) W, Ext w0 W → Calls Try.prog 142 #[.string s] W fun e w' => e = .returned (.bool (q s)) ∧ Ext W w') (T : Tr) (hok : T.ok) (h64 : T.all.length ≤ 1000) (v : Value) (w : World) (hw : Ext w0 w) (h : TrAt w v T) :
    Calls Try.prog 115 #[v, .func (.func 142) #[] #[], .func (.func 142) #[] #[]] w fun e w' => ∃ v', e = .returned v' ∧ Own tNd 31 w' w.heap.size v' (T.sel p q) ∧ Ext w w' := by
  induction T generalizing v w with
  | leaf =>
    obtain rfl := h
    go_enter Try.func115, Try.ntmps115
    go_wp2
    go_ret
    exact ⟨_, rfl, Own.nil _ _ _ _, Ext.refl _⟩
  | node x l r il ir =>
    obtain ⟨g, pl, pr, rfl, hb, htl, htr⟩ := h
    obtain ⟨hx0, he, _, _, hl5, hr6⟩ := hok
    have hal : l.all.length ≤ 1000 ∧ r.all.length ≤ 1000 := by simp only [Tr.all, List.length_cons, List.length_append] at h64; omega
    have ill := fun W hW hT => il hl5 hal.1 pl W hW hT
    have irr := fun W hW hT => ir hr6 hal.2 pr W hW hT
    have hsl : (l.sel p q).length ≤ 1000 := Nat.le_trans (Tr.sel_le p q l) hal.1
    have hsr : (r.sel p q).length ≤ 1000 := Nat.le_trans (Tr.sel_le p q r) hal.2
    obtain ⟨ppl, rfl⟩ := htl.ptr
    obtain ⟨ppr, rfl⟩ := htr.ptr
    have HB := Lib.hid hb
    have HX0 := Lib.hid hx0
    have HTL := Lib.hid htl
    have HTR := Lib.hid htr
    have HW := Lib.hid hw
    have hsz := (Nd.st hx0).size
    have henc := Nd.enc_length hx0
    have HSL := Lib.hid hsl
    have HSR := Lib.hid hsr
    have HC1 := Lib.hid h1
    have HC2 := Lib.hid h2
    show Calls Try.prog 115 #[.pointer (some ⟨g, 0, none⟩), .func (.func 142) #[] #[], .func (.func 142) #[] #[]] w fun e w' => ∃ v', e = .returned v' ∧ Own tNd 31 w' w.heap.size v' (x :: ((if p x.n then l.sel p q else []) ++ (if q x.n then r.sel p q else []))) ∧ Ext w w'
    clear hb hx0 he htl htr hw il ir hl5 hr6 hal hsl hsr h64 h1 h2
    obtain ⟨wa, hwa⟩ : ∃ wa, wa = w.alloc (.cells x.enc.toArray 31) := ⟨_, rfl⟩
    have HA := Lib.hid (show Ext w wa by rw [hwa]; exact ext_alloc _ _)
    have OS := Lib.hid (show Own tNd 31 wa w.heap.size (.slice (some ⟨w.heap.size, 0, none⟩) 1 1) [x] by
      have := Own.of_blk tNd (w := w.alloc (.cells x.enc.toArray 31)) (base := w.heap.size) (xs := [x]) (by rw [show [x].flatMap tNd.enc = x.enc from by rw [List.flatMap_cons, List.flatMap_nil, List.append_nil]; rfl]; exact Blk.new w 31 x.enc.toArray) (Nat.le_refl _) (by simp) (by intro y hy; obtain rfl := List.mem_singleton.1 hy; exact HX0.out)
      rw [← hwa] at this
      exact this)
    have c64 := fun W hW => (TrAt.cells HX0.out (HB.out.ext (show Ext w W from hW))).1
    have c66 := fun W hW => (TrAt.cells HX0.out (HB.out.ext (show Ext w W from hW))).2.1
    have c67 := fun W hW => (TrAt.cells HX0.out (HB.out.ext (show Ext w W from hW))).2.2
    have C64 := Lib.hid c64
    have C66 := Lib.hid c66
    have C67 := Lib.hid c67
    clear c64 c66 c67
    have hw64 : ∀ o, (w.alloc o).cell? ⟨g, 64, none⟩ = some (.string x.n) := fun o => C64.out _ (ext_alloc w o)
    cases hp : p x.n with
    | true =>
      have h1n := HC1.out x.n wa (HW.out.trans HA.out)
      rw [hp] at h1n
      go_enter Try.func115, Try.ntmps115
      go_wp2_with (refine wpl_loadP (off := 0) (sub := x.enc.toArray) HB.out aggNodeI hsz (enc_in x (.pointer ppl) (.pointer ppr)) rfl _ rfl rfl ?_)
      rw [fold_fill x.enc _ (by rw [henc]; rfl), ← hwa]
      refine h1n.mono ?_
      rintro e w1 ⟨rfl, hx⟩
      have HX1 := Lib.hid (HA.out.trans hx)
      have OS1 := Lib.hid (OS.out.ext hx)
      have d66 := C66.out _ HX1.out
      have d64 := C64.out _ HX1.out
      clear hx h1n hw64
      go_wp2_with fail
      refine (ill _ (HW.out.trans HX1.out) (HTL.out.ext HX1.out)).mono ?_
      rintro e w2 ⟨vl, rfl, ho, hx⟩
      have HX2 := Lib.hid (HX1.out.trans hx)
      have OS2 := Lib.hid (OS1.out.ext hx)
      have ORl := Lib.hid ho.rd
      have d64b := C64.out _ HX2.out
      obtain ⟨Al, cl, rfl⟩ := ho.shape
      clear hx ho ill d64 d66
      go_wp2_with (at_builtin; refine wpl_append rowNd rfl _ _ rfl (v := .slice (some ⟨w.heap.size, 0, none⟩) 1 1) rfl OS2.out _ _ rfl (ys := l.sel p q) rfl (rd_nd ORl.out) (ok_nd ORl.out) (by have := HSL.out; simp only [List.length_singleton]; omega) HX2.out.size ?_; intro v5 w5 ho1 hg1 hat1; have HX5 := Lib.hid (OS2.out.ext_app HX2.out hg1); obtain ⟨B5, n5, c5, rfl⟩ := ho1.shape3; have HO5 := Lib.hid ho1; have d64c := C64.out _ HX5.out; clear ho1 hg1 hat1)
      cases hq : q x.n with
      | true =>
        have h2n := HC2.out x.n w5 (HW.out.trans HX5.out)
        rw [hq] at h2n
        go_wp2_with fail
        refine h2n.mono ?_
        rintro e w6 ⟨rfl, hx⟩
        have HX6 := Lib.hid (HX5.out.trans hx)
        have HO6 := Lib.hid (HO5.out.ext hx)
        have d67 := C67.out _ HX6.out
        clear hx h2n
        go_wp2_with fail
        refine (irr _ (HW.out.trans HX6.out) (HTR.out.ext HX6.out)).mono ?_
        rintro e w7 ⟨vr, rfl, ho, hx⟩
        have HX7 := Lib.hid (HX6.out.trans hx)
        have HO7 := Lib.hid (HO6.out.ext hx)
        have ORr := Lib.hid ho.rd
        obtain ⟨Ar, cr, rfl⟩ := ho.shape
        clear hx ho irr d67
        go_wp2_with (at_builtin; refine wpl_append rowNd rfl _ _ rfl (v := .slice B5 n5 c5) rfl HO7.out _ _ rfl (ys := r.sel p q) rfl (rd_nd ORr.out) (ok_nd ORr.out) (by have := HSL.out; have := HSR.out; simp only [List.length_append, List.length_singleton]; omega) HX7.out.size ?_; intro v8 w8 ho1 hg1 hat1; have HX8 := Lib.hid (HO7.out.ext_app HX7.out hg1); have HO8 := Lib.hid ho1; clear ho1 hg1 hat1)
        go_ret
        refine ⟨_, rfl, ?_, HX8.out⟩
        have := HO8.out
        simpa [hp, hq] using this
      | false =>
        have h2n := HC2.out x.n w5 (HW.out.trans HX5.out)
        rw [hq] at h2n
        go_wp2_with fail
        refine h2n.mono ?_
        rintro e w6 ⟨rfl, hx⟩
        have HX6 := Lib.hid (HX5.out.trans hx)
        have HO6 := Lib.hid (HO5.out.ext hx)
        have d67 := C67.out _ HX6.out
        clear hx h2n
        clear irr d67
        go_wp2
        go_ret
        refine ⟨_, rfl, ?_, HX6.out⟩
        have := HO6.out
        simpa [hp, hq] using this
    | false =>
      have h1n := HC1.out x.n wa (HW.out.trans HA.out)
      rw [hp] at h1n
      go_enter Try.func115, Try.ntmps115
      go_wp2_with (refine wpl_loadP (off := 0) (sub := x.enc.toArray) HB.out aggNodeI hsz (enc_in x (.pointer ppl) (.pointer ppr)) rfl _ rfl rfl ?_)
      rw [fold_fill x.enc _ (by rw [henc]; rfl), ← hwa]
      refine h1n.mono ?_
      rintro e w1 ⟨rfl, hx⟩
      have HX1 := Lib.hid (HA.out.trans hx)
      have OS1 := Lib.hid (OS.out.ext hx)
      have d66 := C66.out _ HX1.out
      have d64 := C64.out _ HX1.out
      clear hx h1n hw64
      have HX5 := HX1
      have HO5 := OS1
      clear ill d66
      cases hq : q x.n with
      | true =>
        have h2n := HC2.out x.n w1 (HW.out.trans HX5.out)
        rw [hq] at h2n
        go_wp2_with fail
        refine h2n.mono ?_
        rintro e w6 ⟨rfl, hx⟩
        have HX6 := Lib.hid (HX5.out.trans hx)
        have HO6 := Lib.hid (HO5.out.ext hx)
        have d67 := C67.out _ HX6.out
        clear hx h2n
        go_wp2_with fail
        refine (irr _ (HW.out.trans HX6.out) (HTR.out.ext HX6.out)).mono ?_
        rintro e w7 ⟨vr, rfl, ho, hx⟩
        have HX7 := Lib.hid (HX6.out.trans hx)
        have HO7 := Lib.hid (HO6.out.ext hx)
        have ORr := Lib.hid ho.rd
        obtain ⟨Ar, cr, rfl⟩ := ho.shape
        clear hx ho irr d67
        go_wp2_with (at_builtin; refine wpl_append rowNd rfl _ _ rfl (v := .slice (some ⟨w.heap.size, 0, none⟩) 1 1) rfl HO7.out _ _ rfl (ys := r.sel p q) rfl (rd_nd ORr.out) (ok_nd ORr.out) (by have := HSL.out; have := HSR.out; simp only [List.length_append, List.length_singleton]; omega) HX7.out.size ?_; intro v8 w8 ho1 hg1 hat1; have HX8 := Lib.hid (HO7.out.ext_app HX7.out hg1); have HO8 := Lib.hid ho1; clear ho1 hg1 hat1)
        go_ret
        refine ⟨_, rfl, ?_, HX8.out⟩
        have := HO8.out
        simpa [hp, hq] using this
      | false =>
        have h2n := HC2.out x.n w1 (HW.out.trans HX5.out)
        rw [hq] at h2n
        go_wp2_with fail
        refine h2n.mono ?_
        rintro e w6 ⟨rfl, hx⟩
        have HX6 := Lib.hid (HX5.out.trans hx)
        have HO6 := Lib.hid (HO5.out.ext hx)
        have d67 := C67.out _ HX6.out
        clear hx h2n
        clear irr d67
        go_wp2
        go_ret
        refine ⟨_, rfl, ?_, HX6.out⟩
        have := HO6.out
        simpa [hp, hq] using this
set_option maxHeartbeats 1000000 in
set_option maxRecDepth 100000 in
theorem treeNodesP (p q : ByteArray → Bool) (c1 c2 : Option Addr) (w0 : World) (h1 : ∀ (s : ByteArray) W, Ext w0 W → Calls Try.prog 153 #[.string s, .pointer c1] W fun e w' => e = .returned (.bool (p s)) ∧ Ext W w') (h2 : ∀ (s : ByteArray) W, Ext w0 W → Calls Try.prog 154 #[.string s, .pointer c2] W fun e w' => e = .returned (.bool (q s)) ∧ Ext W w') (T : Tr) (hok : T.ok) (h64 : T.all.length ≤ 1000) (v : Value) (w : World) (hw : Ext w0 w) (h : TrAt w v T) :
    Calls Try.prog 115 #[v, .func (.func 153) #[] #[.pointer c1], .func (.func 154) #[] #[.pointer c2]] w fun e w' => ∃ v', e = .returned v' ∧ Own tNd 31 w' w.heap.size v' (T.sel p q) ∧ Ext w w' := by
  induction T generalizing v w with
  | leaf =>
    obtain rfl := h
    go_enter Try.func115, Try.ntmps115
    go_wp2
    go_ret
    exact ⟨_, rfl, Own.nil _ _ _ _, Ext.refl _⟩
  | node x l r il ir =>
    obtain ⟨g, pl, pr, rfl, hb, htl, htr⟩ := h
    obtain ⟨hx0, he, _, _, hl5, hr6⟩ := hok
    have hal : l.all.length ≤ 1000 ∧ r.all.length ≤ 1000 := by simp only [Tr.all, List.length_cons, List.length_append] at h64; omega
    have ill := fun W hW hT => il hl5 hal.1 pl W hW hT
    have irr := fun W hW hT => ir hr6 hal.2 pr W hW hT
    have hsl : (l.sel p q).length ≤ 1000 := Nat.le_trans (Tr.sel_le p q l) hal.1
    have hsr : (r.sel p q).length ≤ 1000 := Nat.le_trans (Tr.sel_le p q r) hal.2
    obtain ⟨ppl, rfl⟩ := htl.ptr
    obtain ⟨ppr, rfl⟩ := htr.ptr
    have HB := Lib.hid hb
    have HX0 := Lib.hid hx0
    have HTL := Lib.hid htl
    have HTR := Lib.hid htr
    have HW := Lib.hid hw
    have hsz := (Nd.st hx0).size
    have henc := Nd.enc_length hx0
    have HSL := Lib.hid hsl
    have HSR := Lib.hid hsr
    have HC1 := Lib.hid h1
    have HC2 := Lib.hid h2
    show Calls Try.prog 115 #[.pointer (some ⟨g, 0, none⟩), .func (.func 153) #[] #[.pointer c1], .func (.func 154) #[] #[.pointer c2]] w fun e w' => ∃ v', e = .returned v' ∧ Own tNd 31 w' w.heap.size v' (x :: ((if p x.n then l.sel p q else []) ++ (if q x.n then r.sel p q else []))) ∧ Ext w w'
    clear hb hx0 he htl htr hw il ir hl5 hr6 hal hsl hsr h64 h1 h2
    obtain ⟨wa, hwa⟩ : ∃ wa, wa = w.alloc (.cells x.enc.toArray 31) := ⟨_, rfl⟩
    have HA := Lib.hid (show Ext w wa by rw [hwa]; exact ext_alloc _ _)
    have OS := Lib.hid (show Own tNd 31 wa w.heap.size (.slice (some ⟨w.heap.size, 0, none⟩) 1 1) [x] by
      have := Own.of_blk tNd (w := w.alloc (.cells x.enc.toArray 31)) (base := w.heap.size) (xs := [x]) (by rw [show [x].flatMap tNd.enc = x.enc from by rw [List.flatMap_cons, List.flatMap_nil, List.append_nil]; rfl]; exact Blk.new w 31 x.enc.toArray) (Nat.le_refl _) (by simp) (by intro y hy; obtain rfl := List.mem_singleton.1 hy; exact HX0.out)
      rw [← hwa] at this
      exact this)
    have c64 := fun W hW => (TrAt.cells HX0.out (HB.out.ext (show Ext w W from hW))).1
    have c66 := fun W hW => (TrAt.cells HX0.out (HB.out.ext (show Ext w W from hW))).2.1
    have c67 := fun W hW => (TrAt.cells HX0.out (HB.out.ext (show Ext w W from hW))).2.2
    have C64 := Lib.hid c64
    have C66 := Lib.hid c66
    have C67 := Lib.hid c67
    clear c64 c66 c67
    have hw64 : ∀ o, (w.alloc o).cell? ⟨g, 64, none⟩ = some (.string x.n) := fun o => C64.out _ (ext_alloc w o)
    cases hp : p x.n with
    | true =>
      have h1n := HC1.out x.n wa (HW.out.trans HA.out)
      rw [hp] at h1n
      go_enter Try.func115, Try.ntmps115
      go_wp2_with (refine wpl_loadP (off := 0) (sub := x.enc.toArray) HB.out aggNodeI hsz (enc_in x (.pointer ppl) (.pointer ppr)) rfl _ rfl rfl ?_)
      rw [fold_fill x.enc _ (by rw [henc]; rfl), ← hwa]
      refine h1n.mono ?_
      rintro e w1 ⟨rfl, hx⟩
      have HX1 := Lib.hid (HA.out.trans hx)
      have OS1 := Lib.hid (OS.out.ext hx)
      have d66 := C66.out _ HX1.out
      have d64 := C64.out _ HX1.out
      clear hx h1n hw64
      go_wp2_with fail
      refine (ill _ (HW.out.trans HX1.out) (HTL.out.ext HX1.out)).mono ?_
      rintro e w2 ⟨vl, rfl, ho, hx⟩
      have HX2 := Lib.hid (HX1.out.trans hx)
      have OS2 := Lib.hid (OS1.out.ext hx)
      have ORl := Lib.hid ho.rd
      have d64b := C64.out _ HX2.out
      obtain ⟨Al, cl, rfl⟩ := ho.shape
      clear hx ho ill d64 d66
      go_wp2_with (at_builtin; refine wpl_append rowNd rfl _ _ rfl (v := .slice (some ⟨w.heap.size, 0, none⟩) 1 1) rfl OS2.out _ _ rfl (ys := l.sel p q) rfl (rd_nd ORl.out) (ok_nd ORl.out) (by have := HSL.out; simp only [List.length_singleton]; omega) HX2.out.size ?_; intro v5 w5 ho1 hg1 hat1; have HX5 := Lib.hid (OS2.out.ext_app HX2.out hg1); obtain ⟨B5, n5, c5, rfl⟩ := ho1.shape3; have HO5 := Lib.hid ho1; have d64c := C64.out _ HX5.out; clear ho1 hg1 hat1)
      cases hq : q x.n with
      | true =>
        have h2n := HC2.out x.n w5 (HW.out.trans HX5.out)
        rw [hq] at h2n
        go_wp2_with fail
        refine h2n.mono ?_
        rintro e w6 ⟨rfl, hx⟩
        have HX6 := Lib.hid (HX5.out.trans hx)
        have HO6 := Lib.hid (HO5.out.ext hx)
        have d67 := C67.out _ HX6.out
        clear hx h2n
        go_wp2_with fail
        refine (irr _ (HW.out.trans HX6.out) (HTR.out.ext HX6.out)).mono ?_
        rintro e w7 ⟨vr, rfl, ho, hx⟩
        have HX7 := Lib.hid (HX6.out.trans hx)
        have HO7 := Lib.hid (HO6.out.ext hx)
        have ORr := Lib.hid ho.rd
        obtain ⟨Ar, cr, rfl⟩ := ho.shape
        clear hx ho irr d67
        go_wp2_with (at_builtin; refine wpl_append rowNd rfl _ _ rfl (v := .slice B5 n5 c5) rfl HO7.out _ _ rfl (ys := r.sel p q) rfl (rd_nd ORr.out) (ok_nd ORr.out) (by have := HSL.out; have := HSR.out; simp only [List.length_append, List.length_singleton]; omega) HX7.out.size ?_; intro v8 w8 ho1 hg1 hat1; have HX8 := Lib.hid (HO7.out.ext_app HX7.out hg1); have HO8 := Lib.hid ho1; clear ho1 hg1 hat1)
        go_ret
        refine ⟨_, rfl, ?_, HX8.out⟩
        have := HO8.out
        simpa [hp, hq] using this
      | false =>
        have h2n := HC2.out x.n w5 (HW.out.trans HX5.out)
        rw [hq] at h2n
        go_wp2_with fail
        refine h2n.mono ?_
        rintro e w6 ⟨rfl, hx⟩
        have HX6 := Lib.hid (HX5.out.trans hx)
        have HO6 := Lib.hid (HO5.out.ext hx)
        have d67 := C67.out _ HX6.out
        clear hx h2n
        clear irr d67
        go_wp2
        go_ret
        refine ⟨_, rfl, ?_, HX6.out⟩
        have := HO6.out
        simpa [hp, hq] using this
    | false =>
      have h1n := HC1.out x.n wa (HW.out.trans HA.out)
      rw [hp] at h1n
      go_enter Try.func115, Try.ntmps115
      go_wp2_with (refine wpl_loadP (off := 0) (sub := x.enc.toArray) HB.out aggNodeI hsz (enc_in x (.pointer ppl) (.pointer ppr)) rfl _ rfl rfl ?_)
      rw [fold_fill x.enc _ (by rw [henc]; rfl), ← hwa]
      refine h1n.mono ?_
      rintro e w1 ⟨rfl, hx⟩
      have HX1 := Lib.hid (HA.out.trans hx)
      have OS1 := Lib.hid (OS.out.ext hx)
      have d66 := C66.out _ HX1.out
      have d64 := C64.out _ HX1.out
      clear hx h1n hw64
      have HX5 := HX1
      have HO5 := OS1
      clear ill d66
      cases hq : q x.n with
      | true =>
        have h2n := HC2.out x.n w1 (HW.out.trans HX5.out)
        rw [hq] at h2n
        go_wp2_with fail
        refine h2n.mono ?_
        rintro e w6 ⟨rfl, hx⟩
        have HX6 := Lib.hid (HX5.out.trans hx)
        have HO6 := Lib.hid (HO5.out.ext hx)
        have d67 := C67.out _ HX6.out
        clear hx h2n
        go_wp2_with fail
        refine (irr _ (HW.out.trans HX6.out) (HTR.out.ext HX6.out)).mono ?_
        rintro e w7 ⟨vr, rfl, ho, hx⟩
        have HX7 := Lib.hid (HX6.out.trans hx)
        have HO7 := Lib.hid (HO6.out.ext hx)
        have ORr := Lib.hid ho.rd
        obtain ⟨Ar, cr, rfl⟩ := ho.shape
        clear hx ho irr d67
        go_wp2_with (at_builtin; refine wpl_append rowNd rfl _ _ rfl (v := .slice (some ⟨w.heap.size, 0, none⟩) 1 1) rfl HO7.out _ _ rfl (ys := r.sel p q) rfl (rd_nd ORr.out) (ok_nd ORr.out) (by have := HSL.out; have := HSR.out; simp only [List.length_append, List.length_singleton]; omega) HX7.out.size ?_; intro v8 w8 ho1 hg1 hat1; have HX8 := Lib.hid (HO7.out.ext_app HX7.out hg1); have HO8 := Lib.hid ho1; clear ho1 hg1 hat1)
        go_ret
        refine ⟨_, rfl, ?_, HX8.out⟩
        have := HO8.out
        simpa [hp, hq] using this
      | false =>
        have h2n := HC2.out x.n w1 (HW.out.trans HX5.out)
        rw [hq] at h2n
        go_wp2_with fail
        refine h2n.mono ?_
        rintro e w6 ⟨rfl, hx⟩
        have HX6 := Lib.hid (HX5.out.trans hx)
        have HO6 := Lib.hid (HO5.out.ext hx)
        have d67 := C67.out _ HX6.out
        clear hx h2n
        clear irr d67
        go_wp2
        go_ret
        refine ⟨_, rfl, ?_, HX6.out⟩
        have := HO6.out
        simpa [hp, hq] using this
set_option maxHeartbeats 1000000 in
set_option maxRecDepth 100000 in
theorem treeNodesR (p q : ByteArray → Bool) (c1 c2 : Option Addr) (w0 : World) (h1 : ∀ (s : ByteArray) W, Ext w0 W → Calls Try.prog 116 #[.string s, .pointer c1] W fun e w' => e = .returned (.bool (p s)) ∧ Ext W w') (h2 : ∀ (s : ByteArray) W, Ext w0 W → Calls Try.prog 117 #[.string s, .pointer c2] W fun e w' => e = .returned (.bool (q s)) ∧ Ext W w') (T : Tr) (hok : T.ok) (h64 : T.all.length ≤ 1000) (v : Value) (w : World) (hw : Ext w0 w) (h : TrAt w v T) :
    Calls Try.prog 115 #[v, .func (.func 116) #[] #[.pointer c1], .func (.func 117) #[] #[.pointer c2]] w fun e w' => ∃ v', e = .returned v' ∧ Own tNd 31 w' w.heap.size v' (T.sel p q) ∧ Ext w w' := by
  induction T generalizing v w with
  | leaf =>
    obtain rfl := h
    go_enter Try.func115, Try.ntmps115
    go_wp2
    go_ret
    exact ⟨_, rfl, Own.nil _ _ _ _, Ext.refl _⟩
  | node x l r il ir =>
    obtain ⟨g, pl, pr, rfl, hb, htl, htr⟩ := h
    obtain ⟨hx0, he, _, _, hl5, hr6⟩ := hok
    have hal : l.all.length ≤ 1000 ∧ r.all.length ≤ 1000 := by simp only [Tr.all, List.length_cons, List.length_append] at h64; omega
    have ill := fun W hW hT => il hl5 hal.1 pl W hW hT
    have irr := fun W hW hT => ir hr6 hal.2 pr W hW hT
    have hsl : (l.sel p q).length ≤ 1000 := Nat.le_trans (Tr.sel_le p q l) hal.1
    have hsr : (r.sel p q).length ≤ 1000 := Nat.le_trans (Tr.sel_le p q r) hal.2
    obtain ⟨ppl, rfl⟩ := htl.ptr
    obtain ⟨ppr, rfl⟩ := htr.ptr
    have HB := Lib.hid hb
    have HX0 := Lib.hid hx0
    have HTL := Lib.hid htl
    have HTR := Lib.hid htr
    have HW := Lib.hid hw
    have hsz := (Nd.st hx0).size
    have henc := Nd.enc_length hx0
    have HSL := Lib.hid hsl
    have HSR := Lib.hid hsr
    have HC1 := Lib.hid h1
    have HC2 := Lib.hid h2
    show Calls Try.prog 115 #[.pointer (some ⟨g, 0, none⟩), .func (.func 116) #[] #[.pointer c1], .func (.func 117) #[] #[.pointer c2]] w fun e w' => ∃ v', e = .returned v' ∧ Own tNd 31 w' w.heap.size v' (x :: ((if p x.n then l.sel p q else []) ++ (if q x.n then r.sel p q else []))) ∧ Ext w w'
    clear hb hx0 he htl htr hw il ir hl5 hr6 hal hsl hsr h64 h1 h2
    obtain ⟨wa, hwa⟩ : ∃ wa, wa = w.alloc (.cells x.enc.toArray 31) := ⟨_, rfl⟩
    have HA := Lib.hid (show Ext w wa by rw [hwa]; exact ext_alloc _ _)
    have OS := Lib.hid (show Own tNd 31 wa w.heap.size (.slice (some ⟨w.heap.size, 0, none⟩) 1 1) [x] by
      have := Own.of_blk tNd (w := w.alloc (.cells x.enc.toArray 31)) (base := w.heap.size) (xs := [x]) (by rw [show [x].flatMap tNd.enc = x.enc from by rw [List.flatMap_cons, List.flatMap_nil, List.append_nil]; rfl]; exact Blk.new w 31 x.enc.toArray) (Nat.le_refl _) (by simp) (by intro y hy; obtain rfl := List.mem_singleton.1 hy; exact HX0.out)
      rw [← hwa] at this
      exact this)
    have c64 := fun W hW => (TrAt.cells HX0.out (HB.out.ext (show Ext w W from hW))).1
    have c66 := fun W hW => (TrAt.cells HX0.out (HB.out.ext (show Ext w W from hW))).2.1
    have c67 := fun W hW => (TrAt.cells HX0.out (HB.out.ext (show Ext w W from hW))).2.2
    have C64 := Lib.hid c64
    have C66 := Lib.hid c66
    have C67 := Lib.hid c67
    clear c64 c66 c67
    have hw64 : ∀ o, (w.alloc o).cell? ⟨g, 64, none⟩ = some (.string x.n) := fun o => C64.out _ (ext_alloc w o)
    cases hp : p x.n with
    | true =>
      have h1n := HC1.out x.n wa (HW.out.trans HA.out)
      rw [hp] at h1n
      go_enter Try.func115, Try.ntmps115
      go_wp2_with (refine wpl_loadP (off := 0) (sub := x.enc.toArray) HB.out aggNodeI hsz (enc_in x (.pointer ppl) (.pointer ppr)) rfl _ rfl rfl ?_)
      rw [fold_fill x.enc _ (by rw [henc]; rfl), ← hwa]
      refine h1n.mono ?_
      rintro e w1 ⟨rfl, hx⟩
      have HX1 := Lib.hid (HA.out.trans hx)
      have OS1 := Lib.hid (OS.out.ext hx)
      have d66 := C66.out _ HX1.out
      have d64 := C64.out _ HX1.out
      clear hx h1n hw64
      go_wp2_with fail
      refine (ill _ (HW.out.trans HX1.out) (HTL.out.ext HX1.out)).mono ?_
      rintro e w2 ⟨vl, rfl, ho, hx⟩
      have HX2 := Lib.hid (HX1.out.trans hx)
      have OS2 := Lib.hid (OS1.out.ext hx)
      have ORl := Lib.hid ho.rd
      have d64b := C64.out _ HX2.out
      obtain ⟨Al, cl, rfl⟩ := ho.shape
      clear hx ho ill d64 d66
      go_wp2_with (at_builtin; refine wpl_append rowNd rfl _ _ rfl (v := .slice (some ⟨w.heap.size, 0, none⟩) 1 1) rfl OS2.out _ _ rfl (ys := l.sel p q) rfl (rd_nd ORl.out) (ok_nd ORl.out) (by have := HSL.out; simp only [List.length_singleton]; omega) HX2.out.size ?_; intro v5 w5 ho1 hg1 hat1; have HX5 := Lib.hid (OS2.out.ext_app HX2.out hg1); obtain ⟨B5, n5, c5, rfl⟩ := ho1.shape3; have HO5 := Lib.hid ho1; have d64c := C64.out _ HX5.out; clear ho1 hg1 hat1)
      cases hq : q x.n with
      | true =>
        have h2n := HC2.out x.n w5 (HW.out.trans HX5.out)
        rw [hq] at h2n
        go_wp2_with fail
        refine h2n.mono ?_
        rintro e w6 ⟨rfl, hx⟩
        have HX6 := Lib.hid (HX5.out.trans hx)
        have HO6 := Lib.hid (HO5.out.ext hx)
        have d67 := C67.out _ HX6.out
        clear hx h2n
        go_wp2_with fail
        refine (irr _ (HW.out.trans HX6.out) (HTR.out.ext HX6.out)).mono ?_
        rintro e w7 ⟨vr, rfl, ho, hx⟩
        have HX7 := Lib.hid (HX6.out.trans hx)
        have HO7 := Lib.hid (HO6.out.ext hx)
        have ORr := Lib.hid ho.rd
        obtain ⟨Ar, cr, rfl⟩ := ho.shape
        clear hx ho irr d67
        go_wp2_with (at_builtin; refine wpl_append rowNd rfl _ _ rfl (v := .slice B5 n5 c5) rfl HO7.out _ _ rfl (ys := r.sel p q) rfl (rd_nd ORr.out) (ok_nd ORr.out) (by have := HSL.out; have := HSR.out; simp only [List.length_append, List.length_singleton]; omega) HX7.out.size ?_; intro v8 w8 ho1 hg1 hat1; have HX8 := Lib.hid (HO7.out.ext_app HX7.out hg1); have HO8 := Lib.hid ho1; clear ho1 hg1 hat1)
        go_ret
        refine ⟨_, rfl, ?_, HX8.out⟩
        have := HO8.out
        simpa [hp, hq] using this
      | false =>
        have h2n := HC2.out x.n w5 (HW.out.trans HX5.out)
        rw [hq] at h2n
        go_wp2_with fail
        refine h2n.mono ?_
        rintro e w6 ⟨rfl, hx⟩
        have HX6 := Lib.hid (HX5.out.trans hx)
        have HO6 := Lib.hid (HO5.out.ext hx)
        have d67 := C67.out _ HX6.out
        clear hx h2n
        clear irr d67
        go_wp2
        go_ret
        refine ⟨_, rfl, ?_, HX6.out⟩
        have := HO6.out
        simpa [hp, hq] using this
    | false =>
      have h1n := HC1.out x.n wa (HW.out.trans HA.out)
      rw [hp] at h1n
      go_enter Try.func115, Try.ntmps115
      go_wp2_with (refine wpl_loadP (off := 0) (sub := x.enc.toArray) HB.out aggNodeI hsz (enc_in x (.pointer ppl) (.pointer ppr)) rfl _ rfl rfl ?_)
      rw [fold_fill x.enc _ (by rw [henc]; rfl), ← hwa]
      refine h1n.mono ?_
      rintro e w1 ⟨rfl, hx⟩
      have HX1 := Lib.hid (HA.out.trans hx)
      have OS1 := Lib.hid (OS.out.ext hx)
      have d66 := C66.out _ HX1.out
      have d64 := C64.out _ HX1.out
      clear hx h1n hw64
      have HX5 := HX1
      have HO5 := OS1
      clear ill d66
      cases hq : q x.n with
      | true =>
        have h2n := HC2.out x.n w1 (HW.out.trans HX5.out)
        rw [hq] at h2n
        go_wp2_with fail
        refine h2n.mono ?_
        rintro e w6 ⟨rfl, hx⟩
        have HX6 := Lib.hid (HX5.out.trans hx)
        have HO6 := Lib.hid (HO5.out.ext hx)
        have d67 := C67.out _ HX6.out
        clear hx h2n
        go_wp2_with fail
        refine (irr _ (HW.out.trans HX6.out) (HTR.out.ext HX6.out)).mono ?_
        rintro e w7 ⟨vr, rfl, ho, hx⟩
        have HX7 := Lib.hid (HX6.out.trans hx)
        have HO7 := Lib.hid (HO6.out.ext hx)
        have ORr := Lib.hid ho.rd
        obtain ⟨Ar, cr, rfl⟩ := ho.shape
        clear hx ho irr d67
        go_wp2_with (at_builtin; refine wpl_append rowNd rfl _ _ rfl (v := .slice (some ⟨w.heap.size, 0, none⟩) 1 1) rfl HO7.out _ _ rfl (ys := r.sel p q) rfl (rd_nd ORr.out) (ok_nd ORr.out) (by have := HSL.out; have := HSR.out; simp only [List.length_append, List.length_singleton]; omega) HX7.out.size ?_; intro v8 w8 ho1 hg1 hat1; have HX8 := Lib.hid (HO7.out.ext_app HX7.out hg1); have HO8 := Lib.hid ho1; clear ho1 hg1 hat1)
        go_ret
        refine ⟨_, rfl, ?_, HX8.out⟩
        have := HO8.out
        simpa [hp, hq] using this
      | false =>
        have h2n := HC2.out x.n w1 (HW.out.trans HX5.out)
        rw [hq] at h2n
        go_wp2_with fail
        refine h2n.mono ?_
        rintro e w6 ⟨rfl, hx⟩
        have HX6 := Lib.hid (HX5.out.trans hx)
        have HO6 := Lib.hid (HO5.out.ext hx)
        have d67 := C67.out _ HX6.out
        clear hx h2n
        clear irr d67
        go_wp2
        go_ret
        refine ⟨_, rfl, ?_, HX6.out⟩
        have := HO6.out
        simpa [hp, hq] using this
set_option maxHeartbeats 1000000 in
set_option maxRecDepth 100000 in
theorem allFn_any (s : ByteArray) (w : World) : Calls Try.prog 142 #[.string s] w fun e w' => e = .returned (.bool true) ∧ Ext w w' := by
  go_enter Try.func142, Try.ntmps142
  go_wp2
  go_ret
  exact ⟨rfl, Ext.refl _⟩
set_option maxHeartbeats 1000000 in
set_option maxRecDepth 100000 in
theorem pathFn1_any (s own : ByteArray) (c : Nat) (w : World) (hc : w.cell? ⟨c, 0, none⟩ = some (.string s)) : Calls Try.prog 153 #[.string own, .pointer (some ⟨c, 0, none⟩)] w fun e w' => e = .returned (.bool (ltB s own)) ∧ Ext w w' := by
  have hl := ltB_eq s own
  go_enter Try.func153, Try.ntmps153
  go_wp2
  go_ret
  exact ⟨by rw [← hl]; rfl, Ext.refl _⟩
set_option maxHeartbeats 1000000 in
set_option maxRecDepth 100000 in
theorem pathFn2_any (s own : ByteArray) (c : Nat) (w : World) (hc : w.cell? ⟨c, 0, none⟩ = some (.string s)) : Calls Try.prog 154 #[.string own, .pointer (some ⟨c, 0, none⟩)] w fun e w' => e = .returned (.bool (ltB own s)) ∧ Ext w w' := by
  go_enter Try.func154, Try.ntmps154
  go_wp2
  go_ret
  exact ⟨by rw [← gt_eq]; rfl, Ext.refl _⟩
set_option maxHeartbeats 1000000 in
set_option maxRecDepth 100000 in
theorem rangeFn1_any (s own : ByteArray) (c : Nat) (w : World) (hc : w.cell? ⟨c, 0, none⟩ = some (.string s)) : Calls Try.prog 116 #[.string own, .pointer (some ⟨c, 0, none⟩)] w fun e w' => e = .returned (.bool (ltB s own)) ∧ Ext w w' := by
  go_enter Try.func116, Try.ntmps116
  go_wp2
  go_ret
  exact ⟨by rw [← gt_eq]; rfl, Ext.refl _⟩
set_option maxHeartbeats 1000000 in
set_option maxRecDepth 100000 in
theorem rangeFn2_any (s own : ByteArray) (c : Nat) (w : World) (hc : w.cell? ⟨c, 0, none⟩ = some (.string s)) : Calls Try.prog 117 #[.string own, .pointer (some ⟨c, 0, none⟩)] w fun e w' => e = .returned (.bool (ltB own s)) ∧ Ext w w' := by
  have hl := ltB_eq own s
  go_enter Try.func117, Try.ntmps117
  go_wp2
  go_ret
  exact ⟨by rw [← hl]; rfl, Ext.refl _⟩
set_option maxHeartbeats 1000000 in
set_option maxRecDepth 100000 in
theorem allNodes_any (v : Value) (L : List En) (h64 : L.length ≤ 64) (hg : good L) (w : World) (S : Nat → Prop) (h : RdL tEnt w S v L) :
    Calls Try.prog 100 #[v] w fun e w' => ∃ v', e = .returned v' ∧ Own tNd 31 w' w.heap.size v' (trF L.length L).all ∧ Ext w w' := by
  have ht := treeOf_any v L h64 hg w S h
  have hok := trF_ok L.length L hg
  have hl := trF_len L.length L
  obtain ⟨A, cap, rfl, _⟩ := h
  obtain ⟨T, hT⟩ : ∃ T, trF L.length L = T := ⟨_, rfl⟩
  rw [hT] at ht hok hl ⊢
  have hn := fun v W hv => treeNodesA (fun _ => true) (fun _ => true) W (fun s W' _ => allFn_any s W') (fun s W' _ => allFn_any s W') T hok (by omega) v W (Ext.refl _) hv
  rw [Tr.sel_all] at hn
  clear hT hok hl
  go_enter Try.func100, Try.ntmps100
  go_wp2_with fail
  refine ht.mono ?_
  rintro e w1 ⟨v1, rfl, htr, hx⟩
  have HX := Lib.hid hx
  have HT := Lib.hid htr
  obtain ⟨p, rfl⟩ := htr.ptr
  clear hx htr ht
  go_wp2_with fail
  refine (hn _ _ HT.out).mono ?_
  rintro e w2 ⟨v2, rfl, ho, hx⟩
  have HO := Lib.hid (ho.le (base' := w.heap.size) HX.out.size)
  have HX2 := Lib.hid (HX.out.trans hx)
  obtain ⟨A2, n2, c2, rfl⟩ := ho.shape3
  clear ho hx hn
  go_wp2
  go_ret
  exact ⟨_, rfl, HO.out, HX2.out⟩
set_option maxHeartbeats 1000000 in
set_option maxRecDepth 100000 in
theorem path_any (v : Value) (L : List En) (s : ByteArray) (h64 : L.length ≤ 64) (hg : good L) (w : World) (S : Nat → Prop) (h : RdL tEnt w S v L) :
    Calls Try.prog 108 #[v, .string s] w fun e w' => ∃ v', e = .returned v' ∧ Own tNd 31 w' w.heap.size v' ((trF L.length L).sel (fun o => ltB s o) (fun o => ltB o s)) ∧ Ext w w' := by
  have hwx : ∃ wx, wx = w.alloc (.cells #[.string s] 9) := ⟨_, rfl⟩
  obtain ⟨wx, hwx⟩ := hwx
  have HB := Lib.hid (show ∀ W, Ext wx W → W.cell? ⟨w.heap.size, 0, none⟩ = some (.string s) from fun W hW => by
    subst hwx
    exact hW.cell (by rw [(Blk.new w _ _).cell]; rfl))
  have HXX := Lib.hid (show Ext w wx by subst hwx; exact ext_alloc _ _)
  have ht := treeOf_any v L h64 hg wx S (h.ext (by decide) HXX.out)
  have hok := trF_ok L.length L hg
  have hl := trF_len L.length L
  obtain ⟨A, cap, rfl, _⟩ := h
  obtain ⟨T, hT⟩ : ∃ T, trF L.length L = T := ⟨_, rfl⟩
  rw [hT] at ht hok hl ⊢
  have hn := fun v W hW hv => treeNodesP (fun o => ltB s o) (fun o => ltB o s) (some ⟨w.heap.size, 0, none⟩) (some ⟨w.heap.size, 0, none⟩) wx (fun o W' hW' => pathFn1_any s o _ W' (HB.out W' hW')) (fun o W' hW' => pathFn2_any s o _ W' (HB.out W' hW')) T hok (by omega) v W hW hv
  clear hT hok hl
  go_enter Try.func108, Try.ntmps108
  go_wp2_with fail
  rw [← hwx]
  refine ht.mono ?_
  rintro e w1 ⟨v1, rfl, htr, hx⟩
  have HX := Lib.hid hx
  have HT := Lib.hid htr
  obtain ⟨p, rfl⟩ := htr.ptr
  clear hx htr ht hwx
  go_wp2_with fail
  refine (hn _ _ HX.out HT.out).mono ?_
  rintro e w2 ⟨v2, rfl, ho, hx⟩
  have HO := Lib.hid (ho.le (base' := w.heap.size) (HXX.out.trans HX.out).size)
  have HX2 := Lib.hid ((HXX.out.trans HX.out).trans hx)
  obtain ⟨A2, n2, c2, rfl⟩ := ho.shape3
  clear ho hx hn
  go_wp2
  go_ret
  exact ⟨_, rfl, HO.out, HX2.out⟩
end Go.Proofs.Ytmndkbheehcoaaa
/- The path to a name: the reference. No condition. -/
namespace Go.Proofs.Ytmndkbheehcoaaa
open Go.RowKit
set_option linter.unusedVariables false
set_option linter.unusedSimpArgs false

set_option maxHeartbeats 2000000 in
set_option maxRecDepth 100000 in
theorem l04Path_any (v : Value) (L : List En) (s : ByteArray) (h64 : L.length ≤ 64) (hg : good L) (w : World) (S : Nat → Prop) (h : RdL tEnt w S v L) :
    Calls Try.prog 82 #[v, .string s] w fun e w' => ∃ v', e = .returned v' ∧ Own tNd 31 w' w.heap.size v' ((trF L.length L).sel (fun o => ltB s o) (fun o => ltB o s)) ∧ Ext w w' := by
  obtain ⟨R, hR0⟩ : ∃ R, (trF L.length L).sel (fun o => ltB s o) (fun o => ltB o s) = R := ⟨_, rfl⟩
  rw [hR0]
  have HR0 := Lib.hid hR0
  have HG0 := Lib.hid hg
  have H0 := Lib.hid h
  obtain ⟨A, cap, rfl, _⟩ := h
  clear hR0 hg
  go_enter Try.func82, Try.ntmps82
  go_wp2_with fail
  go_loopw [0, 5] (fun l u wr => ∃ (f : Nat) (L1 : List En) (acc : List Nd), L1.length ≤ f ∧ L1.length ≤ 64 ∧ acc.length + L1.length ≤ 64 ∧ good L1 ∧ RdL tEnt w S l L1 ∧ Own tNd 31 wr w.heap.size u acc ∧ acc ++ (trF f L1).sel (fun o => ltB s o) (fun o => ltB o s) = R ∧ Ext w wr) (fun l _ _ => lenV l)
  case atStart => exact ⟨L.length, L, [], Nat.le_refl _, h64, by simpa using h64, HG0.out, H0.out, Own.empty tNd w 31 w.heap.size (Nat.le_refl _), by simpa using HR0.out, ext_alloc _ _⟩
  case round =>
    clear H0 HR0 HG0 h64
    obtain ⟨f, L1, acc, hf, h64, hal, hg1, hr, ho, hR, hx⟩ := hrel
    have HX := Lib.hid hx
    have HO := Lib.hid ho
    have HAL := Lib.hid hal
    obtain ⟨C, cn, cc, rfl⟩ := ho.shape3
    obtain ⟨A, cap, rfl, hcap, hlen, hrd, hok⟩ := id hr
    clear hx ho hal
    by_cases h0 : L1.length = 0
    · rw [trF_nil _ _ h0] at hR
      have HQ := Lib.hid (show acc = R by simpa [Tr.sel] using hR)
      have hz : ¬ (0 : Int) < (L1.length : Int) := by omega
      clear hR
      go_wp2
      go_ret
      exact ⟨_, rfl, by rw [← HQ.out]; exact HO.out, HX.out⟩
    · obtain ⟨f, rfl⟩ : ∃ f', f = f' + 1 := ⟨f - 1, by omega⟩
      have hlt := topE_lt (L := L1) (by omega)
      have hND := trF_ok (f + 1) L1 hg1
      rw [trF_cons _ _ h0] at hR hND
      obtain ⟨k, hk⟩ : ∃ k, topE L1 = k := ⟨_, rfl⟩
      simp only [hk] at hlt hND hR
      rw [gE_lt hlt] at hND hR
      obtain ⟨g, o, rfl, hs0, hc⟩ := hrd.elem hok k hlt
      obtain ⟨TL, hTL⟩ : ∃ T, trF f (L1.take k) = T := ⟨_, rfl⟩
      obtain ⟨TR, hTR⟩ : ∃ T, trF f (L1.drop (k + 1)) = T := ⟨_, rfl⟩
      rw [hTL, hTR] at hR hND
      simp only [Tr.sel] at hR
      have HND := Lib.hid hND.1
      have KL := Lib.hid TL.key_ok.1
      have KR := Lib.hid TR.key_ok.1
      have HC := Lib.hid (show ∀ W, Ext w W → ∀ j u, ([Value.string L1[k].1, .string L1[k].2] : List Value)[j]? = some u → W.cell? ⟨g, o + k * 2 + j, none⟩ = some u from fun W hW j u hu => hW.cell (hc j u hu))
      clear hc hrd hok hND hs0
      by_cases hce : cap = k + 1
      · subst hce
        have H := Lib.hid (show RdL tEnt w S (.slice (some ⟨g, o, none⟩) L1.length (k + 1)) L1 from hr)
        have ihl := fun W (hW : RdL tEnt W S (.slice (some ⟨g, o, none⟩) L1.length (k + 1)) L1) => l04Nodes_any f _ (L1.take k) (by rw [List.length_take]; omega) (by rw [List.length_take]; omega) (hg1.take k) W S (RdL.headN (k := k) hW rfl (by omega))
        have ihr := fun W (hW : RdL tEnt W S (.slice (some ⟨g, o, none⟩) L1.length (k + 1)) L1) => l04Nodes_any f _ (L1.drop (k + 1)) (by rw [List.length_drop]; omega) (by rw [List.length_drop]; omega) (hg1.drop (k + 1)) W S (RdL.cutN (k := k + 1) hW rfl (by omega))
        have htop := fun W (hW : RdL tEnt W S (.slice (some ⟨g, o, none⟩) L1.length (k + 1)) L1) => l04Top_any _ L1 (by omega) hg1 W S hW
        simp only [Option.map_some, Addr.add_lit, show tEnt.sz = 2 from rfl, eq_self, if_true, Nat.sub_self] at ihr
        rw [hk] at htop
        simp only [hTL] at ihl
        simp only [hTR] at ihr
        have HTL := Lib.hid hTL
        have HTR := Lib.hid hTR
        have HG := Lib.hid hg1
        have hi : (0 : Int) ≤ (k : Int) := by omega
        have hi2 : (k : Int) ≤ (L1.length : Int) := by omega
        have hi3 : (k : Int) < (L1.length : Int) := by omega
        have hi4 : (k : Int) + 1 ≤ (L1.length : Int) := by omega
        have hi5 : (0 : Int) ≤ (k : Int) + 1 := by omega
        have hi6 : (k : Int) ≤ ((k + 1 : Nat) : Int) := by omega
        have hi8 : (L1.length : Int) ≤ ((k + 1 : Nat) : Int) := by omega
        have hi9 : (k : Int) + 1 ≤ ((k + 1 : Nat) : Int) := by omega
        have hi0 : (0 : Int) < (L1.length : Int) := by omega
        have HQC := Lib.hid hcap
        clear hTL hTR hg1 hr hk hcap
        go_wp2_with fail
        refine (htop _ (H.out.ext (by decide) HX.out)).mono ?_
        rintro e w1 ⟨rfl, hx⟩
        have XW := Lib.hid (HX.out.trans hx)
        have HO1 := Lib.hid (HO.out.ext hx)
        have HS1 := Lib.hid hx.size
        clear hx htop
        go_wp2_with fail
        refine (ihl _ (H.out.ext (by decide) XW.out)).mono ?_
        rintro e w2 ⟨vl, rfl, ho, hx⟩
        replace XW := Lib.hid (XW.out.trans hx)
        have HO2 := Lib.hid (HO1.out.ext hx)
        have HS2 := Lib.hid (Nat.le_trans HS1.out hx.size)
        obtain ⟨AL, nl, cl, rfl⟩ := ho.shape3
        clear ho hx ihl HO1
        go_wp2_with (refine wpl_storeNew aggKey KL.out rfl rfl _ _ rfl rfl rfl rfl ?_)
        refine (ihr _ (H.out.ext (by decide) (XW.out.alloc _))).mono ?_
        rintro e w3 ⟨vr, rfl, ho, hx⟩
        replace XW := Lib.hid ((XW.out.alloc _).trans hx)
        have HO3 := Lib.hid (((HO2.out.alloc _).ext hx).alloc (.cells (numsA .u8 TR.key) 27))
        have HS3 := Lib.hid (show wr.heap.size ≤ w3.heap.size by have := hx.size; have := HS2.out; simp only [size_alloc] at *; omega)
        have B6 := Lib.hid (((Blk.new w2 27 (numsA .u8 TL.key)).ext hx).alloc (.cells (numsA .u8 TR.key) 27))
        have B8 := Lib.hid (Blk.new w3 27 (numsA .u8 TR.key))
        obtain ⟨AR, nr, cr, rfl⟩ := ho.shape3
        clear ho hx ihr HO2
        go_wp2_with (refine wpl_storeNew aggKey KR.out rfl rfl _ _ rfl rfl rfl rfl ?_)
        refine wp_region_held_drew (S := fun W => Ext w W ∧ Blk W w2.heap.size 27 (numsA .u8 TL.key) ∧ Blk W w3.heap.size 27 (numsA .u8 TR.key)) (by kernel_rfl) ⟨(XW.out.alloc _).drew, B6.out.drewN 1, B8.out.drewN 1⟩ (fun hHeld => ?_)
        have hs9 : (w3.alloc (.cells (numsA .u8 TR.key) 27)).heap.size = (w3.alloc (.cells (numsA .u8 TR.key) 27)).drew.heap.size := rfl
        have HOd := Lib.hid (show Own tNd 31 (w3.alloc (.cells (numsA .u8 TR.key) 27)).drew w.heap.size (.slice C cn cc) acc from HO3.out)
        generalize hw9 : (w3.alloc (.cells (numsA .u8 TR.key) 27)).drew = w9 at hHeld HOd hs9 ⊢
        clear hw9
        refine wpAnyH_take (i := 0) (oi := ?oiz1) (v := ?vz1) ?hiz1 (by kernel_rfl) (by kernel_rfl) (by kernel_rfl) ?hQz1 ?hyz1 (by assumption) ?restz1
        case hiz1 => simp only [List.getElem?_toArray, List.getElem?_cons_zero, List.getElem?_cons_succ]; rfl
        case hQz1 => exact fun _ _ _ h => h
        case hyz1 => exact Or.inl ⟨by rfl, by intro w hSw; (try dsimp only at hSw); go_simp; with_reducible rfl⟩
        try simp only [Act.put, List.setIfInBounds_toArray, List.set_cons_zero, List.set_cons_succ]
        refine wpAnyH_take (i := 1) (oi := ?oiz2) (v := (.agg (numsA .u8 TL.key))) ?hiz2 (by kernel_rfl) (by kernel_rfl) (by kernel_rfl) ?hQz2 ?hyz2 (by assumption) ?restz2
        case hiz2 => simp only [List.getElem?_toArray, List.getElem?_cons_zero, List.getElem?_cons_succ]; rfl
        case hQz2 => exact fun _ _ _ h => h
        case hyz2 => refine yields_loadS w2.heap.size 0 (nums .u8 TL.key) (by rw [nums_length, KL.out]; exact aggKey) (fun W hW j u hu => by rw [Nat.zero_add]; exact hW.2.1.at_ j (by rw [numsA, List.getElem?_toArray]; exact hu)) ?_ _ rfl rfl; rfl
        try simp only [Act.put, List.setIfInBounds_toArray, List.set_cons_zero, List.set_cons_succ]
        refine wpAnyH_take (i := 2) (oi := ?oiz3) (v := (.agg (numsA .u8 TR.key))) ?hiz3 (by kernel_rfl) (by kernel_rfl) (by kernel_rfl) ?hQz3 ?hyz3 (by assumption) ?restz3
        case hiz3 => simp only [List.getElem?_toArray, List.getElem?_cons_zero, List.getElem?_cons_succ]; rfl
        case hQz3 => exact fun _ _ _ h => h
        case hyz3 => refine yields_loadS w3.heap.size 0 (nums .u8 TR.key) (by rw [nums_length, KR.out]; exact aggKey) (fun W hW j u hu => by rw [Nat.zero_add]; exact hW.2.2.at_ j (by rw [numsA, List.getElem?_toArray]; exact hu)) ?_ _ rfl rfl; rfl
        try simp only [Act.put, List.setIfInBounds_toArray, List.set_cons_zero, List.set_cons_succ]
        refine wpAnyH_take (i := 3) (oi := ?oiz4) (v := ?vz4) ?hiz4 (by kernel_rfl) (by kernel_rfl) (by kernel_rfl) ?hQz4 ?hyz4 (by assumption) ?restz4
        case hiz4 => simp only [List.getElem?_toArray, List.getElem?_cons_zero, List.getElem?_cons_succ]; rfl
        case hQz4 => exact fun _ _ _ h => h
        case hyz4 => exact Or.inl ⟨by rfl, by intro w hSw; (try dsimp only at hSw); go_simp; with_reducible rfl⟩
        try simp only [Act.put, List.setIfInBounds_toArray, List.set_cons_zero, List.set_cons_succ]
        refine wpAnyH_take (i := 4) (oi := ?oiz5) (v := ?vz5) ?hiz5 (by kernel_rfl) (by kernel_rfl) (by kernel_rfl) ?hQz5 ?hyz5 (by assumption) ?restz5
        case hiz5 => simp only [List.getElem?_toArray, List.getElem?_cons_zero, List.getElem?_cons_succ]; rfl
        case hQz5 => exact fun _ _ _ h => h
        case hyz5 => exact Or.inl ⟨by rfl, by intro w hSw; (try dsimp only at hSw); go_simp; with_reducible rfl⟩
        try simp only [Act.put, List.setIfInBounds_toArray, List.set_cons_zero, List.set_cons_succ]
        refine wpAnyH_take (i := 5) (oi := ?oiz6) (v := ?vz6) ?hiz6 (by kernel_rfl) (by kernel_rfl) (by kernel_rfl) ?hQz6 ?hyz6 (by assumption) ?restz6
        case hiz6 => simp only [List.getElem?_toArray, List.getElem?_cons_zero, List.getElem?_cons_succ]; rfl
        case hQz6 => exact fun _ _ _ h => h
        case hyz6 => exact Or.inl ⟨by rfl, by intro w hSw; (try dsimp only at hSw); go_simp; with_reducible rfl⟩
        try simp only [Act.put, List.setIfInBounds_toArray, List.set_cons_zero, List.set_cons_succ]
        refine wpAnyH_take (i := 6) (oi := ?oiz7) (v := (.agg #[.string L1[k].1, .string L1[k].2])) ?hiz7 (by kernel_rfl) (by kernel_rfl) (by kernel_rfl) ?hQz7 ?hyz7 (by assumption) ?restz7
        case hiz7 => simp only [List.getElem?_toArray, List.getElem?_cons_zero, List.getElem?_cons_succ]; rfl
        case hQz7 => exact fun _ _ _ h => h
        case hyz7 => refine yields_loadS g (o + k * 2) [.string L1[k].1, .string L1[k].2] aggEntryI (fun W hW => HC.out W hW.1) ?_ _ rfl rfl; rfl
        try simp only [Act.put, List.setIfInBounds_toArray, List.set_cons_zero, List.set_cons_succ]
        refine wpAnyH_take (i := 7) (oi := ?oiz8) (v := (.agg (Nd.enc ⟨TL.key, TR.key, L1[k].1, L1[k].2⟩).toArray)) ?hiz8 (by kernel_rfl) (by kernel_rfl) (by kernel_rfl) ?hQz8 ?hyz8 (by assumption) ?restz8
        case hiz8 => simp only [List.getElem?_toArray, List.getElem?_cons_zero, List.getElem?_cons_succ]; rfl
        case hQz8 => exact fun _ _ _ h => h
        case hyz8 => refine yields_build ?_ rfl (built_node ⟨TL.key, TR.key, L1[k].1, L1[k].2⟩ HND.out); rfl
        try simp only [Act.put, List.setIfInBounds_toArray, List.set_cons_zero, List.set_cons_succ]
        refine wpAnyH_ready (rs := [8]) (by kernel_rfl) (by simp) (AllReadyH.cons (o := ?oy98) ?hy98 (fun K hK => ?sy98) AllReadyH.nil)
        case hy98 => simp only [List.getElem?_toArray, List.getElem?_cons_zero, List.getElem?_cons_succ]; rfl
        refine stp_build1 Try.underlying36 zeroNd (Nd.st HND.out).size (by decide) (by decide) rfl (.tmp 39) rfl rfl ?_
        have hH2 : Ext w (w9.alloc (.cells (Nd.enc ⟨TL.key, TR.key, L1[k].1, L1[k].2⟩).toArray 31)) ∧ Blk (w9.alloc (.cells (Nd.enc ⟨TL.key, TR.key, L1[k].1, L1[k].2⟩).toArray 31)) w2.heap.size 27 (numsA .u8 TL.key) ∧ Blk (w9.alloc (.cells (Nd.enc ⟨TL.key, TR.key, L1[k].1, L1[k].2⟩).toArray 31)) w3.heap.size 27 (numsA .u8 TR.key) := ⟨hHeld.1.alloc _, hHeld.2.1.alloc _, hHeld.2.2.alloc _⟩
        refine hK.out _ _ hH2 (fun _ => ?_)
        clear hK K
        try simp only [Act.put, List.setIfInBounds_toArray, List.set_cons_zero, List.set_cons_succ]
        refine wpAnyH_ready (rs := [9]) (by kernel_rfl) (by simp) (AllReadyH.cons (o := ?oy109) ?hy109 (fun K hK => ?sy109) AllReadyH.nil)
        case hy109 => simp only [List.getElem?_toArray, List.getElem?_cons_zero, List.getElem?_cons_succ]; rfl
        refine stp_append rowNd rfl _ _ rfl (v := .slice C cn cc) rfl (HOd.out.alloc _) _ _ rfl (A := some ⟨w9.heap.size, 0, none⟩) (ys := [⟨TL.key, TR.key, L1[k].1, L1[k].2⟩]) rfl (rd_one (T := tNd) w9 ⟨TL.key, TR.key, L1[k].1, L1[k].2⟩ HND.out _) (by intro y hy; obtain rfl := List.mem_singleton.1 hy; exact HND.out) (by have := HAL.out; simp only [List.length_singleton]; omega) hH2.1.size ?_
        intro v10 w10 ho1 hg1 hat1
        have hfar : ∀ b, wr.heap.size ≤ b → some b ≠ (Value.slice C cn cc).ownBlock := fun b hb e => by have := (HO.out.base_le _ e.symm).2; omega
        have hs2 := HS2.out
        have hs3 := HS3.out
        have hH3 : Ext w w10 ∧ Blk w10 w2.heap.size 27 (numsA .u8 TL.key) ∧ Blk w10 w3.heap.size 27 (numsA .u8 TR.key) := ⟨(HOd.out.alloc _).ext_app hH2.1 hg1, hH2.2.1.grown hg1 (hfar _ hs2), hH2.2.2.grown hg1 (hfar _ hs3)⟩
        have HO10 := Lib.hid ho1
        have HX10 := Lib.hid hH3.1
        obtain ⟨D, dn, dc, rfl⟩ := ho1.shape3
        clear ho1 hg1 hat1 hfar
        refine hK.out _ _ hH3 (fun _ => ?_)
        clear hK K hH2 hH3 hHeld
        try simp only [Act.put, List.setIfInBounds_toArray, List.set_cons_zero, List.set_cons_succ]
        refine wpAnyH_take (i := 10) (oi := ?oiz11) (v := ?vz11) ?hiz11 (by kernel_rfl) (by kernel_rfl) (by kernel_rfl) ?hQz11 ?hyz11 (by assumption) ?restz11
        case hiz11 => simp only [List.getElem?_toArray, List.getElem?_cons_zero, List.getElem?_cons_succ]; rfl
        case hQz11 => exact fun _ _ _ h => h
        case hyz11 => exact Or.inl ⟨by rfl, by intro w hSw; (try dsimp only at hSw); go_simp; with_reducible rfl⟩
        try simp only [Act.put, List.setIfInBounds_toArray, List.set_cons_zero, List.set_cons_succ]
        refine wpAnyH_done (by kernel_rfl) ?_ _
        have d0 := HC.out w10 HX10.out 0 _ rfl
        have d1 : w10.cell? ⟨g, o + k * 2, none⟩ = some (.string L1[k].1) := d0
        have e2 := ltB_eq s L1[k].1
        clear d0 B6 B8
        have HRR := Lib.hid hR
        clear hR
        by_cases hname : L1[k].1 = s
        · have hn2 : (L1[k].1.toList == s.toList) = true := by rw [hname, beq_self_eq_true]
          have HQ := Lib.hid (show acc ++ [(⟨TL.key, TR.key, L1[k].1, L1[k].2⟩ : Nd)] = R by
            have := HRR.out
            simpa [hname, ltB_irrefl] using this)
          clear hname e2
          go_wp2
          go_ret
          exact ⟨_, rfl, by rw [← HQ.out]; exact HO10.out, HX10.out⟩
        · have hn2 : (L1[k].1.toList == s.toList) = false := by rw [beq_eq_false_iff_ne]; exact fun e => hname (toList_inj e)
          cases hl : ltB s L1[k].1 with
          | true =>
            have HQ := Lib.hid (show (acc ++ [(⟨TL.key, TR.key, L1[k].1, L1[k].2⟩ : Nd)]) ++ TL.sel (fun o => ltB s o) (fun o => ltB o s) = R by
              have := HRR.out
              simpa [hl, ltB_asymm hl] using this)
            rw [hl] at e2
            clear hname
            go_wp2
            go_roundw
            case rel => exact ⟨f, L1.take k, _, by rw [List.length_take]; omega, by rw [List.length_take]; omega, by rw [List.length_append, List.length_take]; have := HAL.out; simp only [List.length_singleton]; omega, HG.out.take k, RdL.headN H.out rfl (by omega), HO10.out, by rw [HTL.out]; exact HQ.out, HX10.out⟩
            case measure => simp [lenV]; omega
          | false =>
            have hl2 : ltB L1[k].1 s = true := by
              cases h : ltB L1[k].1 s with
              | true => rfl
              | false => exact absurd (ltB_total h hl) hname
            have HQ := Lib.hid (show (acc ++ [(⟨TL.key, TR.key, L1[k].1, L1[k].2⟩ : Nd)]) ++ TR.sel (fun o => ltB s o) (fun o => ltB o s) = R by
              have := HRR.out
              simpa [hl, hl2] using this)
            rw [hl] at e2
            have hcut := RdL.cutN (k := k + 1) H.out rfl (by omega)
            simp only [Option.map_some, Addr.add_lit, show tEnt.sz = 2 from rfl, eq_self, if_true, Nat.sub_self] at hcut
            have HCUT := Lib.hid hcut
            clear hname hcut
            go_wp2
            go_roundw
            case rel => exact ⟨f, L1.drop (k + 1), _, by rw [List.length_drop]; omega, by rw [List.length_drop]; omega, by rw [List.length_append, List.length_drop]; have := HAL.out; simp only [List.length_singleton]; omega, HG.out.drop (k + 1), HCUT.out, HO10.out, by rw [HTR.out]; exact HQ.out, HX10.out⟩
            case measure => simp [lenV]; omega
      · have H := Lib.hid (show RdL tEnt w S (.slice (some ⟨g, o, none⟩) L1.length cap) L1 from hr)
        have ihl := fun W (hW : RdL tEnt W S (.slice (some ⟨g, o, none⟩) L1.length cap) L1) => l04Nodes_any f _ (L1.take k) (by rw [List.length_take]; omega) (by rw [List.length_take]; omega) (hg1.take k) W S (RdL.headN (k := k) hW rfl (by omega))
        have ihr := fun W (hW : RdL tEnt W S (.slice (some ⟨g, o, none⟩) L1.length cap) L1) => l04Nodes_any f _ (L1.drop (k + 1)) (by rw [List.length_drop]; omega) (by rw [List.length_drop]; omega) (hg1.drop (k + 1)) W S (RdL.cutN (k := k + 1) hW rfl (by omega))
        have htop := fun W (hW : RdL tEnt W S (.slice (some ⟨g, o, none⟩) L1.length cap) L1) => l04Top_any _ L1 (by omega) hg1 W S hW
        simp only [Option.map_some, Addr.add_lit, show tEnt.sz = 2 from rfl, if_neg hce] at ihr
        rw [hk] at htop
        simp only [hTL] at ihl
        simp only [hTR] at ihr
        have HTL := Lib.hid hTL
        have HTR := Lib.hid hTR
        have HG := Lib.hid hg1
        have hi : (0 : Int) ≤ (k : Int) := by omega
        have hi2 : (k : Int) ≤ (L1.length : Int) := by omega
        have hi3 : (k : Int) < (L1.length : Int) := by omega
        have hi4 : (k : Int) + 1 ≤ (L1.length : Int) := by omega
        have hi5 : (0 : Int) ≤ (k : Int) + 1 := by omega
        have hi6 : (k : Int) ≤ (cap : Int) := by omega
        have hi8 : (L1.length : Int) ≤ (cap : Int) := by omega
        have hi9 : (k : Int) + 1 ≤ (cap : Int) := by omega
        have hi0 : (0 : Int) < (L1.length : Int) := by omega
        have HQC := Lib.hid hcap
        clear hTL hTR hg1 hr hk hcap
        go_wp2_with fail
        refine (htop _ (H.out.ext (by decide) HX.out)).mono ?_
        rintro e w1 ⟨rfl, hx⟩
        have XW := Lib.hid (HX.out.trans hx)
        have HO1 := Lib.hid (HO.out.ext hx)
        have HS1 := Lib.hid hx.size
        clear hx htop
        go_wp2_with fail
        refine (ihl _ (H.out.ext (by decide) XW.out)).mono ?_
        rintro e w2 ⟨vl, rfl, ho, hx⟩
        replace XW := Lib.hid (XW.out.trans hx)
        have HO2 := Lib.hid (HO1.out.ext hx)
        have HS2 := Lib.hid (Nat.le_trans HS1.out hx.size)
        obtain ⟨AL, nl, cl, rfl⟩ := ho.shape3
        clear ho hx ihl HO1
        go_wp2_with (refine wpl_storeNew aggKey KL.out rfl rfl _ _ rfl rfl rfl rfl ?_)
        refine (ihr _ (H.out.ext (by decide) (XW.out.alloc _))).mono ?_
        rintro e w3 ⟨vr, rfl, ho, hx⟩
        replace XW := Lib.hid ((XW.out.alloc _).trans hx)
        have HO3 := Lib.hid (((HO2.out.alloc _).ext hx).alloc (.cells (numsA .u8 TR.key) 27))
        have HS3 := Lib.hid (show wr.heap.size ≤ w3.heap.size by have := hx.size; have := HS2.out; simp only [size_alloc] at *; omega)
        have B6 := Lib.hid (((Blk.new w2 27 (numsA .u8 TL.key)).ext hx).alloc (.cells (numsA .u8 TR.key) 27))
        have B8 := Lib.hid (Blk.new w3 27 (numsA .u8 TR.key))
        obtain ⟨AR, nr, cr, rfl⟩ := ho.shape3
        clear ho hx ihr HO2
        go_wp2_with (refine wpl_storeNew aggKey KR.out rfl rfl _ _ rfl rfl rfl rfl ?_)
        refine wp_region_held_drew (S := fun W => Ext w W ∧ Blk W w2.heap.size 27 (numsA .u8 TL.key) ∧ Blk W w3.heap.size 27 (numsA .u8 TR.key)) (by kernel_rfl) ⟨(XW.out.alloc _).drew, B6.out.drewN 1, B8.out.drewN 1⟩ (fun hHeld => ?_)
        have hs9 : (w3.alloc (.cells (numsA .u8 TR.key) 27)).heap.size = (w3.alloc (.cells (numsA .u8 TR.key) 27)).drew.heap.size := rfl
        have HOd := Lib.hid (show Own tNd 31 (w3.alloc (.cells (numsA .u8 TR.key) 27)).drew w.heap.size (.slice C cn cc) acc from HO3.out)
        generalize hw9 : (w3.alloc (.cells (numsA .u8 TR.key) 27)).drew = w9 at hHeld HOd hs9 ⊢
        clear hw9
        refine wpAnyH_take (i := 0) (oi := ?oiz12) (v := ?vz12) ?hiz12 (by kernel_rfl) (by kernel_rfl) (by kernel_rfl) ?hQz12 ?hyz12 (by assumption) ?restz12
        case hiz12 => simp only [List.getElem?_toArray, List.getElem?_cons_zero, List.getElem?_cons_succ]; rfl
        case hQz12 => exact fun _ _ _ h => h
        case hyz12 => exact Or.inl ⟨by rfl, by intro w hSw; (try dsimp only at hSw); go_simp; with_reducible rfl⟩
        try simp only [Act.put, List.setIfInBounds_toArray, List.set_cons_zero, List.set_cons_succ]
        refine wpAnyH_take (i := 1) (oi := ?oiz13) (v := (.agg (numsA .u8 TL.key))) ?hiz13 (by kernel_rfl) (by kernel_rfl) (by kernel_rfl) ?hQz13 ?hyz13 (by assumption) ?restz13
        case hiz13 => simp only [List.getElem?_toArray, List.getElem?_cons_zero, List.getElem?_cons_succ]; rfl
        case hQz13 => exact fun _ _ _ h => h
        case hyz13 => refine yields_loadS w2.heap.size 0 (nums .u8 TL.key) (by rw [nums_length, KL.out]; exact aggKey) (fun W hW j u hu => by rw [Nat.zero_add]; exact hW.2.1.at_ j (by rw [numsA, List.getElem?_toArray]; exact hu)) ?_ _ rfl rfl; rfl
        try simp only [Act.put, List.setIfInBounds_toArray, List.set_cons_zero, List.set_cons_succ]
        refine wpAnyH_take (i := 2) (oi := ?oiz14) (v := (.agg (numsA .u8 TR.key))) ?hiz14 (by kernel_rfl) (by kernel_rfl) (by kernel_rfl) ?hQz14 ?hyz14 (by assumption) ?restz14
        case hiz14 => simp only [List.getElem?_toArray, List.getElem?_cons_zero, List.getElem?_cons_succ]; rfl
        case hQz14 => exact fun _ _ _ h => h
        case hyz14 => refine yields_loadS w3.heap.size 0 (nums .u8 TR.key) (by rw [nums_length, KR.out]; exact aggKey) (fun W hW j u hu => by rw [Nat.zero_add]; exact hW.2.2.at_ j (by rw [numsA, List.getElem?_toArray]; exact hu)) ?_ _ rfl rfl; rfl
        try simp only [Act.put, List.setIfInBounds_toArray, List.set_cons_zero, List.set_cons_succ]
        refine wpAnyH_take (i := 3) (oi := ?oiz15) (v := ?vz15) ?hiz15 (by kernel_rfl) (by kernel_rfl) (by kernel_rfl) ?hQz15 ?hyz15 (by assumption) ?restz15
        case hiz15 => simp only [List.getElem?_toArray, List.getElem?_cons_zero, List.getElem?_cons_succ]; rfl
        case hQz15 => exact fun _ _ _ h => h
        case hyz15 => exact Or.inl ⟨by rfl, by intro w hSw; (try dsimp only at hSw); go_simp; with_reducible rfl⟩
        try simp only [Act.put, List.setIfInBounds_toArray, List.set_cons_zero, List.set_cons_succ]
        refine wpAnyH_take (i := 4) (oi := ?oiz16) (v := ?vz16) ?hiz16 (by kernel_rfl) (by kernel_rfl) (by kernel_rfl) ?hQz16 ?hyz16 (by assumption) ?restz16
        case hiz16 => simp only [List.getElem?_toArray, List.getElem?_cons_zero, List.getElem?_cons_succ]; rfl
        case hQz16 => exact fun _ _ _ h => h
        case hyz16 => exact Or.inl ⟨by rfl, by intro w hSw; (try dsimp only at hSw); go_simp; with_reducible rfl⟩
        try simp only [Act.put, List.setIfInBounds_toArray, List.set_cons_zero, List.set_cons_succ]
        refine wpAnyH_take (i := 5) (oi := ?oiz17) (v := ?vz17) ?hiz17 (by kernel_rfl) (by kernel_rfl) (by kernel_rfl) ?hQz17 ?hyz17 (by assumption) ?restz17
        case hiz17 => simp only [List.getElem?_toArray, List.getElem?_cons_zero, List.getElem?_cons_succ]; rfl
        case hQz17 => exact fun _ _ _ h => h
        case hyz17 => exact Or.inl ⟨by rfl, by intro w hSw; (try dsimp only at hSw); go_simp; with_reducible rfl⟩
        try simp only [Act.put, List.setIfInBounds_toArray, List.set_cons_zero, List.set_cons_succ]
        refine wpAnyH_take (i := 6) (oi := ?oiz18) (v := (.agg #[.string L1[k].1, .string L1[k].2])) ?hiz18 (by kernel_rfl) (by kernel_rfl) (by kernel_rfl) ?hQz18 ?hyz18 (by assumption) ?restz18
        case hiz18 => simp only [List.getElem?_toArray, List.getElem?_cons_zero, List.getElem?_cons_succ]; rfl
        case hQz18 => exact fun _ _ _ h => h
        case hyz18 => refine yields_loadS g (o + k * 2) [.string L1[k].1, .string L1[k].2] aggEntryI (fun W hW => HC.out W hW.1) ?_ _ rfl rfl; rfl
        try simp only [Act.put, List.setIfInBounds_toArray, List.set_cons_zero, List.set_cons_succ]
        refine wpAnyH_take (i := 7) (oi := ?oiz19) (v := (.agg (Nd.enc ⟨TL.key, TR.key, L1[k].1, L1[k].2⟩).toArray)) ?hiz19 (by kernel_rfl) (by kernel_rfl) (by kernel_rfl) ?hQz19 ?hyz19 (by assumption) ?restz19
        case hiz19 => simp only [List.getElem?_toArray, List.getElem?_cons_zero, List.getElem?_cons_succ]; rfl
        case hQz19 => exact fun _ _ _ h => h
        case hyz19 => refine yields_build ?_ rfl (built_node ⟨TL.key, TR.key, L1[k].1, L1[k].2⟩ HND.out); rfl
        try simp only [Act.put, List.setIfInBounds_toArray, List.set_cons_zero, List.set_cons_succ]
        refine wpAnyH_ready (rs := [8]) (by kernel_rfl) (by simp) (AllReadyH.cons (o := ?oy208) ?hy208 (fun K hK => ?sy208) AllReadyH.nil)
        case hy208 => simp only [List.getElem?_toArray, List.getElem?_cons_zero, List.getElem?_cons_succ]; rfl
        refine stp_build1 Try.underlying36 zeroNd (Nd.st HND.out).size (by decide) (by decide) rfl (.tmp 39) rfl rfl ?_
        have hH2 : Ext w (w9.alloc (.cells (Nd.enc ⟨TL.key, TR.key, L1[k].1, L1[k].2⟩).toArray 31)) ∧ Blk (w9.alloc (.cells (Nd.enc ⟨TL.key, TR.key, L1[k].1, L1[k].2⟩).toArray 31)) w2.heap.size 27 (numsA .u8 TL.key) ∧ Blk (w9.alloc (.cells (Nd.enc ⟨TL.key, TR.key, L1[k].1, L1[k].2⟩).toArray 31)) w3.heap.size 27 (numsA .u8 TR.key) := ⟨hHeld.1.alloc _, hHeld.2.1.alloc _, hHeld.2.2.alloc _⟩
        refine hK.out _ _ hH2 (fun _ => ?_)
        clear hK K
        try simp only [Act.put, List.setIfInBounds_toArray, List.set_cons_zero, List.set_cons_succ]
        refine wpAnyH_ready (rs := [9]) (by kernel_rfl) (by simp) (AllReadyH.cons (o := ?oy219) ?hy219 (fun K hK => ?sy219) AllReadyH.nil)
        case hy219 => simp only [List.getElem?_toArray, List.getElem?_cons_zero, List.getElem?_cons_succ]; rfl
        refine stp_append rowNd rfl _ _ rfl (v := .slice C cn cc) rfl (HOd.out.alloc _) _ _ rfl (A := some ⟨w9.heap.size, 0, none⟩) (ys := [⟨TL.key, TR.key, L1[k].1, L1[k].2⟩]) rfl (rd_one (T := tNd) w9 ⟨TL.key, TR.key, L1[k].1, L1[k].2⟩ HND.out _) (by intro y hy; obtain rfl := List.mem_singleton.1 hy; exact HND.out) (by have := HAL.out; simp only [List.length_singleton]; omega) hH2.1.size ?_
        intro v10 w10 ho1 hg1 hat1
        have hfar : ∀ b, wr.heap.size ≤ b → some b ≠ (Value.slice C cn cc).ownBlock := fun b hb e => by have := (HO.out.base_le _ e.symm).2; omega
        have hs2 := HS2.out
        have hs3 := HS3.out
        have hH3 : Ext w w10 ∧ Blk w10 w2.heap.size 27 (numsA .u8 TL.key) ∧ Blk w10 w3.heap.size 27 (numsA .u8 TR.key) := ⟨(HOd.out.alloc _).ext_app hH2.1 hg1, hH2.2.1.grown hg1 (hfar _ hs2), hH2.2.2.grown hg1 (hfar _ hs3)⟩
        have HO10 := Lib.hid ho1
        have HX10 := Lib.hid hH3.1
        obtain ⟨D, dn, dc, rfl⟩ := ho1.shape3
        clear ho1 hg1 hat1 hfar
        refine hK.out _ _ hH3 (fun _ => ?_)
        clear hK K hH2 hH3 hHeld
        try simp only [Act.put, List.setIfInBounds_toArray, List.set_cons_zero, List.set_cons_succ]
        refine wpAnyH_take (i := 10) (oi := ?oiz22) (v := ?vz22) ?hiz22 (by kernel_rfl) (by kernel_rfl) (by kernel_rfl) ?hQz22 ?hyz22 (by assumption) ?restz22
        case hiz22 => simp only [List.getElem?_toArray, List.getElem?_cons_zero, List.getElem?_cons_succ]; rfl
        case hQz22 => exact fun _ _ _ h => h
        case hyz22 => exact Or.inl ⟨by rfl, by intro w hSw; (try dsimp only at hSw); go_simp; with_reducible rfl⟩
        try simp only [Act.put, List.setIfInBounds_toArray, List.set_cons_zero, List.set_cons_succ]
        refine wpAnyH_done (by kernel_rfl) ?_ _
        have d0 := HC.out w10 HX10.out 0 _ rfl
        have d1 : w10.cell? ⟨g, o + k * 2, none⟩ = some (.string L1[k].1) := d0
        have e2 := ltB_eq s L1[k].1
        clear d0 B6 B8
        have HRR := Lib.hid hR
        clear hR
        by_cases hname : L1[k].1 = s
        · have hn2 : (L1[k].1.toList == s.toList) = true := by rw [hname, beq_self_eq_true]
          have HQ := Lib.hid (show acc ++ [(⟨TL.key, TR.key, L1[k].1, L1[k].2⟩ : Nd)] = R by
            have := HRR.out
            simpa [hname, ltB_irrefl] using this)
          clear hname e2
          go_wp2
          go_ret
          exact ⟨_, rfl, by rw [← HQ.out]; exact HO10.out, HX10.out⟩
        · have hn2 : (L1[k].1.toList == s.toList) = false := by rw [beq_eq_false_iff_ne]; exact fun e => hname (toList_inj e)
          cases hl : ltB s L1[k].1 with
          | true =>
            have HQ := Lib.hid (show (acc ++ [(⟨TL.key, TR.key, L1[k].1, L1[k].2⟩ : Nd)]) ++ TL.sel (fun o => ltB s o) (fun o => ltB o s) = R by
              have := HRR.out
              simpa [hl, ltB_asymm hl] using this)
            rw [hl] at e2
            clear hname
            go_wp2
            go_roundw
            case rel => exact ⟨f, L1.take k, _, by rw [List.length_take]; omega, by rw [List.length_take]; omega, by rw [List.length_append, List.length_take]; have := HAL.out; simp only [List.length_singleton]; omega, HG.out.take k, RdL.headN H.out rfl (by omega), HO10.out, by rw [HTL.out]; exact HQ.out, HX10.out⟩
            case measure => simp [lenV]; omega
          | false =>
            have hl2 : ltB L1[k].1 s = true := by
              cases h : ltB L1[k].1 s with
              | true => rfl
              | false => exact absurd (ltB_total h hl) hname
            have HQ := Lib.hid (show (acc ++ [(⟨TL.key, TR.key, L1[k].1, L1[k].2⟩ : Nd)]) ++ TR.sel (fun o => ltB s o) (fun o => ltB o s) = R by
              have := HRR.out
              simpa [hl, hl2] using this)
            rw [hl] at e2
            have hcut := RdL.cutN (k := k + 1) H.out rfl (by omega)
            simp only [Option.map_some, Addr.add_lit, show tEnt.sz = 2 from rfl, if_neg hce] at hcut
            have HCUT := Lib.hid hcut
            clear hname hcut
            go_wp2
            go_roundw
            case rel => exact ⟨f, L1.drop (k + 1), _, by rw [List.length_drop]; omega, by rw [List.length_drop]; omega, by rw [List.length_append, List.length_drop]; have := HAL.out; simp only [List.length_singleton]; omega, HG.out.drop (k + 1), HCUT.out, HO10.out, by rw [HTR.out]; exact HQ.out, HX10.out⟩
            case measure => simp [lenV]; omega
end Go.Proofs.Ytmndkbheehcoaaa
/- The path to a name, as it is asked for. No condition. -/
namespace Go.Proofs.Ytmndkbheehcoaaa
open Go.RowKit
set_option linter.unusedVariables false
set_option linter.unusedSimpArgs false

/-- the path to a name, and the code -/
def provR (L : List En) (s : ByteArray) : List Nd × Int := if okE L && nameB s then ((trF L.length L).sel (fun o => ltB s o) (fun o => ltB o s), 0) else ([], 1)
theorem provR_len (L : List En) (s : ByteArray) : (provR L s).1.length ≤ 64 := by
  unfold provR
  split
  · rename_i h
    rw [Bool.and_eq_true] at h
    have h1 := (okE_incs' h.1).2
    exact Nat.le_trans (Tr.sel_le _ _ _) (Nat.le_trans (trF_len _ _) h1)
  · exact Nat.zero_le _
set_option maxHeartbeats 1000000 in
set_option maxRecDepth 100000 in
theorem specProveName_any (v : Value) (L : List En) (s : ByteArray) (hsz : s.size ≤ 140737488351232) (w : World) (S : Nat → Prop) (h : RdL tEnt w S v L) :
    Calls Try.prog 50 #[v, .string s] w fun e w' => ∃ v', e = .returned (.tuple #[v', .int .i64 (provR L s).2]) ∧ Own tNd 31 w' w.heap.size v' (provR L s).1 ∧ Ext w w' := by
  have H := Lib.hid h
  have hokL := h.choose_spec.choose_spec.2.2.2.2
  have hc := l04Ok_any v L w S h
  have hn := l04Name_any s hsz
  have hp := fun (hb : okE L = true) W hW => l04Path_any v L s (okE_incs' hb).2 (good_of hb hokL) W S hW
  obtain ⟨A, cap, rfl, hcap, hlen, _⟩ := h
  cases hb : okE L with
  | false =>
    simp only [provR, hb, Bool.false_and, Bool.false_eq_true, if_false]
    simp only [hb] at hc
    clear hb hp
    go_enter Try.func50, Try.ntmps50
    go_wp2_with fail
    refine hc.mono ?_
    rintro e w1 ⟨rfl, hx⟩
    have HX := Lib.hid hx
    clear hx
    go_wp2
    go_ret2
    exact ⟨_, rfl, Own.empty tNd _ 31 _ HX.out.size, HX.out.alloc _⟩
  | true =>
    simp only [hb] at hc
    replace hp := hp hb
    cases hb2 : nameB s with
    | false =>
      simp only [provR, hb, hb2, Bool.and_false, Bool.false_eq_true, if_false]
      simp only [hb2] at hn
      clear hb hb2 hp
      go_enter Try.func50, Try.ntmps50
      go_wp2_with fail
      refine hc.mono ?_
      rintro e w1 ⟨rfl, hx⟩
      have HX := Lib.hid hx
      clear hx
      go_wp2_with fail
      refine (hn _).mono ?_
      rintro e w' ⟨rfl, rfl⟩
      go_wp2
      go_ret2
      exact ⟨_, rfl, Own.empty tNd _ 31 _ HX.out.size, HX.out.alloc _⟩
    | true =>
      simp only [provR, hb, hb2, Bool.and_true, if_true]
      simp only [hb2] at hn
      clear hb hb2
      go_enter Try.func50, Try.ntmps50
      go_wp2_with fail
      refine hc.mono ?_
      rintro e w1 ⟨rfl, hx⟩
      have HX := Lib.hid hx
      clear hx
      go_wp2_with fail
      refine (hn _).mono ?_
      rintro e w' ⟨rfl, rfl⟩
      go_wp2_with fail
      refine (hp _ (H.out.ext (by decide) HX.out)).mono ?_
      rintro e w2 ⟨v2, rfl, ho, hx⟩
      have HO := Lib.hid (ho.le (base' := w.heap.size) HX.out.size)
      have HX2 := Lib.hid (HX.out.trans hx)
      obtain ⟨A2, n2, c2, rfl⟩ := ho.shape3
      clear ho hx
      go_wp2
      go_ret2
      exact ⟨_, rfl, HO.out, HX2.out⟩
set_option maxHeartbeats 1000000 in
set_option maxRecDepth 100000 in
theorem implProveName_any (v : Value) (L : List En) (s : ByteArray) (hsz : s.size ≤ 140737488351232) (w : World) (S : Nat → Prop) (h : RdL tEnt w S v L) :
    Calls Try.prog 49 #[v, .string s] w fun e w' => ∃ v', e = .returned (.tuple #[v', .int .i64 (provR L s).2]) ∧ Own tNd 31 w' w.heap.size v' (provR L s).1 ∧ Ext w w' := by
  have H := Lib.hid h
  have hokL := h.choose_spec.choose_spec.2.2.2.2
  have hc := validEntries_any v L w S h
  have hn := isName_any s hsz
  have hp := fun (hb : okE L = true) W hW => path_any v L s (okE_incs' hb).2 (good_of hb hokL) W S hW
  obtain ⟨A, cap, rfl, hcap, hlen, _⟩ := h
  cases hb : okE L with
  | false =>
    simp only [provR, hb, Bool.false_and, Bool.false_eq_true, if_false]
    simp only [hb] at hc
    clear hb hp
    go_enter Try.func49, Try.ntmps49
    go_wp2_with fail
    refine hc.mono ?_
    rintro e w1 ⟨rfl, hx⟩
    have HX := Lib.hid hx
    clear hx
    go_wp2
    go_ret2
    exact ⟨_, rfl, Own.nil _ _ _ _, HX.out⟩
  | true =>
    simp only [hb] at hc
    replace hp := hp hb
    cases hb2 : nameB s with
    | false =>
      simp only [provR, hb, hb2, Bool.and_false, Bool.false_eq_true, if_false]
      simp only [hb2] at hn
      clear hb hb2 hp
      go_enter Try.func49, Try.ntmps49
      go_wp2_with fail
      refine hc.mono ?_
      rintro e w1 ⟨rfl, hx⟩
      have HX := Lib.hid hx
      clear hx
      go_wp2_with fail
      refine (hn _).mono ?_
      rintro e w' ⟨rfl, rfl⟩
      go_wp2
      go_ret2
      exact ⟨_, rfl, Own.nil _ _ _ _, HX.out⟩
    | true =>
      simp only [provR, hb, hb2, Bool.and_true, if_true]
      simp only [hb2] at hn
      clear hb hb2
      go_enter Try.func49, Try.ntmps49
      go_wp2_with fail
      refine hc.mono ?_
      rintro e w1 ⟨rfl, hx⟩
      have HX := Lib.hid hx
      clear hx
      go_wp2_with fail
      refine (hn _).mono ?_
      rintro e w' ⟨rfl, rfl⟩
      go_wp2_with fail
      refine (hp _ (H.out.ext (by decide) HX.out)).mono ?_
      rintro e w2 ⟨v2, rfl, ho, hx⟩
      have HO := Lib.hid (ho.le (base' := w.heap.size) HX.out.size)
      have HX2 := Lib.hid (HX.out.trans hx)
      obtain ⟨A2, n2, c2, rfl⟩ := ho.shape3
      clear ho hx
      go_wp2
      go_ret2
      exact ⟨_, rfl, HO.out, HX2.out⟩
end Go.Proofs.Ytmndkbheehcoaaa
/- A map's own path, checked; where two paths part: plainly. No condition. -/
namespace Go.Proofs.Ytmndkbheehcoaaa
open Go.RowKit
set_option linter.unusedVariables false
set_option linter.unusedSimpArgs false

/-- the path to a name in a tree -/
def Tr.way (s : ByteArray) (T : Tr) : List Nd := T.sel (fun o => ltB s o) (fun o => ltB o s)
theorem Tr.way_node (s : ByteArray) (x : Nd) (l r : Tr) : (Tr.node x l r).way s = x :: ((if ltB s x.n then l.way s else []) ++ (if ltB x.n s then r.way s else [])) := by rw [way, Tr.sel]; rfl
theorem way_ck (s : ByteArray) (f : Nat) : ∀ (L : List En), L.length ≤ f → L.Pairwise ltE → (∀ e ∈ L, e.1 = s → ckF s (trF f L).key ((trF f L).way s) = (true, e.2, true)) ∧ ((∀ e ∈ L, e.1 ≠ s) → ckF s (trF f L).key ((trF f L).way s) = (false, ⟨#[]⟩, true)) := by
  have nil : ckF s Tr.leaf.key (Tr.leaf.way s) = (false, ⟨#[]⟩, true) := by
    show ckF s emptyL [] = _
    rw [ckF_nil]; simp
  induction f with
  | zero =>
    intro L hf hp
    obtain rfl : L = [] := List.eq_nil_of_length_eq_zero (by omega)
    rw [trF_zero]
    exact ⟨(fun e he => by cases he), fun _ => nil⟩
  | succ f ih =>
    intro L hf hp
    by_cases h0 : L.length = 0
    · obtain rfl : L = [] := List.eq_nil_of_length_eq_zero h0
      rw [trF_nil _ _ h0]
      exact ⟨(fun e he => by cases he), fun _ => nil⟩
    · have hlt := topE_lt (L := L) (by omega)
      rw [trF_cons _ _ h0]
      obtain ⟨k, hk⟩ : ∃ k, topE L = k := ⟨_, rfl⟩
      rw [hk] at hlt ⊢
      rw [gE_lt hlt]
      have hpw := List.pairwise_iff_getElem.1 hp
      have hl := ih (L.take k) (by rw [List.length_take]; omega) (hp.sublist (List.take_sublist _ _))
      have hr := ih (L.drop (k + 1)) (by rw [List.length_drop]; omega) (hp.sublist (List.drop_sublist _ _))
      generalize trF f (L.take k) = TL at hl ⊢
      generalize trF f (L.drop (k + 1)) = TR at hr ⊢
      rw [Tr.way_node]
      show (∀ e ∈ L, e.1 = s → ckF s (hashL 5 (nodeL ⟨TL.key, TR.key, L[k].1, L[k].2⟩)) _ = _) ∧ (_ → ckF s (hashL 5 (nodeL ⟨TL.key, TR.key, L[k].1, L[k].2⟩)) _ = _)
      rw [ckF_cons]
      by_cases hq : L[k].1 = s
      · rw [ckS_hit _ _ rfl hq]
        have e1 : ltB s L[k].1 = false := by rw [hq]; exact ltB_irrefl s
        have e2 : ltB L[k].1 s = false := by rw [hq]; exact ltB_irrefl s
        simp only [e1, e2, Bool.false_eq_true, if_false, List.append_nil, List.isEmpty_nil]
        refine ⟨fun e he hes => ?_, fun h => absurd hq (h _ (List.getElem_mem hlt))⟩
        obtain ⟨i, hi, rfl⟩ := List.getElem_of_mem he
        obtain rfl : i = k := by
          rcases Nat.lt_trichotomy i k with h | h | h
          · exact absurd (hes.trans hq.symm) (ltB_ne (hpw i k hi hlt h))
          · exact h
          · exact absurd (hq.trans hes.symm) (ltB_ne (hpw k i hlt hi h))
        rfl
      · rw [ckS_on _ _ rfl hq]
        cases h1 : ltB s L[k].1 with
        | true =>
          have e2 := ltB_asymm h1
          simp only [e2, Bool.false_eq_true, if_false, if_true, List.append_nil]
          refine ⟨fun e he hes => hl.1 e ?_ hes, fun h => hl.2 fun e he => h e (List.mem_of_mem_take he)⟩
          obtain ⟨i, hi, rfl⟩ := List.getElem_of_mem he
          have hik : i < k := by
            rcases Nat.lt_trichotomy i k with h | h | h
            · exact h
            · subst h; exact absurd hes hq
            · have h2 := hpw k i hlt hi h
              rw [ltE, hes, e2] at h2
              cases h2
          rw [List.mem_take_iff_getElem]
          exact ⟨i, by omega, rfl⟩
        | false =>
          have e2 : ltB L[k].1 s = true := by
            cases h2 : ltB L[k].1 s with
            | true => rfl
            | false => exact absurd (ltB_total h2 h1) hq
          simp only [e2, Bool.false_eq_true, if_false, if_true, List.nil_append]
          refine ⟨fun e he hes => hr.1 e ?_ hes, fun h => hr.2 fun e he => h e (List.mem_of_mem_drop he)⟩
          obtain ⟨i, hi, rfl⟩ := List.getElem_of_mem he
          have hik : k < i := by
            rcases Nat.lt_trichotomy i k with h | h | h
            · have h2 := hpw i k hi hlt h
              rw [ltE, hes, h1] at h2
              cases h2
            · subst h; exact absurd hes hq
            · exact h
          rw [List.mem_drop_iff_getElem]
          exact ⟨i - (k + 1), by omega, by congr 1; omega⟩
/-- what a map has of a name -/
def valE (L : List En) (s : ByteArray) : ByteArray := if hasE L s then (gE L (posE L s)).2 else ⟨#[]⟩
theorem own_ck {L : List En} (h : okE L = true) (s : ByteArray) : ckF s (trF L.length L).key ((trF L.length L).way s) = (hasE L s, valE L s, true) := by
  have hi := (okE_incs h).1
  have hw := way_ck s L.length L (Nat.le_refl _) (incs_pair.1 hi).2
  cases hh : hasE L s with
  | true =>
    have h2 := hh
    rw [hasE_eq, decide_eq_true_eq] at h2
    rw [valE, hh, if_pos rfl, gE_lt h2.1]
    refine hw.1 _ (List.getElem_mem h2.1) ?_
    rw [← gE_lt h2.1]; exact h2.2
  | false =>
    rw [valE, hh]
    refine hw.2 fun e he hes => ?_
    obtain ⟨i, hl, rfl⟩ := List.getElem_of_mem he
    have hp := posE_hit (s := s) hi i hl (by rw [gE_lt hl]; exact hes)
    rw [hasE_eq, decide_eq_false_iff_not] at hh
    exact hh (by rw [hp]; exact ⟨hl, by rw [gE_lt hl]; exact hes⟩)
/-- the node of zeros -/
def zeroN : Nd := ⟨List.replicate 32 0, List.replicate 32 0, ⟨#[]⟩, ⟨#[]⟩⟩
theorem zK : K32 (List.replicate 32 0) := ⟨rfl, by intro x hx; obtain ⟨_, rfl⟩ := List.mem_replicate.1 hx; omega⟩
theorem zeroN_ok : zeroN.ok := ⟨zK, zK, by decide, by decide⟩
deriving instance DecidableEq for Nd
/-- how far two paths are alike -/
def partN : List Nd → List Nd → Nat
  | x :: xs, y :: ys => if x = y then partN xs ys + 1 else 0
  | _, _ => 0
theorem partN_eq (A : List Nd) : ∀ (B : List Nd) (d : Nat), d ≤ A.length → d ≤ B.length → (∀ p, p < d → A.getD p zeroN = B.getD p zeroN) → (d = A.length ∨ d = B.length ∨ A.getD d zeroN ≠ B.getD d zeroN) → partN A B = d := by
  induction A with
  | nil => intro B d h1 _ _ _; simp at h1; subst h1; simp [partN]
  | cons x xs ih =>
    intro B d h1 h2 h3 h4
    match B, d with
    | [], d => simp at h2; subst h2; simp [partN]
    | y :: ys, 0 =>
      rw [partN, if_neg]
      rcases h4 with h | h | h
      · simp at h
      · simp at h
      · simpa using h
    | y :: ys, d + 1 =>
      have e0 := h3 0 (by omega)
      simp only [List.getD_cons_zero] at e0
      rw [partN, if_pos e0, ih ys d (by simpa using h1) (by simpa using h2) (fun p hp => by simpa using h3 (p + 1) (by omega)) (by simpa using h4)]
theorem alike {A B : List Nd} (hl : A.length = B.length) (h : ∀ p, p < A.length → A.getD p zeroN = B.getD p zeroN) : A = B := by
  refine List.ext_getElem hl fun i h1 h2 => ?_
  have := h i h1
  rw [List.getD_eq_getElem?_getD, List.getD_eq_getElem?_getD, List.getElem?_eq_getElem h1, List.getElem?_eq_getElem h2] at this
  exact this
/-- valid nodes are not the node of zeros -/
def full (A : List Nd) : Prop := ∀ i, i < A.length → A.getD i zeroN ≠ zeroN
theorem full_of {A : List Nd} (h : ∀ x ∈ A, entB x.n x.v = true) : full A := by
  intro i hi e
  rw [List.getD_eq_getElem?_getD, List.getElem?_eq_getElem hi] at e
  have h2 := entB_le (h _ (List.getElem_mem hi))
  rw [show A[i] = zeroN from e] at h2
  exact absurd h2.1 (by decide)
theorem both {A B : List Nd} (fa : full A) (fb : full B) (ne : A ≠ B) (i : Nat) (ha : i ≤ A.length) (hb : i ≤ B.length) (h : ∀ p, p < i → A.getD p zeroN = B.getD p zeroN) (e : A.getD i zeroN = B.getD i zeroN) : i < A.length ∧ i < B.length := by
  by_cases h1 : i < A.length
  · refine ⟨h1, ?_⟩
    by_cases h2 : i < B.length
    · exact h2
    · refine absurd ?_ (fa i h1)
      rw [e, List.getD_eq_getElem?_getD, List.getElem?_eq_none (by omega)]; rfl
  · by_cases h2 : i < B.length
    · refine absurd ?_ (fb i h2)
      rw [← e, List.getD_eq_getElem?_getD, List.getElem?_eq_none (by omega)]; rfl
    · exact absurd (alike (by omega) (fun p hp => h p (by omega))) ne
/-- what is answered: the two nodes and the code -/
def clR (L : List En) (s : ByteArray) (P : List Nd) : Nd × Nd × Int :=
  if okE L && nameB s && okNs P then
    (if (chkR (trF L.length L).key s P).2.2 = 0 then
      (if (chkR (trF L.length L).key s P).1 = hasE L s ∧ (chkR (trF L.length L).key s P).2.1 = valE L s then (zeroN, zeroN, 6)
       else (((trF L.length L).way s).getD (partN ((trF L.length L).way s) P) zeroN, P.getD (partN ((trF L.length L).way s) P) zeroN, 0))
     else (zeroN, zeroN, 4))
  else (zeroN, zeroN, 1)
theorem own_ne {L : List En} (h : okE L = true) (s : ByteArray) {P : List Nd} {c1 : Bool} {c2 : ByteArray} {c3 : Bool} (hc : ckF s (trF L.length L).key P = (c1, c2, c3)) (hn : ¬ (c1 = hasE L s ∧ c2 = valE L s)) : (trF L.length L).way s ≠ P := by
  intro e
  rw [← e, own_ck h s] at hc
  injection hc with e1 e2
  injection e2 with e2 e3
  exact hn ⟨e1.symm, e2.symm⟩
theorem Tr.sel_sub (p q : ByteArray → Bool) (T : Tr) : ∀ x ∈ T.sel p q, x ∈ T.all := by
  induction T with
  | leaf => intro x hx; simp [Tr.sel] at hx
  | node y l r il ir =>
    intro x hx
    simp only [Tr.sel, Tr.all, List.mem_cons, List.mem_append] at hx ⊢
    rcases hx with rfl | hx | hx
    · exact .inl rfl
    · split at hx
      · exact .inr (.inl (il x hx))
      · simp at hx
    · split at hx
      · exact .inr (.inr (ir x hx))
      · simp at hx
theorem way_full {L : List En} (hg : good L) (s : ByteArray) : full ((trF L.length L).way s) := full_of fun x hx => ((trF L.length L).all_ok (trF_ok _ _ hg) x (Tr.sel_sub _ _ _ x hx)).2
theorem okNs_full {P : List Nd} (h : okNs P = true) : full P := full_of fun x hx => by obtain ⟨i, hi, rfl⟩ := List.getElem_of_mem hx; exact okNs_at h hi
end Go.Proofs.Ytmndkbheehcoaaa
