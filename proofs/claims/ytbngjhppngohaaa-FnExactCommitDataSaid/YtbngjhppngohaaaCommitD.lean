/- The bytes of a commit: the reference and the program. No condition. -/
import Derived.Test.YtbngjhppngohaaaCommitV
import Derived.Test.YtbngjhppngohaaaSameC
import Derived.Lib.AppendStr
namespace Go.Proofs.Ytbngjhppngohaaa
open Go.RowKit
set_option linter.unusedVariables false
set_option linter.unusedSimpArgs false

set_option maxHeartbeats 1000000 in
set_option maxRecDepth 100000 in
theorem l07Add_any (v : Value) (ys k : List Int) (hk : K32 k) (w w0 : World) (h : Own tByte 5 w w0.heap.size v ys) (hx : Ext w0 w) (hl : ys.length ≤ 70368744177664) :
    Calls Try.prog 95 #[v, .agg (numsA .u8 k)] w fun e w' => ∃ v', e = .returned v' ∧ Own tByte 5 w' w0.heap.size v' (ys ++ k) ∧ Ext w0 w' := by
  obtain ⟨B, bn, bc, rfl⟩ := h.shape3
  have HK := Lib.hid hk.1
  have HKb := Lib.hid hk.2
  have HO := Lib.hid (h.alloc (.cells (numsA .u8 k) 28))
  have HX := Lib.hid (hx.alloc (.cells (numsA .u8 k) 28))
  have HB := Lib.hid (Blk.new w 28 (numsA .u8 k))
  have hne : Hid (∀ q, Value.ownBlock (.slice B bn bc) = some q → q < w.heap.size) := Lib.hid (fun q hq => (h.base_le q hq).2)
  clear h hx hk
  go_enter Try.func95, Try.ntmps95
  go_wp2_with fail
  go_loopw [0, 5] (fun o i wr => ∃ j : Nat, j ≤ 32 ∧ i = .int .i64 j ∧ Own tByte 5 wr w0.heap.size o (ys ++ k.take j) ∧ (∃ q, o.ownBlock = q ∧ q ≠ some w.heap.size) ∧ Blk wr w.heap.size 28 (numsA .u8 k) ∧ Ext w0 wr) (fun _ i _ => 32 - (intOf i).toNat)
  case atStart => exact ⟨0, by omega, rfl, by rw [List.take_zero, List.append_nil]; exact HO.out, ⟨_, rfl, fun e => by have := hne.out _ e; omega⟩, HB.out, HX.out⟩
  case round =>
    clear HO HX HB hne
    obtain ⟨j, hj, rfl, ho, ⟨q, hq, hqn⟩, hb, hx⟩ := hrel
    have HO := Lib.hid ho
    have HX := Lib.hid hx
    have HB := Lib.hid hb
    obtain ⟨C, cn, cc, rfl⟩ := ho.shape3
    have HQ := Lib.hid hq
    have HQN := Lib.hid hqn
    clear ho hx hb hq hqn
    by_cases hlt : j < 32
    · have hd := HB.out.num j (by rw [HK.out]; exact hlt)
      have hu := HKb.out.get j
      have HS2 := Lib.hid (take_snoc k j (by rw [HK.out]; exact hlt))
      go_wp2_with (at_builtin; refine wpl_append rowByte rfl _ _ rfl (v := .slice C cn cc) rfl (HO.out.alloc _) _ _ rfl (A := some ⟨wr.heap.size, 0, none⟩) (ys := [gI k j]) rfl (rd_byte wr (gI k j) hu _) (okOne hu) (by simp; omega) (HX.out.alloc _).size ?_; intro v9 w9 ho1 hg1 hat1; have HX9 := Lib.hid ((HO.out.alloc _).ext_app (HX.out.alloc _) hg1); have HO9 := Lib.hid ho1; have HB9 := Lib.hid ((HB.out.alloc _).grown hg1 (by rw [HQ.out]; exact fun e => HQN.out e.symm)); have HAT9 := Lib.hid hat1; clear ho1 hg1 hat1)
      go_roundw
      case rel =>
        refine ⟨j + 1, by omega, by go_num, by rw [HS2.out, ← List.append_assoc]; exact HO9.out, ⟨_, rfl, fun e => ?_⟩, HB9.out, HX9.out⟩
        have hlt2 := HB.out.lt
        rcases HAT9.out with h | h
        · rw [h, HQ.out] at e; exact HQN.out e
        · rw [h] at e; simp at e; omega
      case measure => simp [intOf]; omega
    · obtain rfl : j = 32 := by omega
      have e : k.take 32 = k := List.take_of_length_le (by rw [HK.out]; exact Nat.le_refl _)
      rw [e] at HO
      clear e
      go_wp2_with fail
      go_ret
      exact ⟨_, rfl, HO.out, HX.out⟩
theorem ownOne {w W : World} (hx : Ext w W) {n : Int} (hu : 0 ≤ n ∧ n ≤ 255) : Own tByte 5 (W.alloc (.cells #[.int .u8 n] 5)) w.heap.size (.slice (some ⟨W.heap.size, 0, none⟩) 1 1) [n] :=
  Own.of_blk tByte (xs := [n]) (by simpa [tByte] using Blk.new W 5 #[.int .u8 n]) hx.size (by simp) (okOne hu)
/-- the bytes of a text, in new memory: one step of a region; where they lie -/
theorem stp_conv2 {P : Program} {ops : Array Oper} {o : Oper} {a : Act} {w : World} {K : Act → World → Prop} {Q : Exit → Act → World → Prop} {E : Prop} {src dst e : TypeId} {s : ByteArray}
    (hs : P.underlying src = some .string) (hd : P.underlying dst = some (.slice e)) (he : P.underlying e = some (.int .u8)) (hgd : o.guard = none) (x : Operand) (ho : o.op = .convert src dst x) (hx : a.eval x = .string s) (hl : s.size ≤ 140737488351232)
    (h : ∀ A c w', RdL tByte w' (fun g => w.heap.size ≤ g ∧ g < w'.heap.size) (.slice A s.size c) (strL s) → Ext w w' → K (a.put o.dst (.slice A s.size c)) w') : if Region.wanted o (yielded ops a.tmps) = true then Oper.wp P o a w K Q else E := by
  have hw : Region.wanted o (yielded ops a.tmps) = true := by simp [Region.wanted, hgd]
  rw [if_pos hw]
  unfold Oper.wp execOp
  simp only [ho, hx, Sem.run_bind, Sem.run_pure, Result.andThen_ok, Lib.run_convert_string_bytes w src dst e s hs hd he]
  exact h _ _ _ (bytesWorld_rd w e s hl) (bytesWorld_ext w e s)
/-- an append elsewhere leaves it -/
theorem appOver {w w' : World} {p m : Nat} {u v : Value} {xs : List Int} (hr : RdL tByte w (fun g => p ≤ g ∧ g < m) v xs) (hne : ∀ q, u.ownBlock = some q → q < p) (hm : m ≤ w.heap.size) (hg : w.grownBy w' u.ownBlock) : RdL tByte w' (fun g => p ≤ g ∧ g < m) v xs :=
  hr.keep fun g h => hg.block g (by omega) fun e => by have := hne g e.symm; omega
/-- a byte in a block of its own -/
theorem byteStep (w : World) {n : Int} (hu : 0 ≤ n ∧ n ≤ 255) : ∃ W, W = w.alloc (.cells #[.int .u8 n] 5) ∧ Ext w W ∧ Hid (RdL tByte W (fun _ => True) (.slice (some ⟨w.heap.size, 0, none⟩) 1 1) [n]) :=
  ⟨_, rfl, ext_alloc _ _, Lib.hid (rdl_one hu ((Blk.new _ _ _).at_ 0 rfl) 1 (Nat.le_refl _))⟩
/-- the bytes of a commit -/
@[irreducible] def dataL (x : Cm) : List Int := [(x.par.length : Int) + 1] ++ x.root ++ x.par.flatten ++ [x.num] ++ strL x.note
theorem dataL_eq (x : Cm) : dataL x = [(x.par.length : Int) + 1] ++ x.root ++ x.par.flatten ++ [x.num] ++ strL x.note := by rw [dataL]
theorem okCm_le {x : Cm} (h : okCm x = true) : x.par.length ≤ 3 ∧ 0 ≤ x.num ∧ x.num ≤ 40 ∧ x.note.size ≤ 64 := by
  rw [okCm_eq] at h
  simp only [Bool.and_eq_true, decide_eq_true_eq] at h
  omega
theorem flat32 (L : List (List Int)) (h : ∀ k ∈ L, K32 k) : L.flatten.length = 32 * L.length := by
  induction L with
  | nil => rfl
  | cons k r ih =>
    rw [List.flatten_cons, List.length_append, (h k (by simp)).1, ih (fun q hq => h q (by simp [hq])), List.length_cons]; omega
set_option maxHeartbeats 1000000 in
set_option maxRecDepth 100000 in
theorem l07Data_any (cs : Array Value) (x : Cm) (hok : okCm x = true) (w : World) (S : Nat → Prop) (h : RCommit w S cs x) (b : Nat) (hb : Blk w b 31 cs) :
    Calls Try.prog 68 #[.pointer (some ⟨b, 0, none⟩)] w fun e w' => ∃ v', e = .returned v' ∧ Own tByte 5 w' w.heap.size v' (dataL x) ∧ Ext w w' := by
  obtain ⟨v, rfl, hr, hroot, hnum, hnote⟩ := h
  obtain ⟨A, cap, rfl, hcap, hlen, hrd, hokp⟩ := id hr
  obtain ⟨hp3, hn0, hn40, hnt⟩ := okCm_le hok
  have H := Lib.hid hr
  have HR := Lib.hid hroot
  have HL := Lib.hid (sizeN (k := .u8) hroot.1)
  have HB := Lib.hid hb
  have HAT := Lib.hid (Cm.at_ hroot (.slice A x.par.length cap))
  have Hrd := Lib.hid hrd
  have Hokp := Lib.hid hokp
  have HD := Lib.hid (dataL_eq x)
  have c0 : ∀ W, Ext w W → W.cell? ⟨b, 32, none⟩ = some (.slice A x.par.length cap) := fun W hW => (HB.out.ext hW).at_ 32 HAT.out.1
  have c1 : ∀ W, Ext w W → W.cell? ⟨b, 33, none⟩ = some (.int .i64 x.num) := fun W hW => (HB.out.ext hW).at_ 33 HAT.out.2.1
  have c2 : ∀ W, Ext w W → W.cell? ⟨b, 34, none⟩ = some (.string x.note) := fun W hW => (HB.out.ext hW).at_ 34 HAT.out.2.2
  have hu : (0 : Int) ≤ (x.par.length : Int) + 1 ∧ (x.par.length : Int) + 1 ≤ 255 := by omega
  have hu2 : (0 : Int) ≤ x.num ∧ x.num ≤ 255 := by omega
  have W1 : IntKind.u8.wrap ((x.par.length : Int) + 1) = (x.par.length : Int) + 1 := by rw [IntKind.wrap_u8]; omega
  have W3 : IntKind.i64.wrap ((x.par.length : Int) + 1) = (x.par.length : Int) + 1 := IntWalk.i64_in _ (by omega)
  have W2 : IntKind.u8.wrap x.num = x.num := by rw [IntKind.wrap_u8]; omega
  clear hr hrd hokp hroot hb hok
  go_enter Try.func68, Try.ntmps68
  go_wp2_with fail
  refine wp_region_held_drew (S := fun W => Ext w W) (by kernel_rfl) (Ext.refl _).drew (fun hHeld => ?_)
  generalize hw0 : World.drew w = w0 at hHeld ⊢
  clear hw0
  refine wpAnyH_take (i := 0) (oi := ?oiz21) (v := ?vz21) ?hiz21 (by kernel_rfl) (by kernel_rfl) (by kernel_rfl) ?hQz21 ?hyz21 (by assumption) ?restz21
  case hiz21 => simp only [List.getElem?_toArray, List.getElem?_cons_zero, List.getElem?_cons_succ]; rfl
  case hQz21 => exact fun _ _ _ h => h
  case hyz21 => exact Or.inl ⟨by rfl, by intro w hSw; (try dsimp only at hSw); go_simp; with_reducible rfl⟩
  try simp only [Act.put, List.setIfInBounds_toArray, List.set_cons_zero, List.set_cons_succ]
  refine wpAnyH_take (i := 1) (oi := ?oiz22) (v := ?vz22) ?hiz22 (by kernel_rfl) (by kernel_rfl) (by kernel_rfl) ?hQz22 ?hyz22 (by assumption) ?restz22
  case hiz22 => simp only [List.getElem?_toArray, List.getElem?_cons_zero, List.getElem?_cons_succ]; rfl
  case hQz22 => exact fun _ _ _ h => h
  case hyz22 => exact Or.inl ⟨by rfl, by intro w hSw; (try dsimp only at hSw); go_simp; with_reducible rfl⟩
  try simp only [Act.put, List.setIfInBounds_toArray, List.set_cons_zero, List.set_cons_succ]
  refine wpAnyH_take (i := 2) (oi := ?oiz23) (v := ?vz23) ?hiz23 (by kernel_rfl) (by kernel_rfl) (by kernel_rfl) ?hQz23 ?hyz23 (by assumption) ?restz23
  case hiz23 => simp only [List.getElem?_toArray, List.getElem?_cons_zero, List.getElem?_cons_succ]; rfl
  case hQz23 => exact fun _ _ _ h => h
  case hyz23 => exact Or.inl ⟨by rfl, by intro w hSw; (try dsimp only at hSw); go_simp; with_reducible rfl⟩
  try simp only [Act.put, List.setIfInBounds_toArray, List.set_cons_zero, List.set_cons_succ]
  refine wpAnyH_take (i := 3) (oi := ?oiz24) (v := ?vz24) ?hiz24 (by kernel_rfl) (by kernel_rfl) (by kernel_rfl) ?hQz24 ?hyz24 (by assumption) ?restz24
  case hiz24 => simp only [List.getElem?_toArray, List.getElem?_cons_zero, List.getElem?_cons_succ]; rfl
  case hQz24 => exact fun _ _ _ h => h
  case hyz24 => exact Or.inl ⟨by rfl, by intro w hSw; (try dsimp only at hSw); go_simp; with_reducible rfl⟩
  try simp only [Act.put, List.setIfInBounds_toArray, List.set_cons_zero, List.set_cons_succ]
  refine wpAnyH_take (i := 4) (oi := ?oiz25) (v := ?vz25) ?hiz25 (by kernel_rfl) (by kernel_rfl) (by kernel_rfl) ?hQz25 ?hyz25 (by assumption) ?restz25
  case hiz25 => simp only [List.getElem?_toArray, List.getElem?_cons_zero, List.getElem?_cons_succ]; rfl
  case hQz25 => exact fun _ _ _ h => h
  case hyz25 => exact Or.inl ⟨by rfl, by intro w hSw; (try dsimp only at hSw); go_simp; with_reducible rfl⟩
  try simp only [Act.put, List.setIfInBounds_toArray, List.set_cons_zero, List.set_cons_succ]
  refine wpAnyH_take (i := 5) (oi := ?oiz26) (v := ?vz26) ?hiz26 (by kernel_rfl) (by kernel_rfl) (by kernel_rfl) ?hQz26 ?hyz26 (by assumption) ?restz26
  case hiz26 => simp only [List.getElem?_toArray, List.getElem?_cons_zero, List.getElem?_cons_succ]; rfl
  case hQz26 => exact fun _ _ _ h => h
  case hyz26 => exact Or.inl ⟨by rfl, by intro w hSw; (try dsimp only at hSw); go_simp; with_reducible rfl⟩
  try simp only [Act.put, List.setIfInBounds_toArray, List.set_cons_zero, List.set_cons_succ]
  refine wpAnyH_take (i := 6) (oi := ?oiz27) (v := ?vz27) ?hiz27 (by kernel_rfl) (by kernel_rfl) (by kernel_rfl) ?hQz27 ?hyz27 (by assumption) ?restz27
  case hiz27 => simp only [List.getElem?_toArray, List.getElem?_cons_zero, List.getElem?_cons_succ]; rfl
  case hQz27 => exact fun _ _ _ h => h
  case hyz27 => exact Or.inl ⟨by rfl, by intro w hSw; (try dsimp only at hSw); go_simp; with_reducible rfl⟩
  try simp only [Act.put, List.setIfInBounds_toArray, List.set_cons_zero, List.set_cons_succ]
  refine wpAnyH_take (i := 8) (oi := ?oiz28) (v := ?vz28) ?hiz28 (by kernel_rfl) (by kernel_rfl) (by kernel_rfl) ?hQz28 ?hyz28 (by assumption) ?restz28
  case hiz28 => simp only [List.getElem?_toArray, List.getElem?_cons_zero, List.getElem?_cons_succ]; rfl
  case hQz28 => exact fun _ _ _ h => h
  case hyz28 => exact Or.inl ⟨by rfl, by intro w hSw; (try dsimp only at hSw); go_simp; with_reducible rfl⟩
  try simp only [Act.put, List.setIfInBounds_toArray, List.set_cons_zero, List.set_cons_succ]
  refine wpAnyH_take (i := 9) (oi := ?oiz29) (v := ?vz29) ?hiz29 (by kernel_rfl) (by kernel_rfl) (by kernel_rfl) ?hQz29 ?hyz29 (by assumption) ?restz29
  case hiz29 => simp only [List.getElem?_toArray, List.getElem?_cons_zero, List.getElem?_cons_succ]; rfl
  case hQz29 => exact fun _ _ _ h => h
  case hyz29 => exact Or.inl ⟨by rfl, by intro w hSw; (try dsimp only at hSw); go_simp; with_reducible rfl⟩
  try simp only [Act.put, List.setIfInBounds_toArray, List.set_cons_zero, List.set_cons_succ]
  refine wpAnyH_take (i := 10) (oi := ?oiz30) (v := ?vz30) ?hiz30 (by kernel_rfl) (by kernel_rfl) (by kernel_rfl) ?hQz30 ?hyz30 (by assumption) ?restz30
  case hiz30 => simp only [List.getElem?_toArray, List.getElem?_cons_zero, List.getElem?_cons_succ]; rfl
  case hQz30 => exact fun _ _ _ h => h
  case hyz30 => exact Or.inl ⟨by rfl, by intro w hSw; (try dsimp only at hSw); go_simp; with_reducible rfl⟩
  try simp only [Act.put, List.setIfInBounds_toArray, List.set_cons_zero, List.set_cons_succ]
  refine wpAnyH_take (i := 11) (oi := ?oiz31) (v := (.agg (numsA .u8 x.root))) ?hiz31 (by kernel_rfl) (by kernel_rfl) (by kernel_rfl) ?hQz31 ?hyz31 (by assumption) ?restz31
  case hiz31 => simp only [List.getElem?_toArray, List.getElem?_cons_zero, List.getElem?_cons_succ]; rfl
  case hQz31 => exact fun _ _ _ h => h
  case hyz31 => refine yields_loadP HB.out aggKey HL.out (Cm.root_at _) ?_ _ rfl rfl; rfl
  try simp only [Act.put, List.setIfInBounds_toArray, List.set_cons_zero, List.set_cons_succ]
  refine wpAnyH_ready (rs := [7]) (by kernel_rfl) (by simp) (AllReadyH.cons (o := ?oy327) ?hy327 (fun K hK => ?sy327) AllReadyH.nil)
  case hy327 => simp only [List.getElem?_toArray, List.getElem?_cons_zero, List.getElem?_cons_succ]; rfl
  go_simp
  have HO7 := Lib.hid (ownOne hHeld hu)
  have hH2 := hHeld.alloc (.cells #[.int .u8 ((x.par.length : Int) + 1)] 5)
  refine hK.out _ _ hH2 (fun _ => ?_)
  clear hHeld hK K
  have hHeld := hH2
  clear hH2
  try simp only [Act.put, List.setIfInBounds_toArray, List.set_cons_zero, List.set_cons_succ]
  refine wpAnyH_ready (rs := [12]) (by kernel_rfl) (by simp) (AllReadyH.cons (o := ?oy3312) ?hy3312 (fun K hK => ?sy3312) AllReadyH.nil)
  case hy3312 => simp only [List.getElem?_toArray, List.getElem?_cons_zero, List.getElem?_cons_succ]; rfl
  go_simp
  refine (l07Add_any _ _ x.root HR.out _ w HO7.out hHeld (by simp)).mono ?_
  rintro e w1 ⟨v1, rfl, ho, hx⟩
  obtain ⟨B1, bn, bc, rfl⟩ := ho.shape3
  have HO1 := Lib.hid ho
  clear ho
  have hH2 := hx
  refine hK.out _ _ hH2 (fun _ => ?_)
  clear hHeld hK K
  have hHeld := hH2
  clear hH2
  try simp only [Act.put, List.setIfInBounds_toArray, List.set_cons_zero, List.set_cons_succ]
  clear hx
  refine wpAnyH_take (i := 13) (oi := ?oiz34) (v := ?vz34) ?hiz34 (by kernel_rfl) (by kernel_rfl) (by kernel_rfl) ?hQz34 ?hyz34 (by assumption) ?restz34
  case hiz34 => simp only [List.getElem?_toArray, List.getElem?_cons_zero, List.getElem?_cons_succ]; rfl
  case hQz34 => exact fun _ _ _ h => h
  case hyz34 => exact Or.inl ⟨by rfl, by intro w hSw; (try dsimp only at hSw); go_simp; with_reducible rfl⟩
  try simp only [Act.put, List.setIfInBounds_toArray, List.set_cons_zero, List.set_cons_succ]
  refine wpAnyH_done (by kernel_rfl) ?_ _
  have HL1 := Lib.hid (flat32 x.par (fun k hk => Hokp.out k hk))
  have XW := Lib.hid hHeld
  clear hHeld
  go_wp2_with fail
  go_loopw [3, 4] (fun o i wr => ∃ k : Nat, k ≤ x.par.length ∧ i = .int .i64 k ∧ Own tByte 5 wr w.heap.size o ([(x.par.length : Int) + 1] ++ x.root ++ (x.par.take k).flatten) ∧ Ext w wr) (fun _ i _ => x.par.length - (intOf i).toNat)
  case atStart => exact ⟨0, by omega, rfl, by rw [List.take_zero, List.flatten_nil, List.append_nil]; exact HO1.out, XW.out⟩
  case round =>
    clear HO1 XW
    obtain ⟨k, hk, rfl, ho, hx⟩ := hrel
    have HO := Lib.hid ho
    have HX := Lib.hid hx
    obtain ⟨C, cn, cc, rfl⟩ := ho.shape3
    have d0 := c0 _ hx
    clear ho hx
    by_cases hlt : k < x.par.length
    · obtain ⟨g, o, rfl, hs, hc⟩ := Hrd.out.elem Hokp.out k hlt
      have HX0 := Lib.hid (show K32 x.par[k] from Hokp.out _ (List.getElem_mem hlt))
      have HD0 := Lib.hid (show ∀ j u, (tKey.enc x.par[k])[j]? = some u → wr.cell? ⟨g, o + k * 32 + j, none⟩ = some u from fun j u hu => HX.out.cell (hc j u hu))
      have HTL := Lib.hid (flat32 (x.par.take k) (fun q hq => Hokp.out q (List.mem_of_mem_take hq)))
      have HSN := Lib.hid (show (x.par.take (k + 1)).flatten = (x.par.take k).flatten ++ x.par[k] by rw [List.take_succ_eq_append_getElem hlt, List.flatten_append]; simp)
      clear hc c0 c1 c2
      have hi : (0 : Int) ≤ (k : Int) := by omega
      have hi2 : (k : Int) < (x.par.length : Int) := by omega
      go_wp2_with (refine wpl_load ⟨g, o + k * 32, none⟩ (tKey.enc x.par[k]) (by rw [tKey.len _ HX0.out]; exact aggKey) rfl _ rfl rfl (fun j u hu => by rw [Addr.add_lit]; exact HD0.out j u hu) ?_)
      refine (l07Add_any _ _ x.par[k] HX0.out _ w HO.out HX.out (by simp only [List.length_append, HTL.out, HR.out.1, List.length_take]; simp; omega)).mono ?_
      rintro e w1 ⟨v1, rfl, ho, hx⟩
      have HO2 := Lib.hid ho
      have HX2 := Lib.hid hx
      obtain ⟨D, dn, dc, rfl⟩ := ho.shape3
      clear ho hx
      go_wp2_with fail
      go_roundw
      case rel => exact ⟨k + 1, by omega, by go_num, by rw [HSN.out, ← List.append_assoc]; exact HO2.out, HX2.out⟩
      case measure => simp [intOf]; omega
    · obtain rfl : k = x.par.length := by omega
      rw [List.take_length] at HO
      have HLN := Lib.hid (show ([(x.par.length : Int) + 1] ++ x.root ++ x.par.flatten).length = 33 + 32 * x.par.length by simp only [List.length_append, HL1.out, HR.out.1, List.length_cons, List.length_nil] <;> omega)
      have HLS := Lib.hid (strL_length x.note)

      go_wp2_with fail
      refine wp_region_held_drew (S := fun W => Ext w W) (by kernel_rfl) HX.out.drew (fun hHeld => ?_)
      generalize hw0 : World.drew wr = w0 at hHeld ⊢
      have HO := Lib.hid (show Own tByte 5 w0 w.heap.size (.slice C cn cc) _ by rw [← hw0]; exact HO.out.drew)
      clear hw0
      refine wpAnyH_take (i := 0) (oi := ?oiz35) (v := ?vz35) ?hiz35 (by kernel_rfl) (by kernel_rfl) (by kernel_rfl) ?hQz35 ?hyz35 (by assumption) ?restz35
      case hiz35 => simp only [List.getElem?_toArray, List.getElem?_cons_zero, List.getElem?_cons_succ]; rfl
      case hQz35 => exact fun _ _ _ h => h
      case hyz35 => exact Or.inl ⟨by rfl, by intro w hSw; (try dsimp only at hSw); go_simp; with_reducible rfl⟩
      try simp only [Act.put, List.setIfInBounds_toArray, List.set_cons_zero, List.set_cons_succ]
      refine wpAnyH_take (i := 1) (oi := ?oiz36) (v := ?vz36) ?hiz36 (by kernel_rfl) (by kernel_rfl) (by kernel_rfl) ?hQz36 ?hyz36 (by assumption) ?restz36
      case hiz36 => simp only [List.getElem?_toArray, List.getElem?_cons_zero, List.getElem?_cons_succ]; rfl
      case hQz36 => exact fun _ _ _ h => h
      case hyz36 => exact Or.inl ⟨by rfl, by intro w hSw; (try dsimp only at hSw); go_simp; with_reducible rfl⟩
      try simp only [Act.put, List.setIfInBounds_toArray, List.set_cons_zero, List.set_cons_succ]
      refine wpAnyH_take (i := 2) (oi := ?oiz37) (v := ?vz37) ?hiz37 (by kernel_rfl) (by kernel_rfl) (by kernel_rfl) ?hQz37 ?hyz37 (by assumption) ?restz37
      case hiz37 => simp only [List.getElem?_toArray, List.getElem?_cons_zero, List.getElem?_cons_succ]; rfl
      case hQz37 => exact fun _ _ _ h => h
      case hyz37 => exact Or.inl ⟨by rfl, by intro w hSw; (try dsimp only at hSw); go_simp; with_reducible rfl⟩
      try simp only [Act.put, List.setIfInBounds_toArray, List.set_cons_zero, List.set_cons_succ]
      refine wpAnyH_take (i := 3) (oi := ?oiz38) (v := ?vz38) ?hiz38 (by kernel_rfl) (by kernel_rfl) (by kernel_rfl) ?hQz38 ?hyz38 (by assumption) ?restz38
      case hiz38 => simp only [List.getElem?_toArray, List.getElem?_cons_zero, List.getElem?_cons_succ]; rfl
      case hQz38 => exact fun _ _ _ h => h
      case hyz38 => exact Or.inl ⟨by rfl, by intro w hSw; (try dsimp only at hSw); go_simp; with_reducible rfl⟩
      try simp only [Act.put, List.setIfInBounds_toArray, List.set_cons_zero, List.set_cons_succ]
      refine wpAnyH_take (i := 4) (oi := ?oiz39) (v := ?vz39) ?hiz39 (by kernel_rfl) (by kernel_rfl) (by kernel_rfl) ?hQz39 ?hyz39 (by assumption) ?restz39
      case hiz39 => simp only [List.getElem?_toArray, List.getElem?_cons_zero, List.getElem?_cons_succ]; rfl
      case hQz39 => exact fun _ _ _ h => h
      case hyz39 => exact Or.inl ⟨by rfl, by intro w hSw; (try dsimp only at hSw); go_simp; with_reducible rfl⟩
      try simp only [Act.put, List.setIfInBounds_toArray, List.set_cons_zero, List.set_cons_succ]
      refine wpAnyH_take (i := 5) (oi := ?oiz40) (v := ?vz40) ?hiz40 (by kernel_rfl) (by kernel_rfl) (by kernel_rfl) ?hQz40 ?hyz40 (by assumption) ?restz40
      case hiz40 => simp only [List.getElem?_toArray, List.getElem?_cons_zero, List.getElem?_cons_succ]; rfl
      case hQz40 => exact fun _ _ _ h => h
      case hyz40 => exact Or.inl ⟨by rfl, by intro w hSw; (try dsimp only at hSw); go_simp; with_reducible rfl⟩
      try simp only [Act.put, List.setIfInBounds_toArray, List.set_cons_zero, List.set_cons_succ]
      refine wpAnyH_take (i := 8) (oi := ?oiz41) (v := ?vz41) ?hiz41 (by kernel_rfl) (by kernel_rfl) (by kernel_rfl) ?hQz41 ?hyz41 (by assumption) ?restz41
      case hiz41 => simp only [List.getElem?_toArray, List.getElem?_cons_zero, List.getElem?_cons_succ]; rfl
      case hQz41 => exact fun _ _ _ h => h
      case hyz41 => exact Or.inl ⟨by rfl, by intro w hSw; (try dsimp only at hSw); go_simp; with_reducible rfl⟩
      try simp only [Act.put, List.setIfInBounds_toArray, List.set_cons_zero, List.set_cons_succ]
      refine wpAnyH_take (i := 9) (oi := ?oiz42) (v := ?vz42) ?hiz42 (by kernel_rfl) (by kernel_rfl) (by kernel_rfl) ?hQz42 ?hyz42 (by assumption) ?restz42
      case hiz42 => simp only [List.getElem?_toArray, List.getElem?_cons_zero, List.getElem?_cons_succ]; rfl
      case hQz42 => exact fun _ _ _ h => h
      case hyz42 => exact Or.inl ⟨by rfl, by intro w hSw; (try dsimp only at hSw); go_simp; with_reducible rfl⟩
      try simp only [Act.put, List.setIfInBounds_toArray, List.set_cons_zero, List.set_cons_succ]
      refine wpAnyH_take (i := 10) (oi := ?oiz43) (v := ?vz43) ?hiz43 (by kernel_rfl) (by kernel_rfl) (by kernel_rfl) ?hQz43 ?hyz43 (by assumption) ?restz43
      case hiz43 => simp only [List.getElem?_toArray, List.getElem?_cons_zero, List.getElem?_cons_succ]; rfl
      case hQz43 => exact fun _ _ _ h => h
      case hyz43 => exact Or.inl ⟨by rfl, by intro w hSw; (try dsimp only at hSw); go_simp; with_reducible rfl⟩
      try simp only [Act.put, List.setIfInBounds_toArray, List.set_cons_zero, List.set_cons_succ]
      refine wpAnyH_take (i := 11) (oi := ?oiz44) (v := ?vz44) ?hiz44 (by kernel_rfl) (by kernel_rfl) (by kernel_rfl) ?hQz44 ?hyz44 (by assumption) ?restz44
      case hiz44 => simp only [List.getElem?_toArray, List.getElem?_cons_zero, List.getElem?_cons_succ]; rfl
      case hQz44 => exact fun _ _ _ h => h
      case hyz44 => exact Or.inl ⟨by rfl, by intro w hSw; (try dsimp only at hSw); go_simp; with_reducible rfl⟩
      try simp only [Act.put, List.setIfInBounds_toArray, List.set_cons_zero, List.set_cons_succ]
      refine wpAnyH_ready (rs := [6, 12]) (by kernel_rfl) (by simp) (AllReadyH.cons (o := ?oy456) ?hy456 (fun K hK => ?sy456) (AllReadyH.cons (o := ?oy4512) ?hy4512 (fun K hK => ?sy4512) AllReadyH.nil))
      case hy456 => simp only [List.getElem?_toArray, List.getElem?_cons_zero, List.getElem?_cons_succ]; rfl
      case hy4512 => simp only [List.getElem?_toArray, List.getElem?_cons_zero, List.getElem?_cons_succ]; rfl
      case sy456 =>
        go_simp
        obtain ⟨p1, hV, hx, HR6⟩ := byteStep w0 hu2
        rw [← hV]
        clear hV
        replace HO := Lib.hid (HO.out.ext hx)
        have hH2 := hHeld.trans hx
        refine hK.out _ _ hH2 (fun _ => ?_)
        clear hHeld hK K
        have hHeld := hH2
        clear hH2
        try simp only [Act.put, List.setIfInBounds_toArray, List.set_cons_zero, List.set_cons_succ]
        clear hx
        refine wpAnyH_ready (rs := [7, 12]) (by kernel_rfl) (by simp) (AllReadyH.cons (o := ?oy467) ?hy467 (fun K hK => ?sy467) (AllReadyH.cons (o := ?oy4612) ?hy4612 (fun K hK => ?sy4612) AllReadyH.nil))
        case hy467 => simp only [List.getElem?_toArray, List.getElem?_cons_zero, List.getElem?_cons_succ]; rfl
        case hy4612 => simp only [List.getElem?_toArray, List.getElem?_cons_zero, List.getElem?_cons_succ]; rfl
        case sy467 =>
          refine stp_append rowByte rfl (.tmp 36) (.tmp 42) rfl (v := .slice C cn cc) rfl HO.out _ _ rfl (ys := [x.num]) rfl (rd_of HR6.out).1 (rd_of HR6.out).2.1 (by rw [HLN.out]; simp; omega) hHeld.size ?_
          intro v7 p2 ho1 hg1 hat1
          obtain ⟨D, dn, dc, rfl⟩ := ho1.shape3
          have hh := HO.out.ext_app hHeld hg1
          have HO7 := Lib.hid ho1
          clear ho1 hg1 hat1 HO
          have hH2 := hh
          refine hK.out _ _ hH2 (fun _ => ?_)
          clear hHeld hK K
          have hHeld := hH2
          clear hH2
          try simp only [Act.put, List.setIfInBounds_toArray, List.set_cons_zero, List.set_cons_succ]
          clear hh
          refine wpAnyH_ready (rs := [12]) (by kernel_rfl) (by simp) (AllReadyH.cons (o := ?oy4712) ?hy4712 (fun K hK => ?sy4712) AllReadyH.nil)
          case hy4712 => simp only [List.getElem?_toArray, List.getElem?_cons_zero, List.getElem?_cons_succ]; rfl
          have hne : ∀ q, (Value.slice D dn dc).ownBlock = some q → q < _ := fun q hq => (HO7.out.base_le q hq).2
          refine stp_conv2 (s := x.note) Try.underlying9 Try.underlying42 Try.underlying5 rfl (.tmp 47) rfl rfl (by omega) ?_
          intro A12 c12 p3 hr hx
          have HR12 := Lib.hid hr
          have HNE := Lib.hid hne
          have HM := Lib.hid (Nat.le_refl p3.heap.size)
          clear hr hne
          replace HO7 := Lib.hid (HO7.out.ext hx)
          have hH2 := hHeld.trans hx
          refine hK.out _ _ hH2 (fun _ => ?_)
          clear hHeld hK K
          have hHeld := hH2
          clear hH2
          try simp only [Act.put, List.setIfInBounds_toArray, List.set_cons_zero, List.set_cons_succ]
          clear hx
          refine wpAnyH_ready (rs := [13]) (by kernel_rfl) (by simp) (AllReadyH.cons (o := ?oy4813) ?hy4813 (fun K hK => ?sy4813) AllReadyH.nil)
          case hy4813 => simp only [List.getElem?_toArray, List.getElem?_cons_zero, List.getElem?_cons_succ]; rfl
          refine stp_append rowByte rfl (.tmp 43) (.tmp 48) rfl (v := .slice D dn dc) rfl HO7.out _ _ rfl (ys := strL x.note) (rd_of HR12.out).2.2 (rd_of HR12.out).1 (rd_of HR12.out).2.1 (by rw [List.length_append, HLN.out, HLS.out]; simp; omega) hHeld.size ?_
          intro v13 p4 ho1 hg1 hat1
          have hh := HO7.out.ext_app hHeld hg1
          have HO13 := Lib.hid ho1
          clear ho1 hg1 hat1 HO7
          obtain ⟨E, en, ec, rfl⟩ := HO13.out.shape3
          have hH2 := hh
          refine hK.out _ _ hH2 (fun _ => ?_)
          clear hHeld hK K
          have hHeld := hH2
          clear hH2
          try simp only [Act.put, List.setIfInBounds_toArray, List.set_cons_zero, List.set_cons_succ]
          clear hh
          refine wpAnyH_take (i := 14) (oi := ?oiz49) (v := ?vz49) ?hiz49 (by kernel_rfl) (by kernel_rfl) (by kernel_rfl) ?hQz49 ?hyz49 (by assumption) ?restz49
          case hiz49 => simp only [List.getElem?_toArray, List.getElem?_cons_zero, List.getElem?_cons_succ]; rfl
          case hQz49 => exact fun _ _ _ h => h
          case hyz49 => exact Or.inl ⟨by rfl, by intro w hSw; (try dsimp only at hSw); go_simp; with_reducible rfl⟩
          try simp only [Act.put, List.setIfInBounds_toArray, List.set_cons_zero, List.set_cons_succ]
          refine wpAnyH_done (by kernel_rfl) ?_ _
          have XW := Lib.hid hHeld
          clear hHeld
          go_wp2_with fail
          go_ret
          exact ⟨_, rfl, by rw [HD.out]; exact HO13.out, XW.out⟩
        case sy4612 =>
          have hne : ∀ q, (Value.slice C cn cc).ownBlock = some q → q < _ := fun q hq => (HO.out.base_le q hq).2
          refine stp_conv2 (s := x.note) Try.underlying9 Try.underlying42 Try.underlying5 rfl (.tmp 47) rfl rfl (by omega) ?_
          intro A12 c12 p5 hr hx
          have HR12 := Lib.hid hr
          have HNE := Lib.hid hne
          have HM := Lib.hid (Nat.le_refl p5.heap.size)
          clear hr hne
          replace HR6 := Lib.hid (HR6.out.ext (by decide) hx)
          replace HO := Lib.hid (HO.out.ext hx)
          have hH2 := hHeld.trans hx
          refine hK.out _ _ hH2 (fun _ => ?_)
          clear hHeld hK K
          have hHeld := hH2
          clear hH2
          try simp only [Act.put, List.setIfInBounds_toArray, List.set_cons_zero, List.set_cons_succ]
          clear hx
          refine wpAnyH_ready (rs := [7]) (by kernel_rfl) (by simp) (AllReadyH.cons (o := ?oy507) ?hy507 (fun K hK => ?sy507) AllReadyH.nil)
          case hy507 => simp only [List.getElem?_toArray, List.getElem?_cons_zero, List.getElem?_cons_succ]; rfl
          refine stp_append rowByte rfl (.tmp 36) (.tmp 42) rfl (v := .slice C cn cc) rfl HO.out _ _ rfl (ys := [x.num]) rfl (rd_of HR6.out).1 (rd_of HR6.out).2.1 (by rw [HLN.out]; simp; omega) hHeld.size ?_
          intro v7 p6 ho1 hg1 hat1
          obtain ⟨D, dn, dc, rfl⟩ := ho1.shape3
          have hh := HO.out.ext_app hHeld hg1
          replace HR12 := Lib.hid (appOver HR12.out HNE.out HM.out hg1)
          have HO7 := Lib.hid ho1
          clear ho1 hg1 hat1 HO
          have hH2 := hh
          refine hK.out _ _ hH2 (fun _ => ?_)
          clear hHeld hK K
          have hHeld := hH2
          clear hH2
          try simp only [Act.put, List.setIfInBounds_toArray, List.set_cons_zero, List.set_cons_succ]
          clear hh
          refine wpAnyH_ready (rs := [13]) (by kernel_rfl) (by simp) (AllReadyH.cons (o := ?oy5113) ?hy5113 (fun K hK => ?sy5113) AllReadyH.nil)
          case hy5113 => simp only [List.getElem?_toArray, List.getElem?_cons_zero, List.getElem?_cons_succ]; rfl
          refine stp_append rowByte rfl (.tmp 43) (.tmp 48) rfl (v := .slice D dn dc) rfl HO7.out _ _ rfl (ys := strL x.note) (rd_of HR12.out).2.2 (rd_of HR12.out).1 (rd_of HR12.out).2.1 (by rw [List.length_append, HLN.out, HLS.out]; simp; omega) hHeld.size ?_
          intro v13 p7 ho1 hg1 hat1
          have hh := HO7.out.ext_app hHeld hg1
          have HO13 := Lib.hid ho1
          clear ho1 hg1 hat1 HO7
          obtain ⟨E, en, ec, rfl⟩ := HO13.out.shape3
          have hH2 := hh
          refine hK.out _ _ hH2 (fun _ => ?_)
          clear hHeld hK K
          have hHeld := hH2
          clear hH2
          try simp only [Act.put, List.setIfInBounds_toArray, List.set_cons_zero, List.set_cons_succ]
          clear hh
          refine wpAnyH_take (i := 14) (oi := ?oiz52) (v := ?vz52) ?hiz52 (by kernel_rfl) (by kernel_rfl) (by kernel_rfl) ?hQz52 ?hyz52 (by assumption) ?restz52
          case hiz52 => simp only [List.getElem?_toArray, List.getElem?_cons_zero, List.getElem?_cons_succ]; rfl
          case hQz52 => exact fun _ _ _ h => h
          case hyz52 => exact Or.inl ⟨by rfl, by intro w hSw; (try dsimp only at hSw); go_simp; with_reducible rfl⟩
          try simp only [Act.put, List.setIfInBounds_toArray, List.set_cons_zero, List.set_cons_succ]
          refine wpAnyH_done (by kernel_rfl) ?_ _
          have XW := Lib.hid hHeld
          clear hHeld
          go_wp2_with fail
          go_ret
          exact ⟨_, rfl, by rw [HD.out]; exact HO13.out, XW.out⟩
      case sy4512 =>
        have hne : ∀ q, (Value.slice C cn cc).ownBlock = some q → q < _ := fun q hq => (HO.out.base_le q hq).2
        refine stp_conv2 (s := x.note) Try.underlying9 Try.underlying42 Try.underlying5 rfl (.tmp 47) rfl rfl (by omega) ?_
        intro A12 c12 p8 hr hx
        have HR12 := Lib.hid hr
        have HNE := Lib.hid hne
        have HM := Lib.hid (Nat.le_refl p8.heap.size)
        clear hr hne
        replace HO := Lib.hid (HO.out.ext hx)
        have hH2 := hHeld.trans hx
        refine hK.out _ _ hH2 (fun _ => ?_)
        clear hHeld hK K
        have hHeld := hH2
        clear hH2
        try simp only [Act.put, List.setIfInBounds_toArray, List.set_cons_zero, List.set_cons_succ]
        clear hx
        refine wpAnyH_ready (rs := [6]) (by kernel_rfl) (by simp) (AllReadyH.cons (o := ?oy536) ?hy536 (fun K hK => ?sy536) AllReadyH.nil)
        case hy536 => simp only [List.getElem?_toArray, List.getElem?_cons_zero, List.getElem?_cons_succ]; rfl
        go_simp
        obtain ⟨p9, hV, hx, HR6⟩ := byteStep p8 hu2
        rw [← hV]
        clear hV
        replace HR12 := Lib.hid (HR12.out.ext (by decide) hx)
        replace HM := Lib.hid (Nat.le_trans HM.out hx.size)
        replace HO := Lib.hid (HO.out.ext hx)
        have hH2 := hHeld.trans hx
        refine hK.out _ _ hH2 (fun _ => ?_)
        clear hHeld hK K
        have hHeld := hH2
        clear hH2
        try simp only [Act.put, List.setIfInBounds_toArray, List.set_cons_zero, List.set_cons_succ]
        clear hx
        refine wpAnyH_ready (rs := [7]) (by kernel_rfl) (by simp) (AllReadyH.cons (o := ?oy547) ?hy547 (fun K hK => ?sy547) AllReadyH.nil)
        case hy547 => simp only [List.getElem?_toArray, List.getElem?_cons_zero, List.getElem?_cons_succ]; rfl
        refine stp_append rowByte rfl (.tmp 36) (.tmp 42) rfl (v := .slice C cn cc) rfl HO.out _ _ rfl (ys := [x.num]) rfl (rd_of HR6.out).1 (rd_of HR6.out).2.1 (by rw [HLN.out]; simp; omega) hHeld.size ?_
        intro v7 p10 ho1 hg1 hat1
        obtain ⟨D, dn, dc, rfl⟩ := ho1.shape3
        have hh := HO.out.ext_app hHeld hg1
        replace HR12 := Lib.hid (appOver HR12.out HNE.out HM.out hg1)
        have HO7 := Lib.hid ho1
        clear ho1 hg1 hat1 HO
        have hH2 := hh
        refine hK.out _ _ hH2 (fun _ => ?_)
        clear hHeld hK K
        have hHeld := hH2
        clear hH2
        try simp only [Act.put, List.setIfInBounds_toArray, List.set_cons_zero, List.set_cons_succ]
        clear hh
        refine wpAnyH_ready (rs := [13]) (by kernel_rfl) (by simp) (AllReadyH.cons (o := ?oy5513) ?hy5513 (fun K hK => ?sy5513) AllReadyH.nil)
        case hy5513 => simp only [List.getElem?_toArray, List.getElem?_cons_zero, List.getElem?_cons_succ]; rfl
        refine stp_append rowByte rfl (.tmp 43) (.tmp 48) rfl (v := .slice D dn dc) rfl HO7.out _ _ rfl (ys := strL x.note) (rd_of HR12.out).2.2 (rd_of HR12.out).1 (rd_of HR12.out).2.1 (by rw [List.length_append, HLN.out, HLS.out]; simp; omega) hHeld.size ?_
        intro v13 p11 ho1 hg1 hat1
        have hh := HO7.out.ext_app hHeld hg1
        have HO13 := Lib.hid ho1
        clear ho1 hg1 hat1 HO7
        obtain ⟨E, en, ec, rfl⟩ := HO13.out.shape3
        have hH2 := hh
        refine hK.out _ _ hH2 (fun _ => ?_)
        clear hHeld hK K
        have hHeld := hH2
        clear hH2
        try simp only [Act.put, List.setIfInBounds_toArray, List.set_cons_zero, List.set_cons_succ]
        clear hh
        refine wpAnyH_take (i := 14) (oi := ?oiz56) (v := ?vz56) ?hiz56 (by kernel_rfl) (by kernel_rfl) (by kernel_rfl) ?hQz56 ?hyz56 (by assumption) ?restz56
        case hiz56 => simp only [List.getElem?_toArray, List.getElem?_cons_zero, List.getElem?_cons_succ]; rfl
        case hQz56 => exact fun _ _ _ h => h
        case hyz56 => exact Or.inl ⟨by rfl, by intro w hSw; (try dsimp only at hSw); go_simp; with_reducible rfl⟩
        try simp only [Act.put, List.setIfInBounds_toArray, List.set_cons_zero, List.set_cons_succ]
        refine wpAnyH_done (by kernel_rfl) ?_ _
        have XW := Lib.hid hHeld
        clear hHeld
        go_wp2_with fail
        go_ret
        exact ⟨_, rfl, by rw [HD.out]; exact HO13.out, XW.out⟩

/-- a text is appended to a row of one's own bytes: one step of a region -/
theorem stp_appendS {ops : Array Oper} {o : Oper} {a : Act} {w : World} {K : Act → World → Prop} {Q : Exit → Act → World → Prop} {E : Prop} (hgd : o.guard = none) (sl x : Operand)
    (hop : o.op = .call { callee := .builtin .append, args := #[sl, x], argTypes := #[42, 9] })
    {base : Nat} {v : Value} {xs : List Int} (hs : a.eval sl = v) (ho : Own tByte 5 w base v xs) {s : ByteArray} (hx : a.eval x = .string s) (hl : xs.length + s.size ≤ 70368744177664) (hb : base ≤ w.heap.size)
    (h : ∀ v' w', Own tByte 5 w' base v' (xs ++ strL s) → w.grownBy w' v.ownBlock → K (a.put o.dst v') w') :
    if Region.wanted o (yielded ops a.tmps) = true then Oper.wp Try.prog o a w K Q else E := by
  obtain ⟨i, hi, hz, hsz, hby⟩ := info_parts (show (Try.prog.info? 5).map (fun i => (i.zero, i.size, i.bytes)) = some (some (.int .u8 0), 1, 1) by kernel_rfl)
  obtain ⟨h1, h2, h3⟩ := ho
  rw [flat_bytes] at h1
  obtain ⟨v', w', hrun, hown, hg, _⟩ := Lib.run_append_own_string (P := Try.prog) w base 42 9 o.type 5 i Try.underlying42 Try.underlying9 hi hz hsz hby v xs.length (nums .u8 xs) h1 s (by simp only [maxLen]; omega) (by omega) hb
  have hw : Region.wanted o (yielded ops a.tmps) = true := by simp [Region.wanted, hgd]
  rw [if_pos hw]
  unfold Oper.wp execOp
  simp only [hop, resolve, invoke, builtin, Sem.run_bind, Sem.run_pure, Result.andThen_ok, List.map_toArray, List.map_cons, List.map_nil, hs, hx, hrun]
  refine h v' w' ⟨?_, by rw [List.length_append, strL_length]; omega, fun y hy => ?_⟩ hg
  · rw [flat_bytes, nums_append, List.length_append, strL_length]
    have e : Lib.strCells s = nums .u8 (strL s) := by simp [Lib.strCells, nums, strL]
    rw [← e]
    exact hown
  · rcases List.mem_append.1 hy with hy | hy
    · exact h3 y hy
    · exact strL_ok s y hy
set_option maxHeartbeats 1000000 in
set_option maxRecDepth 100000 in
theorem commitData_any (cs : Array Value) (x : Cm) (hok : okCm x = true) (w : World) (S : Nat → Prop) (h : RCommit w S cs x) :
    Calls Try.prog 69 #[.agg cs] w fun e w' => ∃ v', e = .returned v' ∧ Own tByte 5 w' w.heap.size v' (dataL x) ∧ Ext w w' := by
  obtain ⟨v, rfl, hr, hroot, hnum, hnote⟩ := h
  obtain ⟨A, cap, rfl, hcap, hlen, hrd, hokp⟩ := id hr
  obtain ⟨hp3, hn0, hn40, hnt⟩ := okCm_le hok
  have HR := Lib.hid hroot
  have HAT := Lib.hid (Cm.at_ hroot (.slice A x.par.length cap))
  have Hrd := Lib.hid hrd
  have Hokp := Lib.hid hokp
  have HD := Lib.hid (dataL_eq x)
  have HL1 := Lib.hid (flat32 x.par (fun k hk => hokp k hk))
  have hu : (0 : Int) ≤ (x.par.length : Int) + 1 ∧ (x.par.length : Int) + 1 ≤ 255 := by omega
  have hu2 : (0 : Int) ≤ x.num ∧ x.num ≤ 255 := by omega
  have W1 : IntKind.u8.wrap ((x.par.length : Int) + 1) = (x.par.length : Int) + 1 := by rw [IntKind.wrap_u8]; omega
  have W3 : IntKind.i64.wrap ((x.par.length : Int) + 1) = (x.par.length : Int) + 1 := IntWalk.i64_in _ (by omega)
  have W2 : IntKind.u8.wrap x.num = x.num := by rw [IntKind.wrap_u8]; omega
  have HB := Lib.hid (Blk.new w 31 (x.cells (.slice A x.par.length cap)))
  have E1 := Lib.hid (ext_alloc w (.cells (x.cells (.slice A x.par.length cap)) 31))
  clear hr hrd hokp hroot hok
  go_enter Try.func69, Try.ntmps69
  go_wp2_with fail
  generalize World.alloc w (.cells (x.cells (.slice A x.par.length cap)) 31) = w1 at HB E1 ⊢
  have c0 : ∀ W, Ext w1 W → W.cell? ⟨w.heap.size, 32, none⟩ = some (.slice A x.par.length cap) := fun W hW => (HB.out.ext hW).at_ 32 HAT.out.1
  have c1 : ∀ W, Ext w1 W → W.cell? ⟨w.heap.size, 33, none⟩ = some (.int .i64 x.num) := fun W hW => (HB.out.ext hW).at_ 33 HAT.out.2.1
  have c2 : ∀ W, Ext w1 W → W.cell? ⟨w.heap.size, 34, none⟩ = some (.string x.note) := fun W hW => (HB.out.ext hW).at_ 34 HAT.out.2.2
  have R1 := Ext.refl w1
  refine wp_region_held_drew (S := fun W => Ext w1 W) (by kernel_rfl) (Ext.refl _).drew (fun hHeld => ?_)
  generalize hw0 : World.drew w1 = w0 at hHeld ⊢
  clear hw0
  refine wpAnyH_take (i := 0) (oi := ?oiz1) (v := ?vz1) ?hiz1 (by kernel_rfl) (by kernel_rfl) (by kernel_rfl) ?hQz1 ?hyz1 (by assumption) ?restz1
  case hiz1 => simp only [List.getElem?_toArray, List.getElem?_cons_zero, List.getElem?_cons_succ]; rfl
  case hQz1 => exact fun _ _ _ h => h
  case hyz1 => exact Or.inl ⟨by rfl, by intro w hSw; (try dsimp only at hSw); go_simp; with_reducible rfl⟩
  try simp only [Act.put, List.setIfInBounds_toArray, List.set_cons_zero, List.set_cons_succ]
  refine wpAnyH_take (i := 1) (oi := ?oiz2) (v := ?vz2) ?hiz2 (by kernel_rfl) (by kernel_rfl) (by kernel_rfl) ?hQz2 ?hyz2 (by assumption) ?restz2
  case hiz2 => simp only [List.getElem?_toArray, List.getElem?_cons_zero, List.getElem?_cons_succ]; rfl
  case hQz2 => exact fun _ _ _ h => h
  case hyz2 => exact Or.inl ⟨by rfl, by intro w hSw; (try dsimp only at hSw); go_simp; with_reducible rfl⟩
  try simp only [Act.put, List.setIfInBounds_toArray, List.set_cons_zero, List.set_cons_succ]
  refine wpAnyH_take (i := 2) (oi := ?oiz3) (v := ?vz3) ?hiz3 (by kernel_rfl) (by kernel_rfl) (by kernel_rfl) ?hQz3 ?hyz3 (by assumption) ?restz3
  case hiz3 => simp only [List.getElem?_toArray, List.getElem?_cons_zero, List.getElem?_cons_succ]; rfl
  case hQz3 => exact fun _ _ _ h => h
  case hyz3 => exact Or.inl ⟨by rfl, by intro w hSw; (try dsimp only at hSw); go_simp; with_reducible rfl⟩
  try simp only [Act.put, List.setIfInBounds_toArray, List.set_cons_zero, List.set_cons_succ]
  refine wpAnyH_take (i := 3) (oi := ?oiz4) (v := ?vz4) ?hiz4 (by kernel_rfl) (by kernel_rfl) (by kernel_rfl) ?hQz4 ?hyz4 (by assumption) ?restz4
  case hiz4 => simp only [List.getElem?_toArray, List.getElem?_cons_zero, List.getElem?_cons_succ]; rfl
  case hQz4 => exact fun _ _ _ h => h
  case hyz4 => exact Or.inl ⟨by rfl, by intro w hSw; (try dsimp only at hSw); go_simp; with_reducible rfl⟩
  try simp only [Act.put, List.setIfInBounds_toArray, List.set_cons_zero, List.set_cons_succ]
  refine wpAnyH_take (i := 4) (oi := ?oiz5) (v := ?vz5) ?hiz5 (by kernel_rfl) (by kernel_rfl) (by kernel_rfl) ?hQz5 ?hyz5 (by assumption) ?restz5
  case hiz5 => simp only [List.getElem?_toArray, List.getElem?_cons_zero, List.getElem?_cons_succ]; rfl
  case hQz5 => exact fun _ _ _ h => h
  case hyz5 => exact Or.inl ⟨by rfl, by intro w hSw; (try dsimp only at hSw); go_simp; with_reducible rfl⟩
  try simp only [Act.put, List.setIfInBounds_toArray, List.set_cons_zero, List.set_cons_succ]
  refine wpAnyH_take (i := 6) (oi := ?oiz6) (v := ?vz6) ?hiz6 (by kernel_rfl) (by kernel_rfl) (by kernel_rfl) ?hQz6 ?hyz6 (by assumption) ?restz6
  case hiz6 => simp only [List.getElem?_toArray, List.getElem?_cons_zero, List.getElem?_cons_succ]; rfl
  case hQz6 => exact fun _ _ _ h => h
  case hyz6 => exact Or.inl ⟨by rfl, by intro w hSw; (try dsimp only at hSw); go_simp; with_reducible rfl⟩
  try simp only [Act.put, List.setIfInBounds_toArray, List.set_cons_zero, List.set_cons_succ]
  refine wpAnyH_take (i := 7) (oi := ?oiz7) (v := ?vz7) ?hiz7 (by kernel_rfl) (by kernel_rfl) (by kernel_rfl) ?hQz7 ?hyz7 (by assumption) ?restz7
  case hiz7 => simp only [List.getElem?_toArray, List.getElem?_cons_zero, List.getElem?_cons_succ]; rfl
  case hQz7 => exact fun _ _ _ h => h
  case hyz7 => exact Or.inl ⟨by rfl, by intro w hSw; (try dsimp only at hSw); go_simp; with_reducible rfl⟩
  try simp only [Act.put, List.setIfInBounds_toArray, List.set_cons_zero, List.set_cons_succ]
  refine wpAnyH_ready (rs := [5]) (by kernel_rfl) (by simp) (AllReadyH.cons (o := ?oy85) ?hy85 (fun K hK => ?sy85) AllReadyH.nil)
  case hy85 => simp only [List.getElem?_toArray, List.getElem?_cons_zero, List.getElem?_cons_succ]; rfl
  go_simp
  have HO7 := Lib.hid (ownOne hHeld hu)
  have hH2 := hHeld.alloc (.cells #[.int .u8 ((x.par.length : Int) + 1)] 5)
  refine hK.out _ _ hH2 (fun _ => ?_)
  clear hHeld hK K
  have hHeld := hH2
  clear hH2
  try simp only [Act.put, List.setIfInBounds_toArray, List.set_cons_zero, List.set_cons_succ]
  refine wpAnyH_ready (rs := [8]) (by kernel_rfl) (by simp) (AllReadyH.cons (o := ?oy98) ?hy98 (fun K hK => ?sy98) AllReadyH.nil)
  case hy98 => simp only [List.getElem?_toArray, List.getElem?_cons_zero, List.getElem?_cons_succ]; rfl
  have HRT := Lib.hid (rdl_blk (HB.out.ext hHeld) (Cm.root_at (.slice A x.par.length cap)) HR.out.1 HR.out.2 (by decide) 32 (Nat.le_refl _))
  refine stp_append rowByte rfl (.tmp 11) (.tmp 13) rfl (v := .slice (some ⟨w0.heap.size, 0, none⟩) 1 1) rfl HO7.out _ _ rfl (ys := x.root) (rd_of HRT.out).2.2 (rd_of HRT.out).1 (rd_of HRT.out).2.1 (by rw [HR.out.1]; simp) hHeld.size ?_
  intro v1 p1 ho1 hg1 hat1
  have hh := HO7.out.ext_app hHeld hg1
  obtain ⟨B1, bn, bc, rfl⟩ := ho1.shape3
  have HO1 := Lib.hid ho1
  clear ho1 hg1 hat1 HO7
  have hH2 := hh
  refine hK.out _ _ hH2 (fun _ => ?_)
  clear hHeld hK K
  have hHeld := hH2
  clear hH2
  try simp only [Act.put, List.setIfInBounds_toArray, List.set_cons_zero, List.set_cons_succ]
  clear hh
  refine wpAnyH_take (i := 9) (oi := ?oiz10) (v := ?vz10) ?hiz10 (by kernel_rfl) (by kernel_rfl) (by kernel_rfl) ?hQz10 ?hyz10 (by assumption) ?restz10
  case hiz10 => simp only [List.getElem?_toArray, List.getElem?_cons_zero, List.getElem?_cons_succ]; rfl
  case hQz10 => exact fun _ _ _ h => h
  case hyz10 => exact Or.inl ⟨by rfl, by intro w hSw; (try dsimp only at hSw); go_simp; with_reducible rfl⟩
  try simp only [Act.put, List.setIfInBounds_toArray, List.set_cons_zero, List.set_cons_succ]
  refine wpAnyH_done (by kernel_rfl) ?_ _
  have XW := Lib.hid hHeld
  have d0 := c0 _ hHeld
  clear hHeld R1
  go_wp2_with fail
  go_loopw [3, 18] (fun o i wr => ∃ k : Nat, k ≤ x.par.length ∧ i = .int .i64 k ∧ Own tByte 5 wr w1.heap.size o ([(x.par.length : Int) + 1] ++ x.root ++ (x.par.take k).flatten) ∧ Ext w1 wr) (fun _ i _ => x.par.length - (intOf i).toNat)
  case atStart => exact ⟨0, by omega, rfl, by rw [List.take_zero, List.flatten_nil, List.append_nil]; exact HO1.out, XW.out⟩
  case round =>
    clear HO1 XW d0
    obtain ⟨k, hk, rfl, ho, hx⟩ := hrel
    have HO := Lib.hid ho
    have HX := Lib.hid hx
    obtain ⟨C, cn, cc, rfl⟩ := ho.shape3
    clear ho hx
    by_cases hlt : k < x.par.length
    · obtain ⟨g, o, rfl, hs, hc⟩ := Hrd.out.elem Hokp.out k hlt
      have HX0 := Lib.hid (show K32 x.par[k] from Hokp.out _ (List.getElem_mem hlt))
      have HEW := Lib.hid (E1.out.trans HX.out)
      have HD0 := Lib.hid (show ∀ j u, (tKey.enc x.par[k])[j]? = some u → wr.cell? ⟨g, o + k * 32 + j, none⟩ = some u from fun j u hu => HEW.out.cell (hc j u hu))
      have HTL := Lib.hid (flat32 (x.par.take k) (fun q hq => Hokp.out q (List.mem_of_mem_take hq)))
      have HSN := Lib.hid (show (x.par.take (k + 1)).flatten = (x.par.take k).flatten ++ x.par[k] by rw [List.take_succ_eq_append_getElem hlt, List.flatten_append]; simp)
      have HST := Lib.hid (show St 32 (tKey.enc x.par[k]).toArray from St.nums HX0.out.1)
      have HRK := Lib.hid (rdl_blk (xs := x.par[k]) (off := 0) (Blk.new wr 28 (tKey.enc x.par[k]).toArray) numsA_full HX0.out.1 HX0.out.2 (by decide) 32 (Nat.le_refl _))
      clear hc c0 c1 c2
      have hi : (0 : Int) ≤ (k : Int) := by omega
      have hi2 : (k : Int) < (x.par.length : Int) := by omega
      go_wp2_with (first
        | (refine wpl_load ⟨g, o + k * 32, none⟩ (tKey.enc x.par[k]) (by rw [tKey.len _ HX0.out]; exact aggKey) rfl _ rfl rfl (fun j u hu => by rw [Addr.add_lit]; exact HD0.out j u hu) ?_)
        | (refine wpl_storeNewB aggKey HST.out rfl rfl _ _ rfl rfl rfl rfl ?_)
        | (at_builtin; refine wpl_append rowByte rfl _ _ rfl (v := .slice C cn cc) rfl (HO.out.alloc _) _ _ rfl (ys := x.par[k]) (rd_of HRK.out).2.2 (rd_of HRK.out).1 (rd_of HRK.out).2.1 (by simp only [List.length_append, HTL.out, HR.out.1, HX0.out.1, List.length_take]; simp; omega) (HX.out.alloc _).size ?_; intro v9 w9 ho1 hg1 hat1; have HX9 := Lib.hid ((HO.out.alloc _).ext_app (HX.out.alloc _) hg1); have HO9 := Lib.hid ho1; clear ho1 hg1 hat1))
      go_roundw
      case rel => exact ⟨k + 1, by omega, by go_num, by rw [HSN.out, ← List.append_assoc]; exact HO9.out, HX9.out⟩
      case measure => simp [intOf]; omega
    · obtain rfl : k = x.par.length := by omega
      rw [List.take_length] at HO
      have HLN := Lib.hid (show ([(x.par.length : Int) + 1] ++ x.root ++ x.par.flatten).length = 33 + 32 * x.par.length by simp only [List.length_append, HL1.out, HR.out.1, List.length_cons, List.length_nil] <;> omega)
      go_wp2_with fail
      refine wp_region_held_drew (S := fun W => Ext w1 W) (by kernel_rfl) HX.out.drew (fun hHeld => ?_)
      generalize hw0 : World.drew wr = w0 at hHeld ⊢
      have HO := Lib.hid (show Own tByte 5 w0 w1.heap.size (.slice C cn cc) _ by rw [← hw0]; exact HO.out.drew)
      clear hw0
      refine wpAnyH_take (i := 0) (oi := ?oiz11) (v := ?vz11) ?hiz11 (by kernel_rfl) (by kernel_rfl) (by kernel_rfl) ?hQz11 ?hyz11 (by assumption) ?restz11
      case hiz11 => simp only [List.getElem?_toArray, List.getElem?_cons_zero, List.getElem?_cons_succ]; rfl
      case hQz11 => exact fun _ _ _ h => h
      case hyz11 => exact Or.inl ⟨by rfl, by intro w hSw; (try dsimp only at hSw); go_simp; with_reducible rfl⟩
      try simp only [Act.put, List.setIfInBounds_toArray, List.set_cons_zero, List.set_cons_succ]
      refine wpAnyH_take (i := 1) (oi := ?oiz12) (v := ?vz12) ?hiz12 (by kernel_rfl) (by kernel_rfl) (by kernel_rfl) ?hQz12 ?hyz12 (by assumption) ?restz12
      case hiz12 => simp only [List.getElem?_toArray, List.getElem?_cons_zero, List.getElem?_cons_succ]; rfl
      case hQz12 => exact fun _ _ _ h => h
      case hyz12 => exact Or.inl ⟨by rfl, by intro w hSw; (try dsimp only at hSw); go_simp; with_reducible rfl⟩
      try simp only [Act.put, List.setIfInBounds_toArray, List.set_cons_zero, List.set_cons_succ]
      refine wpAnyH_take (i := 2) (oi := ?oiz13) (v := ?vz13) ?hiz13 (by kernel_rfl) (by kernel_rfl) (by kernel_rfl) ?hQz13 ?hyz13 (by assumption) ?restz13
      case hiz13 => simp only [List.getElem?_toArray, List.getElem?_cons_zero, List.getElem?_cons_succ]; rfl
      case hQz13 => exact fun _ _ _ h => h
      case hyz13 => exact Or.inl ⟨by rfl, by intro w hSw; (try dsimp only at hSw); go_simp; with_reducible rfl⟩
      try simp only [Act.put, List.setIfInBounds_toArray, List.set_cons_zero, List.set_cons_succ]
      refine wpAnyH_take (i := 3) (oi := ?oiz14) (v := ?vz14) ?hiz14 (by kernel_rfl) (by kernel_rfl) (by kernel_rfl) ?hQz14 ?hyz14 (by assumption) ?restz14
      case hiz14 => simp only [List.getElem?_toArray, List.getElem?_cons_zero, List.getElem?_cons_succ]; rfl
      case hQz14 => exact fun _ _ _ h => h
      case hyz14 => exact Or.inl ⟨by rfl, by intro w hSw; (try dsimp only at hSw); go_simp; with_reducible rfl⟩
      try simp only [Act.put, List.setIfInBounds_toArray, List.set_cons_zero, List.set_cons_succ]
      refine wpAnyH_take (i := 6) (oi := ?oiz15) (v := ?vz15) ?hiz15 (by kernel_rfl) (by kernel_rfl) (by kernel_rfl) ?hQz15 ?hyz15 (by assumption) ?restz15
      case hiz15 => simp only [List.getElem?_toArray, List.getElem?_cons_zero, List.getElem?_cons_succ]; rfl
      case hQz15 => exact fun _ _ _ h => h
      case hyz15 => exact Or.inl ⟨by rfl, by intro w hSw; (try dsimp only at hSw); go_simp; with_reducible rfl⟩
      try simp only [Act.put, List.setIfInBounds_toArray, List.set_cons_zero, List.set_cons_succ]
      refine wpAnyH_take (i := 7) (oi := ?oiz16) (v := ?vz16) ?hiz16 (by kernel_rfl) (by kernel_rfl) (by kernel_rfl) ?hQz16 ?hyz16 (by assumption) ?restz16
      case hiz16 => simp only [List.getElem?_toArray, List.getElem?_cons_zero, List.getElem?_cons_succ]; rfl
      case hQz16 => exact fun _ _ _ h => h
      case hyz16 => exact Or.inl ⟨by rfl, by intro w hSw; (try dsimp only at hSw); go_simp; with_reducible rfl⟩
      try simp only [Act.put, List.setIfInBounds_toArray, List.set_cons_zero, List.set_cons_succ]
      refine wpAnyH_ready (rs := [4]) (by kernel_rfl) (by simp) (AllReadyH.cons (o := ?oy174) ?hy174 (fun K hK => ?sy174) AllReadyH.nil)
      case hy174 => simp only [List.getElem?_toArray, List.getElem?_cons_zero, List.getElem?_cons_succ]; rfl
      go_simp
      obtain ⟨p1, hV, hx, HR6⟩ := byteStep w0 hu2
      rw [← hV]
      clear hV
      replace HO := Lib.hid (HO.out.ext hx)
      have hH2 := hHeld.trans hx
      refine hK.out _ _ hH2 (fun _ => ?_)
      clear hHeld hK K
      have hHeld := hH2
      clear hH2
      try simp only [Act.put, List.setIfInBounds_toArray, List.set_cons_zero, List.set_cons_succ]
      clear hx
      refine wpAnyH_ready (rs := [5]) (by kernel_rfl) (by simp) (AllReadyH.cons (o := ?oy185) ?hy185 (fun K hK => ?sy185) AllReadyH.nil)
      case hy185 => simp only [List.getElem?_toArray, List.getElem?_cons_zero, List.getElem?_cons_succ]; rfl
      refine stp_append rowByte rfl (.tmp 26) (.tmp 30) rfl (v := .slice C cn cc) rfl HO.out _ _ rfl (ys := [x.num]) rfl (rd_of HR6.out).1 (rd_of HR6.out).2.1 (by rw [HLN.out]; simp; omega) hHeld.size ?_
      intro v7 p2 ho1 hg1 hat1
      obtain ⟨D, dn, dc, rfl⟩ := ho1.shape3
      have hh := HO.out.ext_app hHeld hg1
      have HO7 := Lib.hid ho1
      clear ho1 hg1 hat1 HO
      have hH2 := hh
      refine hK.out _ _ hH2 (fun _ => ?_)
      clear hHeld hK K
      have hHeld := hH2
      clear hH2
      try simp only [Act.put, List.setIfInBounds_toArray, List.set_cons_zero, List.set_cons_succ]
      clear hh
      refine wpAnyH_ready (rs := [8]) (by kernel_rfl) (by simp) (AllReadyH.cons (o := ?oy198) ?hy198 (fun K hK => ?sy198) AllReadyH.nil)
      case hy198 => simp only [List.getElem?_toArray, List.getElem?_cons_zero, List.getElem?_cons_succ]; rfl
      refine stp_appendS rfl (.tmp 31) (.tmp 33) rfl (v := .slice D dn dc) rfl HO7.out rfl (by rw [List.length_append, HLN.out]; simp; omega) hHeld.size ?_
      intro v8 p3 ho1 hg1
      have hh := HO7.out.ext_app hHeld hg1
      obtain ⟨E, en, ec, rfl⟩ := ho1.shape3
      have HO13 := Lib.hid ho1
      clear ho1 hg1 HO7
      have hH2 := hh
      refine hK.out _ _ hH2 (fun _ => ?_)
      clear hHeld hK K
      have hHeld := hH2
      clear hH2
      try simp only [Act.put, List.setIfInBounds_toArray, List.set_cons_zero, List.set_cons_succ]
      clear hh
      refine wpAnyH_take (i := 9) (oi := ?oiz20) (v := ?vz20) ?hiz20 (by kernel_rfl) (by kernel_rfl) (by kernel_rfl) ?hQz20 ?hyz20 (by assumption) ?restz20
      case hiz20 => simp only [List.getElem?_toArray, List.getElem?_cons_zero, List.getElem?_cons_succ]; rfl
      case hQz20 => exact fun _ _ _ h => h
      case hyz20 => exact Or.inl ⟨by rfl, by intro w hSw; (try dsimp only at hSw); go_simp; with_reducible rfl⟩
      try simp only [Act.put, List.setIfInBounds_toArray, List.set_cons_zero, List.set_cons_succ]
      refine wpAnyH_done (by kernel_rfl) ?_ _
      have XW := Lib.hid (E1.out.trans hHeld)
      clear hHeld
      go_wp2_with fail
      go_ret
      exact ⟨_, rfl, by rw [HD.out]; exact HO13.out.le E1.out.size, XW.out⟩

end Go.Proofs.Ytbngjhppngohaaa
