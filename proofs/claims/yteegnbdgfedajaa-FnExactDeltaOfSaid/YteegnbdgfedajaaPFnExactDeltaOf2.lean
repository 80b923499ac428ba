/- What the walk of the law FnExactDeltaOf needs, part 2 of 2. No condition. -/
import Derived.Lib.AppendZeros
import Derived.Test.YteegnbdgfedajaaPFnExactDeltaOf1
/- The program of a delta: the program's state, and the plain bytes. No condition. -/
namespace Go.Proofs.Yteegnbdgfedajaa
open Go.RowKit
set_option linter.unusedVariables false
set_option linter.unusedSimpArgs false

/-- the two variables gp (what is held back) and go (what has been told): what they hold (vP, vO), and the rows that are at hand (vR, vQ) -/
structure DSt (w0 w : World) (gp go : Nat) (vP vR vO vQ : Value) (H O : List Int) : Prop where
  ext : Ext w0 w
  bp : Blk w gp 22 #[vP]
  bo : Blk w go 22 #[vO]
  p : OwnT w w0.heap.size vR H
  o : Own tByte 5 w w0.heap.size vQ O
  ne : vR.ownBlock ≠ vQ.ownBlock
  lp : w0.heap.size ≤ gp
  lo : w0.heap.size ≤ go
  np : gp ≠ go
section
variable {w0 w w' : World} {gp go : Nat} {vP vR vO vQ v' : Value} {H O H' O' : List Int}
theorem Own.row8 {w : World} {base : Nat} {v : Value} {xs : List Int} (h : Own tByte 5 w base v xs) {k : Nat} (hk : v.ownBlock = some k) : ∃ cur, Blk w k 5 cur := by
  obtain ⟨⟨hl, hx⟩, _⟩ := h
  rcases hx with ⟨rfl, _⟩ | ⟨g, cap, cur, rfl, hb, hg, _⟩
  · cases hk
  · injection hk with hk
    subst hk
    exact ⟨cur, hg⟩
theorem blk_two {w : World} {g : Nat} {c c' : Array Value} (h : Blk w g 22 c) (k : Blk w g 5 c') : False := by
  unfold Blk at h k
  rw [h] at k
  injection k with k
  injection k with _ k
  revert k
  decide
theorem DSt.lt_p (h : DSt w0 w gp go vP vR vO vQ H O) : gp < w.heap.size := h.bp.lt
theorem DSt.qgp (h : DSt w0 w gp go vP vR vO vQ H O) : some gp ≠ vQ.ownBlock := fun e => by
  obtain ⟨c, hc⟩ := h.o.row8 e.symm
  exact blk_two h.bp hc
theorem DSt.qgo (h : DSt w0 w gp go vP vR vO vQ H O) : some go ≠ vQ.ownBlock := fun e => by
  obtain ⟨c, hc⟩ := h.o.row8 e.symm
  exact blk_two h.bo hc
theorem DSt.rgp (h : DSt w0 w gp go vP vR vO vQ H O) : some gp ≠ vR.ownBlock := fun e => by
  obtain ⟨g, hg, _, _, c, hc⟩ := h.p.block
  rw [hg] at e
  injection e with e
  subst e
  exact blk_two h.bp hc
theorem DSt.rgo (h : DSt w0 w gp go vP vR vO vQ H O) : some go ≠ vR.ownBlock := fun e => by
  obtain ⟨g, hg, _, _, c, hc⟩ := h.p.block
  rw [hg] at e
  injection e with e
  subst e
  exact blk_two h.bo hc
theorem DSt.on (h : DSt w0 w gp go vP vR vO vQ H O) (hx : Ext w w') : DSt w0 w' gp go vP vR vO vQ H O := ⟨h.ext.trans hx, h.bp.ext hx, h.bo.ext hx, h.p.ext hx, h.o.ext hx, h.ne, h.lp, h.lo, h.np⟩
/-- behind an append to what has been told -/
theorem DSt.app (h : DSt w0 w gp go vP vR vO vQ H O) (ho : Own tByte 5 w' w0.heap.size v' O') (hg : Go1 w w' vQ v') : DSt w0 w' gp go vP vR vO v' H O' := by
  refine ⟨h.ext.grown hg.g (fun k e => (h.o.base_le k e).1), h.bp.grown hg.g h.qgp, h.bo.grown hg.g h.qgo, h.p.grown hg.g h.ne, ho, ?_, h.lp, h.lo, h.np⟩
  rcases hg.at_ with e | ⟨k, e, hk⟩
  · rw [e]; exact h.ne
  · rw [e]
    obtain ⟨g, e2, _, hlt, _⟩ := h.p.block
    rw [e2]
    intro e3
    injection e3 with e3
    omega
/-- behind an append to what is held back -/
theorem DSt.hold (h : DSt w0 w gp go vP vR vO vQ H O) (ho : OwnT w' w0.heap.size v' H') (hg : Go1 w w' vR v') : DSt w0 w' gp go vP v' vO vQ H' O := by
  have hb : ∀ k, vR.ownBlock = some k → w0.heap.size ≤ k := fun k e => by
    obtain ⟨g, e2, h1, _⟩ := h.p.block
    rw [e2] at e; injection e with e; omega
  refine ⟨h.ext.grown hg.g hb, h.bp.grown hg.g h.rgp, h.bo.grown hg.g h.rgo, ho, h.o.kept hg.g ?_, ?_, h.lp, h.lo, h.np⟩
  · cases hq : vQ.ownBlock with
    | none => exact .inl rfl
    | some k => exact .inr (fun e => h.ne (by rw [hq, ← e]))
  · rcases hg.at_ with e | ⟨k, e, hk⟩
    · rw [e]; exact h.ne
    · rw [e]
      intro e3
      have := (h.o.base_le k e3.symm).2
      omega
theorem DSt.cutP (h : DSt w0 w gp go vP vR vO vQ H O) (ho : OwnT w w0.heap.size v' H') (e : v'.ownBlock = vR.ownBlock) : DSt w0 w gp go vP v' vO vQ H' O := ⟨h.ext, h.bp, h.bo, ho, h.o, by rw [e]; exact h.ne, h.lp, h.lo, h.np⟩
theorem OwnT.far {w : World} {base : Nat} {v : Value} {xs : List Int} (h : OwnT w base v xs) {p : Addr} (hp : some p.block ≠ v.ownBlock) (u : Value) : OwnT (w.setCell p u) base v xs := by
  obtain ⟨g, o, cap, cur, rfl, h1, h2, h3⟩ := h
  exact ⟨g, o, cap, cur, rfl, h1, h2.far (fun e => hp (by rw [← e]; rfl)) u, h3⟩
theorem Own.far8 {w : World} {base : Nat} {v : Value} {xs : List Int} (h : Own tByte 5 w base v xs) {g i : Nat} (hp : some g ≠ v.ownBlock) (u : Value) : Own tByte 5 (w.setCell ⟨g, i, none⟩ u) base v xs :=
  h.kept (grown_set (grown_refl _ _) _) (by
    cases hq : v.ownBlock with
    | none => exact .inl rfl
    | some k => exact .inr (fun e => hp (by rw [hq, ← e])))
/-- what has been told is stored -/
theorem DSt.setO (h : DSt w0 w gp go vP vR vO vQ H O) : DSt w0 (w.setCell ⟨go, 0, none⟩ vQ) gp go vP vR vQ vQ H O :=
  ⟨h.ext.set h.lo _, h.bp.far h.np _, h.bo.set 0 vQ, h.p.far h.rgo _, h.o.far8 h.qgo _, h.ne, h.lp, h.lo, h.np⟩
/-- what is held back is stored -/
theorem DSt.setP (h : DSt w0 w gp go vP vR vO vQ H O) : DSt w0 (w.setCell ⟨gp, 0, none⟩ vR) gp go vR vR vO vQ H O :=
  ⟨h.ext.set h.lp _, h.bp.set 0 vR, h.bo.far (fun e => h.np e.symm) _, h.p.far h.rgp _, h.o.far8 h.qgp _, h.ne, h.lp, h.lo, h.np⟩
end
/-- how long the slice in a variable is -/
def varLen (w : World) (g : Nat) : Nat := match w.cell? ⟨g, 0, none⟩ with | some v => lenV v | none => 0
theorem varLen_is {w : World} {g t : Nat} {v : Value} (h : Blk w g t #[v]) : varLen w g = lenV v := by unfold varLen; rw [h.at_ 0 rfl]; rfl
set_option maxHeartbeats 4000000 in
set_option maxRecDepth 100000 in
theorem flush_any (w0 w : World) (gp go : Nat) (vP vO : Value) (H O : List Int) (h : DSt w0 w gp go vP vP vO vO H O) (hl : O.length ≤ 100000) (hHl : H.length ≤ 100000) :
    Calls Try.prog 79 #[.pointer (some ⟨gp, 0, none⟩), .pointer (some ⟨go, 0, none⟩)] w fun e w' => ∃ vP' vO', e = .returned (.tuple #[]) ∧ DSt w0 w' gp go vP' vP' vO' vO' [] (O ++ chk H.length H) := by
  have HD := Lib.hid h
  clear h
  go_enter Try.func79, Try.ntmps79
  go_wp2_with fail
  go_loopw [2] (fun _ wr => ∃ (q O' : List Int) (vP vO : Value), DSt w0 wr gp go vP vP vO vO q O' ∧ O ++ chk H.length H = O' ++ chk q.length q ∧ O'.length + 3 * q.length ≤ O.length + 3 * H.length ∧ q.length ≤ H.length) (fun _ wr => varLen wr gp)
  case atStart => exact ⟨H, O, vP, vO, HD.out, rfl, Nat.le_refl _, Nat.le_refl _⟩
  case round =>
    clear HD
    obtain ⟨q, O', vP1, vO1, hD, hF, hol, hql⟩ := hrel
    obtain ⟨g, o, c1, rfl⟩ := hD.p.shape
    obtain ⟨C, cn, cc, rfl⟩ := hD.o.shape3
    have HF := Lib.hid hF
    have HD := Lib.hid hD
    have d0 := hD.bp.at_ 0 rfl
    have d1 := hD.bo.at_ 0 rfl
    clear hF hD
    by_cases hq : q.length = 0
    · obtain rfl : q = [] := List.eq_nil_of_length_eq_zero hq
      have HF2 := Lib.hid (show O ++ chk H.length H = O' by rw [HF.out, chk_nil, List.append_nil])
      go_wp2_with fail
      first | (refine bodyPost_ret (results_none rfl _ _ _) rfl ?_) | (refine bodyPost_end (results_none rfl _ _ _) rfl ?_)
      exact ⟨_, _, rfl, by rw [HF2.out]; exact HD.out⟩
    have hq1 : (0 : Int) < (q.length : Int) := by omega
    obtain ⟨_, hqc, _, hqB, _⟩ := HD.out.p.rd
    have HQB := Lib.hid hqB
    clear hqB
    by_cases hbig : 255 ≤ q.length
    · have hbigI : (255 : Int) ≤ (q.length : Int) := by omega
      have hW : IntKind.u8.wrap 255 = 255 := by decide
      by_cases hcn : c1 = 255
      · subst hcn
        have hcn : 255 = 255 := rfl
        have hq25 : q.length = 255 := by omega
        have HQ25 := Lib.hid hq25
        clear hq25
        have HSTEP := Lib.hid (chk_step q 255 (by omega) (by omega))
        go_wp2_with fail
        refine wp_region_held_drew (S := fun W => Blk W gp 22 #[.slice (some ⟨g, o, none⟩) q.length 255]) (by kernel_rfl) HD.out.bp (fun hHeld => ?_)
        have HDd := Lib.hid (HD.out.on (Ext.refl _).drew)
        have HVL := Lib.hid (varLen_is HD.out.bp)
        generalize World.drew wr = wd at hHeld HDd ⊢
        clear d0 d1 HD
        refine wpAnyH_take (i := 1) (oi := ?oiz1) (v := ?vz1) ?hiz1 (by kernel_rfl) (by kernel_rfl) (by kernel_rfl) ?hQz1 ?hyz1 (by assumption) ?restz1
        case hiz1 => simp only [List.getElem?_toArray, List.getElem?_cons_zero, List.getElem?_cons_succ]; rfl
        case hQz1 => exact fun _ _ _ h => h
        case hyz1 => exact Or.inl ⟨by rfl, by intro w hSw; (try dsimp only at hSw); go_simp; with_reducible rfl⟩
        try simp only [Act.put, List.setIfInBounds_toArray, List.set_cons_zero, List.set_cons_succ]
        refine wpAnyH_take (i := 2) (oi := ?oiz2) (v := (.int .u8 255)) ?hiz2 (by kernel_rfl) (by kernel_rfl) (by kernel_rfl) ?hQz2 ?hyz2 (by assumption) ?restz2
        case hiz2 => simp only [List.getElem?_toArray, List.getElem?_cons_zero, List.getElem?_cons_succ]; rfl
        case hQz2 => exact fun _ _ _ h => h
        case hyz2 => exact Or.inl ⟨by rfl, by intro w hSw; go_simp; first | done | (simp only [hW]; done) | (rw [hW]; done) | with_reducible rfl⟩
        try simp only [Act.put, List.setIfInBounds_toArray, List.set_cons_zero, List.set_cons_succ]
        refine wpAnyH_take (i := 5) (oi := ?oiz3) (v := ?vz3) ?hiz3 (by kernel_rfl) (by kernel_rfl) (by kernel_rfl) ?hQz3 ?hyz3 (by assumption) ?restz3
        case hiz3 => simp only [List.getElem?_toArray, List.getElem?_cons_zero, List.getElem?_cons_succ]; rfl
        case hQz3 => exact fun _ _ _ h => h
        case hyz3 => exact Or.inl ⟨by rfl, by intro w hSw; have p0 := hSw.at_ 0 rfl; go_simp; with_reducible rfl⟩
        try simp only [Act.put, List.setIfInBounds_toArray, List.set_cons_zero, List.set_cons_succ]
        refine wpAnyH_take (i := 6) (oi := ?oiz4) (v := ?vz4) ?hiz4 (by kernel_rfl) (by kernel_rfl) (by kernel_rfl) ?hQz4 ?hyz4 (by assumption) ?restz4
        case hiz4 => simp only [List.getElem?_toArray, List.getElem?_cons_zero, List.getElem?_cons_succ]; rfl
        case hQz4 => exact fun _ _ _ h => h
        case hyz4 => exact Or.inl ⟨by rfl, by intro w hSw; (try dsimp only at hSw); go_simp; with_reducible rfl⟩
        try simp only [Act.put, List.setIfInBounds_toArray, List.set_cons_zero, List.set_cons_succ]
        refine wpAnyH_take (i := 7) (oi := ?oiz5) (v := ?vz5) ?hiz5 (by kernel_rfl) (by kernel_rfl) (by kernel_rfl) ?hQz5 ?hyz5 (by assumption) ?restz5
        case hiz5 => simp only [List.getElem?_toArray, List.getElem?_cons_zero, List.getElem?_cons_succ]; rfl
        case hQz5 => exact fun _ _ _ h => h
        case hyz5 => exact Or.inl ⟨by rfl, by intro w hSw; (try dsimp only at hSw); go_simp; with_reducible rfl⟩
        try simp only [Act.put, List.setIfInBounds_toArray, List.set_cons_zero, List.set_cons_succ]
        refine wpAnyH_ready (rs := [0, 3]) (by kernel_rfl) (by simp) (AllReadyH.cons (o := ?oy60) ?hy60 (fun K hK => ?sy60) (AllReadyH.cons (o := ?oy63) ?hy63 (fun K hK => ?sy63) AllReadyH.nil))
        case hy60 => simp only [List.getElem?_toArray, List.getElem?_cons_zero, List.getElem?_cons_succ]; rfl
        case hy63 => simp only [List.getElem?_toArray, List.getElem?_cons_zero, List.getElem?_cons_succ]; rfl
        case sy60 =>
          have HX := HDd
          have s1 := HX.out.bo.at_ 0 rfl
          go_simp
          refine hK.out _ _ hHeld (fun _ => ?_)
          clear hK K s1
          try simp only [Act.put, List.setIfInBounds_toArray, List.set_cons_zero, List.set_cons_succ]
          clear HX
          refine wpAnyH_ready (rs := [3]) (by kernel_rfl) (by simp) (AllReadyH.cons (o := ?oy73) ?hy73 (fun K hK => ?sy73) AllReadyH.nil)
          case hy73 => simp only [List.getElem?_toArray, List.getElem?_cons_zero, List.getElem?_cons_succ]; rfl
          go_simp
          have hH2 : Blk (wd.alloc (.cells #[.int .u8 0, .int .u8 255] 5)) gp 22 #[.slice (some ⟨g, o, none⟩) q.length 255] := hHeld.alloc _
          refine hK.out _ _ hH2 (fun _ => ?_)
          clear hK K hHeld
          have hHeld := hH2
          clear hH2
          try simp only [Act.put, List.setIfInBounds_toArray, List.set_cons_zero, List.set_cons_succ]
          have HDe := Lib.hid (HDd.out.on (ext_alloc wd (.cells #[.int .u8 0, .int .u8 255] 5)))
          clear HDd
          refine wpAnyH_ready (rs := [4]) (by kernel_rfl) (by simp) (AllReadyH.cons (o := ?oy84) ?hy84 (fun K hK => ?sy84) AllReadyH.nil)
          case hy84 => simp only [List.getElem?_toArray, List.getElem?_cons_zero, List.getElem?_cons_succ]; rfl
          refine stp_append rowByte rfl _ _ rfl (v := .slice C cn cc) rfl HDe.out.o _ _ rfl (A := some ⟨wd.heap.size, 0, none⟩) (ys := [0, 255]) rfl (rd_two wd 0 255 _) (ok2 (by omega) (by omega)) (by simp only [List.length_cons, List.length_nil]; omega) HDe.out.ext.size ?_
          intro v4 w4 ho1 hg1 hat1
          obtain ⟨C4, n4, c4, rfl⟩ := ho1.shape3
          have HD4 := Lib.hid (HDe.out.app ho1 (Go1.app hg1 hat1))
          have hH2 := HD4.out.bp
          clear ho1 hg1 hat1 HDe
          refine hK.out _ _ hH2 (fun _ => ?_)
          clear hK K hHeld
          have hHeld := hH2
          clear hH2
          try simp only [Act.put, List.setIfInBounds_toArray, List.set_cons_zero, List.set_cons_succ]
          refine wpAnyH_ready (rs := [8]) (by kernel_rfl) (by simp) (AllReadyH.cons (o := ?oy98) ?hy98 (fun K hK => ?sy98) AllReadyH.nil)
          case hy98 => simp only [List.getElem?_toArray, List.getElem?_cons_zero, List.getElem?_cons_succ]; rfl
          refine stp_append rowByte rfl _ _ rfl (v := .slice C4 n4 c4) rfl HD4.out.o _ _ rfl (A := some ⟨g, o, none⟩) (ys := q.take 255) (by simp only [List.length_take]; omega) (HD4.out.p.rd.2.2.2.2.head8 255 (by omega)) (fun x hx => HQB.out x (List.mem_of_mem_take hx)) (by simp only [List.length_append, List.length_take, List.length_cons, List.length_nil]; omega) HD4.out.ext.size ?_
          intro v5 w5 ho1 hg1 hat1
          obtain ⟨C5, n5, c5, rfl⟩ := ho1.shape3
          have HD5 := Lib.hid (HD4.out.app ho1 (Go1.app hg1 hat1))
          have hH2 := HD5.out.bp
          clear ho1 hg1 hat1 HD4
          refine hK.out _ _ hH2 (fun _ => ?_)
          clear hK K hHeld
          have hHeld := hH2
          clear hH2
          try simp only [Act.put, List.setIfInBounds_toArray, List.set_cons_zero, List.set_cons_succ]
          refine wpAnyH_ready (rs := [9]) (by kernel_rfl) (by simp) (AllReadyH.cons (o := ?oy109) ?hy109 (fun K hK => ?sy109) AllReadyH.nil)
          case hy109 => simp only [List.getElem?_toArray, List.getElem?_cons_zero, List.getElem?_cons_succ]; rfl
          have s3 := HD5.out.bo.at_ 0 rfl
          have t3 := HD5.out.bo.free 0
          go_simp
          have HD6 := Lib.hid HD5.out.setO
          have hH2 := HD6.out.bp
          clear s3 t3
          refine hK.out _ _ hH2 (fun _ => ?_)
          clear hK K hHeld
          have hHeld := hH2
          clear hH2
          try simp only [Act.put, List.setIfInBounds_toArray, List.set_cons_zero, List.set_cons_succ]
          refine wpAnyH_done (by kernel_rfl) ?_ _
          clear hHeld
          generalize w5.setCell ⟨go, 0, none⟩ (.slice C5 n5 c5) = w6 at HD6 ⊢
          clear HD5
          have s4 := HD6.out.bp.at_ 0 rfl
          have t4 := HD6.out.bp.free 0
          have hc := HD6.out.p.cut 255 (by omega)
          rw [if_pos rfl] at hc
          rw [Nat.sub_self] at hc
          rw [show q.length - 255 = 0 by have := HQ25.out; omega] at hc
          have HD7 := Lib.hid ((HD6.out.cutP hc rfl).setP)
          clear hc
          go_wp2_with fail
          go_roundw
          case rel => exact ⟨q.drop 255, _, _, _, HD7.out, by rw [HF.out, HSTEP.out]; (try simp only [List.append_assoc]); (try rfl), by simp only [List.length_append, List.length_take, List.length_drop, List.length_cons, List.length_nil]; omega, by rw [List.length_drop]; omega⟩
          case measure =>
            have h7 := varLen_is HD7.out.bp
            rw [HVL.out]
            refine Nat.lt_of_le_of_lt (Nat.le_of_eq h7) ?_
            simp only [lenV]
            omega
        case sy63 =>
          go_simp
          have hH2 : Blk (wd.alloc (.cells #[.int .u8 0, .int .u8 255] 5)) gp 22 #[.slice (some ⟨g, o, none⟩) q.length 255] := hHeld.alloc _
          refine hK.out _ _ hH2 (fun _ => ?_)
          clear hK K hHeld
          have hHeld := hH2
          clear hH2
          try simp only [Act.put, List.setIfInBounds_toArray, List.set_cons_zero, List.set_cons_succ]
          have HX := Lib.hid (HDd.out.on (ext_alloc wd (.cells #[.int .u8 0, .int .u8 255] 5)))
          refine wpAnyH_ready (rs := [0]) (by kernel_rfl) (by simp) (AllReadyH.cons (o := ?oy110) ?hy110 (fun K hK => ?sy110) AllReadyH.nil)
          case hy110 => simp only [List.getElem?_toArray, List.getElem?_cons_zero, List.getElem?_cons_succ]; rfl
          have s1 := HX.out.bo.at_ 0 rfl
          go_simp
          refine hK.out _ _ hHeld (fun _ => ?_)
          clear hK K s1
          try simp only [Act.put, List.setIfInBounds_toArray, List.set_cons_zero, List.set_cons_succ]
          clear HX
          have HDe := Lib.hid (HDd.out.on (ext_alloc wd (.cells #[.int .u8 0, .int .u8 255] 5)))
          clear HDd
          refine wpAnyH_ready (rs := [4]) (by kernel_rfl) (by simp) (AllReadyH.cons (o := ?oy124) ?hy124 (fun K hK => ?sy124) AllReadyH.nil)
          case hy124 => simp only [List.getElem?_toArray, List.getElem?_cons_zero, List.getElem?_cons_succ]; rfl
          refine stp_append rowByte rfl _ _ rfl (v := .slice C cn cc) rfl HDe.out.o _ _ rfl (A := some ⟨wd.heap.size, 0, none⟩) (ys := [0, 255]) rfl (rd_two wd 0 255 _) (ok2 (by omega) (by omega)) (by simp only [List.length_cons, List.length_nil]; omega) HDe.out.ext.size ?_
          intro v4 w4 ho1 hg1 hat1
          obtain ⟨C4, n4, c4, rfl⟩ := ho1.shape3
          have HD4 := Lib.hid (HDe.out.app ho1 (Go1.app hg1 hat1))
          have hH2 := HD4.out.bp
          clear ho1 hg1 hat1 HDe
          refine hK.out _ _ hH2 (fun _ => ?_)
          clear hK K hHeld
          have hHeld := hH2
          clear hH2
          try simp only [Act.put, List.setIfInBounds_toArray, List.set_cons_zero, List.set_cons_succ]
          refine wpAnyH_ready (rs := [8]) (by kernel_rfl) (by simp) (AllReadyH.cons (o := ?oy138) ?hy138 (fun K hK => ?sy138) AllReadyH.nil)
          case hy138 => simp only [List.getElem?_toArray, List.getElem?_cons_zero, List.getElem?_cons_succ]; rfl
          refine stp_append rowByte rfl _ _ rfl (v := .slice C4 n4 c4) rfl HD4.out.o _ _ rfl (A := some ⟨g, o, none⟩) (ys := q.take 255) (by simp only [List.length_take]; omega) (HD4.out.p.rd.2.2.2.2.head8 255 (by omega)) (fun x hx => HQB.out x (List.mem_of_mem_take hx)) (by simp only [List.length_append, List.length_take, List.length_cons, List.length_nil]; omega) HD4.out.ext.size ?_
          intro v5 w5 ho1 hg1 hat1
          obtain ⟨C5, n5, c5, rfl⟩ := ho1.shape3
          have HD5 := Lib.hid (HD4.out.app ho1 (Go1.app hg1 hat1))
          have hH2 := HD5.out.bp
          clear ho1 hg1 hat1 HD4
          refine hK.out _ _ hH2 (fun _ => ?_)
          clear hK K hHeld
          have hHeld := hH2
          clear hH2
          try simp only [Act.put, List.setIfInBounds_toArray, List.set_cons_zero, List.set_cons_succ]
          refine wpAnyH_ready (rs := [9]) (by kernel_rfl) (by simp) (AllReadyH.cons (o := ?oy149) ?hy149 (fun K hK => ?sy149) AllReadyH.nil)
          case hy149 => simp only [List.getElem?_toArray, List.getElem?_cons_zero, List.getElem?_cons_succ]; rfl
          have s3 := HD5.out.bo.at_ 0 rfl
          have t3 := HD5.out.bo.free 0
          go_simp
          have HD6 := Lib.hid HD5.out.setO
          have hH2 := HD6.out.bp
          clear s3 t3
          refine hK.out _ _ hH2 (fun _ => ?_)
          clear hK K hHeld
          have hHeld := hH2
          clear hH2
          try simp only [Act.put, List.setIfInBounds_toArray, List.set_cons_zero, List.set_cons_succ]
          refine wpAnyH_done (by kernel_rfl) ?_ _
          clear hHeld
          generalize w5.setCell ⟨go, 0, none⟩ (.slice C5 n5 c5) = w6 at HD6 ⊢
          clear HD5
          have s4 := HD6.out.bp.at_ 0 rfl
          have t4 := HD6.out.bp.free 0
          have hc := HD6.out.p.cut 255 (by omega)
          rw [if_pos rfl] at hc
          rw [Nat.sub_self] at hc
          rw [show q.length - 255 = 0 by have := HQ25.out; omega] at hc
          have HD7 := Lib.hid ((HD6.out.cutP hc rfl).setP)
          clear hc
          go_wp2_with fail
          go_roundw
          case rel => exact ⟨q.drop 255, _, _, _, HD7.out, by rw [HF.out, HSTEP.out]; (try simp only [List.append_assoc]); (try rfl), by simp only [List.length_append, List.length_take, List.length_drop, List.length_cons, List.length_nil]; omega, by rw [List.length_drop]; omega⟩
          case measure =>
            have h7 := varLen_is HD7.out.bp
            rw [HVL.out]
            refine Nat.lt_of_le_of_lt (Nat.le_of_eq h7) ?_
            simp only [lenV]
            omega
      · have hcI : (255 : Int) ≤ (c1 : Int) := by omega
        have HSTEP := Lib.hid (chk_step q 255 (by omega) (by omega))
        go_wp2_with fail
        refine wp_region_held_drew (S := fun W => Blk W gp 22 #[.slice (some ⟨g, o, none⟩) q.length c1]) (by kernel_rfl) HD.out.bp (fun hHeld => ?_)
        have HDd := Lib.hid (HD.out.on (Ext.refl _).drew)
        have HVL := Lib.hid (varLen_is HD.out.bp)
        generalize World.drew wr = wd at hHeld HDd ⊢
        clear d0 d1 HD
        refine wpAnyH_take (i := 1) (oi := ?oiz15) (v := ?vz15) ?hiz15 (by kernel_rfl) (by kernel_rfl) (by kernel_rfl) ?hQz15 ?hyz15 (by assumption) ?restz15
        case hiz15 => simp only [List.getElem?_toArray, List.getElem?_cons_zero, List.getElem?_cons_succ]; rfl
        case hQz15 => exact fun _ _ _ h => h
        case hyz15 => exact Or.inl ⟨by rfl, by intro w hSw; (try dsimp only at hSw); go_simp; with_reducible rfl⟩
        try simp only [Act.put, List.setIfInBounds_toArray, List.set_cons_zero, List.set_cons_succ]
        refine wpAnyH_take (i := 2) (oi := ?oiz16) (v := (.int .u8 255)) ?hiz16 (by kernel_rfl) (by kernel_rfl) (by kernel_rfl) ?hQz16 ?hyz16 (by assumption) ?restz16
        case hiz16 => simp only [List.getElem?_toArray, List.getElem?_cons_zero, List.getElem?_cons_succ]; rfl
        case hQz16 => exact fun _ _ _ h => h
        case hyz16 => exact Or.inl ⟨by rfl, by intro w hSw; go_simp; first | done | (simp only [hW]; done) | (rw [hW]; done) | with_reducible rfl⟩
        try simp only [Act.put, List.setIfInBounds_toArray, List.set_cons_zero, List.set_cons_succ]
        refine wpAnyH_take (i := 5) (oi := ?oiz17) (v := ?vz17) ?hiz17 (by kernel_rfl) (by kernel_rfl) (by kernel_rfl) ?hQz17 ?hyz17 (by assumption) ?restz17
        case hiz17 => simp only [List.getElem?_toArray, List.getElem?_cons_zero, List.getElem?_cons_succ]; rfl
        case hQz17 => exact fun _ _ _ h => h
        case hyz17 => exact Or.inl ⟨by rfl, by intro w hSw; have p0 := hSw.at_ 0 rfl; go_simp; with_reducible rfl⟩
        try simp only [Act.put, List.setIfInBounds_toArray, List.set_cons_zero, List.set_cons_succ]
        refine wpAnyH_take (i := 6) (oi := ?oiz18) (v := ?vz18) ?hiz18 (by kernel_rfl) (by kernel_rfl) (by kernel_rfl) ?hQz18 ?hyz18 (by assumption) ?restz18
        case hiz18 => simp only [List.getElem?_toArray, List.getElem?_cons_zero, List.getElem?_cons_succ]; rfl
        case hQz18 => exact fun _ _ _ h => h
        case hyz18 => exact Or.inl ⟨by rfl, by intro w hSw; (try dsimp only at hSw); go_simp; with_reducible rfl⟩
        try simp only [Act.put, List.setIfInBounds_toArray, List.set_cons_zero, List.set_cons_succ]
        refine wpAnyH_take (i := 7) (oi := ?oiz19) (v := ?vz19) ?hiz19 (by kernel_rfl) (by kernel_rfl) (by kernel_rfl) ?hQz19 ?hyz19 (by assumption) ?restz19
        case hiz19 => simp only [List.getElem?_toArray, List.getElem?_cons_zero, List.getElem?_cons_succ]; rfl
        case hQz19 => exact fun _ _ _ h => h
        case hyz19 => exact Or.inl ⟨by rfl, by intro w hSw; (try dsimp only at hSw); go_simp; with_reducible rfl⟩
        try simp only [Act.put, List.setIfInBounds_toArray, List.set_cons_zero, List.set_cons_succ]
        refine wpAnyH_ready (rs := [0, 3]) (by kernel_rfl) (by simp) (AllReadyH.cons (o := ?oy200) ?hy200 (fun K hK => ?sy200) (AllReadyH.cons (o := ?oy203) ?hy203 (fun K hK => ?sy203) AllReadyH.nil))
        case hy200 => simp only [List.getElem?_toArray, List.getElem?_cons_zero, List.getElem?_cons_succ]; rfl
        case hy203 => simp only [List.getElem?_toArray, List.getElem?_cons_zero, List.getElem?_cons_succ]; rfl
        case sy200 =>
          have HX := HDd
          have s1 := HX.out.bo.at_ 0 rfl
          go_simp
          refine hK.out _ _ hHeld (fun _ => ?_)
          clear hK K s1
          try simp only [Act.put, List.setIfInBounds_toArray, List.set_cons_zero, List.set_cons_succ]
          clear HX
          refine wpAnyH_ready (rs := [3]) (by kernel_rfl) (by simp) (AllReadyH.cons (o := ?oy213) ?hy213 (fun K hK => ?sy213) AllReadyH.nil)
          case hy213 => simp only [List.getElem?_toArray, List.getElem?_cons_zero, List.getElem?_cons_succ]; rfl
          go_simp
          have hH2 : Blk (wd.alloc (.cells #[.int .u8 0, .int .u8 255] 5)) gp 22 #[.slice (some ⟨g, o, none⟩) q.length c1] := hHeld.alloc _
          refine hK.out _ _ hH2 (fun _ => ?_)
          clear hK K hHeld
          have hHeld := hH2
          clear hH2
          try simp only [Act.put, List.setIfInBounds_toArray, List.set_cons_zero, List.set_cons_succ]
          have HDe := Lib.hid (HDd.out.on (ext_alloc wd (.cells #[.int .u8 0, .int .u8 255] 5)))
          clear HDd
          refine wpAnyH_ready (rs := [4]) (by kernel_rfl) (by simp) (AllReadyH.cons (o := ?oy224) ?hy224 (fun K hK => ?sy224) AllReadyH.nil)
          case hy224 => simp only [List.getElem?_toArray, List.getElem?_cons_zero, List.getElem?_cons_succ]; rfl
          refine stp_append rowByte rfl _ _ rfl (v := .slice C cn cc) rfl HDe.out.o _ _ rfl (A := some ⟨wd.heap.size, 0, none⟩) (ys := [0, 255]) rfl (rd_two wd 0 255 _) (ok2 (by omega) (by omega)) (by simp only [List.length_cons, List.length_nil]; omega) HDe.out.ext.size ?_
          intro v4 w4 ho1 hg1 hat1
          obtain ⟨C4, n4, c4, rfl⟩ := ho1.shape3
          have HD4 := Lib.hid (HDe.out.app ho1 (Go1.app hg1 hat1))
          have hH2 := HD4.out.bp
          clear ho1 hg1 hat1 HDe
          refine hK.out _ _ hH2 (fun _ => ?_)
          clear hK K hHeld
          have hHeld := hH2
          clear hH2
          try simp only [Act.put, List.setIfInBounds_toArray, List.set_cons_zero, List.set_cons_succ]
          refine wpAnyH_ready (rs := [8]) (by kernel_rfl) (by simp) (AllReadyH.cons (o := ?oy238) ?hy238 (fun K hK => ?sy238) AllReadyH.nil)
          case hy238 => simp only [List.getElem?_toArray, List.getElem?_cons_zero, List.getElem?_cons_succ]; rfl
          refine stp_append rowByte rfl _ _ rfl (v := .slice C4 n4 c4) rfl HD4.out.o _ _ rfl (A := some ⟨g, o, none⟩) (ys := q.take 255) (by simp only [List.length_take]; omega) (HD4.out.p.rd.2.2.2.2.head8 255 (by omega)) (fun x hx => HQB.out x (List.mem_of_mem_take hx)) (by simp only [List.length_append, List.length_take, List.length_cons, List.length_nil]; omega) HD4.out.ext.size ?_
          intro v5 w5 ho1 hg1 hat1
          obtain ⟨C5, n5, c5, rfl⟩ := ho1.shape3
          have HD5 := Lib.hid (HD4.out.app ho1 (Go1.app hg1 hat1))
          have hH2 := HD5.out.bp
          clear ho1 hg1 hat1 HD4
          refine hK.out _ _ hH2 (fun _ => ?_)
          clear hK K hHeld
          have hHeld := hH2
          clear hH2
          try simp only [Act.put, List.setIfInBounds_toArray, List.set_cons_zero, List.set_cons_succ]
          refine wpAnyH_ready (rs := [9]) (by kernel_rfl) (by simp) (AllReadyH.cons (o := ?oy249) ?hy249 (fun K hK => ?sy249) AllReadyH.nil)
          case hy249 => simp only [List.getElem?_toArray, List.getElem?_cons_zero, List.getElem?_cons_succ]; rfl
          have s3 := HD5.out.bo.at_ 0 rfl
          have t3 := HD5.out.bo.free 0
          go_simp
          have HD6 := Lib.hid HD5.out.setO
          have hH2 := HD6.out.bp
          clear s3 t3
          refine hK.out _ _ hH2 (fun _ => ?_)
          clear hK K hHeld
          have hHeld := hH2
          clear hH2
          try simp only [Act.put, List.setIfInBounds_toArray, List.set_cons_zero, List.set_cons_succ]
          refine wpAnyH_done (by kernel_rfl) ?_ _
          clear hHeld
          generalize w5.setCell ⟨go, 0, none⟩ (.slice C5 n5 c5) = w6 at HD6 ⊢
          clear HD5
          have s4 := HD6.out.bp.at_ 0 rfl
          have t4 := HD6.out.bp.free 0
          have hc := HD6.out.p.cut 255 (by omega)
          rw [if_neg hcn] at hc
          have HD7 := Lib.hid ((HD6.out.cutP hc rfl).setP)
          clear hc
          go_wp2_with fail
          go_roundw
          case rel => exact ⟨q.drop 255, _, _, _, HD7.out, by rw [HF.out, HSTEP.out]; (try simp only [List.append_assoc]); (try rfl), by simp only [List.length_append, List.length_take, List.length_drop, List.length_cons, List.length_nil]; omega, by rw [List.length_drop]; omega⟩
          case measure =>
            have h7 := varLen_is HD7.out.bp
            rw [HVL.out]
            refine Nat.lt_of_le_of_lt (Nat.le_of_eq h7) ?_
            simp only [lenV]
            omega
        case sy203 =>
          go_simp
          have hH2 : Blk (wd.alloc (.cells #[.int .u8 0, .int .u8 255] 5)) gp 22 #[.slice (some ⟨g, o, none⟩) q.length c1] := hHeld.alloc _
          refine hK.out _ _ hH2 (fun _ => ?_)
          clear hK K hHeld
          have hHeld := hH2
          clear hH2
          try simp only [Act.put, List.setIfInBounds_toArray, List.set_cons_zero, List.set_cons_succ]
          have HX := Lib.hid (HDd.out.on (ext_alloc wd (.cells #[.int .u8 0, .int .u8 255] 5)))
          refine wpAnyH_ready (rs := [0]) (by kernel_rfl) (by simp) (AllReadyH.cons (o := ?oy250) ?hy250 (fun K hK => ?sy250) AllReadyH.nil)
          case hy250 => simp only [List.getElem?_toArray, List.getElem?_cons_zero, List.getElem?_cons_succ]; rfl
          have s1 := HX.out.bo.at_ 0 rfl
          go_simp
          refine hK.out _ _ hHeld (fun _ => ?_)
          clear hK K s1
          try simp only [Act.put, List.setIfInBounds_toArray, List.set_cons_zero, List.set_cons_succ]
          clear HX
          have HDe := Lib.hid (HDd.out.on (ext_alloc wd (.cells #[.int .u8 0, .int .u8 255] 5)))
          clear HDd
          refine wpAnyH_ready (rs := [4]) (by kernel_rfl) (by simp) (AllReadyH.cons (o := ?oy264) ?hy264 (fun K hK => ?sy264) AllReadyH.nil)
          case hy264 => simp only [List.getElem?_toArray, List.getElem?_cons_zero, List.getElem?_cons_succ]; rfl
          refine stp_append rowByte rfl _ _ rfl (v := .slice C cn cc) rfl HDe.out.o _ _ rfl (A := some ⟨wd.heap.size, 0, none⟩) (ys := [0, 255]) rfl (rd_two wd 0 255 _) (ok2 (by omega) (by omega)) (by simp only [List.length_cons, List.length_nil]; omega) HDe.out.ext.size ?_
          intro v4 w4 ho1 hg1 hat1
          obtain ⟨C4, n4, c4, rfl⟩ := ho1.shape3
          have HD4 := Lib.hid (HDe.out.app ho1 (Go1.app hg1 hat1))
          have hH2 := HD4.out.bp
          clear ho1 hg1 hat1 HDe
          refine hK.out _ _ hH2 (fun _ => ?_)
          clear hK K hHeld
          have hHeld := hH2
          clear hH2
          try simp only [Act.put, List.setIfInBounds_toArray, List.set_cons_zero, List.set_cons_succ]
          refine wpAnyH_ready (rs := [8]) (by kernel_rfl) (by simp) (AllReadyH.cons (o := ?oy278) ?hy278 (fun K hK => ?sy278) AllReadyH.nil)
          case hy278 => simp only [List.getElem?_toArray, List.getElem?_cons_zero, List.getElem?_cons_succ]; rfl
          refine stp_append rowByte rfl _ _ rfl (v := .slice C4 n4 c4) rfl HD4.out.o _ _ rfl (A := some ⟨g, o, none⟩) (ys := q.take 255) (by simp only [List.length_take]; omega) (HD4.out.p.rd.2.2.2.2.head8 255 (by omega)) (fun x hx => HQB.out x (List.mem_of_mem_take hx)) (by simp only [List.length_append, List.length_take, List.length_cons, List.length_nil]; omega) HD4.out.ext.size ?_
          intro v5 w5 ho1 hg1 hat1
          obtain ⟨C5, n5, c5, rfl⟩ := ho1.shape3
          have HD5 := Lib.hid (HD4.out.app ho1 (Go1.app hg1 hat1))
          have hH2 := HD5.out.bp
          clear ho1 hg1 hat1 HD4
          refine hK.out _ _ hH2 (fun _ => ?_)
          clear hK K hHeld
          have hHeld := hH2
          clear hH2
          try simp only [Act.put, List.setIfInBounds_toArray, List.set_cons_zero, List.set_cons_succ]
          refine wpAnyH_ready (rs := [9]) (by kernel_rfl) (by simp) (AllReadyH.cons (o := ?oy289) ?hy289 (fun K hK => ?sy289) AllReadyH.nil)
          case hy289 => simp only [List.getElem?_toArray, List.getElem?_cons_zero, List.getElem?_cons_succ]; rfl
          have s3 := HD5.out.bo.at_ 0 rfl
          have t3 := HD5.out.bo.free 0
          go_simp
          have HD6 := Lib.hid HD5.out.setO
          have hH2 := HD6.out.bp
          clear s3 t3
          refine hK.out _ _ hH2 (fun _ => ?_)
          clear hK K hHeld
          have hHeld := hH2
          clear hH2
          try simp only [Act.put, List.setIfInBounds_toArray, List.set_cons_zero, List.set_cons_succ]
          refine wpAnyH_done (by kernel_rfl) ?_ _
          clear hHeld
          generalize w5.setCell ⟨go, 0, none⟩ (.slice C5 n5 c5) = w6 at HD6 ⊢
          clear HD5
          have s4 := HD6.out.bp.at_ 0 rfl
          have t4 := HD6.out.bp.free 0
          have hc := HD6.out.p.cut 255 (by omega)
          rw [if_neg hcn] at hc
          have HD7 := Lib.hid ((HD6.out.cutP hc rfl).setP)
          clear hc
          go_wp2_with fail
          go_roundw
          case rel => exact ⟨q.drop 255, _, _, _, HD7.out, by rw [HF.out, HSTEP.out]; (try simp only [List.append_assoc]); (try rfl), by simp only [List.length_append, List.length_take, List.length_drop, List.length_cons, List.length_nil]; omega, by rw [List.length_drop]; omega⟩
          case measure =>
            have h7 := varLen_is HD7.out.bp
            rw [HVL.out]
            refine Nat.lt_of_le_of_lt (Nat.le_of_eq h7) ?_
            simp only [lenV]
            omega
    · have hbigI : ¬ (255 : Int) ≤ (q.length : Int) := by omega
      have hbigI2 : (q.length : Int) ≤ 255 := by omega
      have hW : IntKind.u8.wrap (q.length : Int) = (q.length : Int) := by simp [IntKind.wrap, IntKind.min, IntKind.max, IntKind.bits, IntKind.signed]; omega
      by_cases hcn : c1 = q.length
      · subst hcn
        have hcn : q.length = q.length := rfl
        have HSTEP := Lib.hid (chk_step q q.length (by omega) (by omega))
        go_wp2_with fail
        refine wp_region_held_drew (S := fun W => Blk W gp 22 #[.slice (some ⟨g, o, none⟩) q.length q.length]) (by kernel_rfl) HD.out.bp (fun hHeld => ?_)
        have HDd := Lib.hid (HD.out.on (Ext.refl _).drew)
        have HVL := Lib.hid (varLen_is HD.out.bp)
        generalize World.drew wr = wd at hHeld HDd ⊢
        clear d0 d1 HD
        refine wpAnyH_take (i := 1) (oi := ?oiz29) (v := ?vz29) ?hiz29 (by kernel_rfl) (by kernel_rfl) (by kernel_rfl) ?hQz29 ?hyz29 (by assumption) ?restz29
        case hiz29 => simp only [List.getElem?_toArray, List.getElem?_cons_zero, List.getElem?_cons_succ]; rfl
        case hQz29 => exact fun _ _ _ h => h
        case hyz29 => exact Or.inl ⟨by rfl, by intro w hSw; (try dsimp only at hSw); go_simp; with_reducible rfl⟩
        try simp only [Act.put, List.setIfInBounds_toArray, List.set_cons_zero, List.set_cons_succ]
        refine wpAnyH_take (i := 2) (oi := ?oiz30) (v := (.int .u8 (q.length : Int))) ?hiz30 (by kernel_rfl) (by kernel_rfl) (by kernel_rfl) ?hQz30 ?hyz30 (by assumption) ?restz30
        case hiz30 => simp only [List.getElem?_toArray, List.getElem?_cons_zero, List.getElem?_cons_succ]; rfl
        case hQz30 => exact fun _ _ _ h => h
        case hyz30 => exact Or.inl ⟨by rfl, by intro w hSw; go_simp; first | done | (simp only [hW]; done) | (rw [hW]; done) | with_reducible rfl⟩
        try simp only [Act.put, List.setIfInBounds_toArray, List.set_cons_zero, List.set_cons_succ]
        refine wpAnyH_take (i := 5) (oi := ?oiz31) (v := ?vz31) ?hiz31 (by kernel_rfl) (by kernel_rfl) (by kernel_rfl) ?hQz31 ?hyz31 (by assumption) ?restz31
        case hiz31 => simp only [List.getElem?_toArray, List.getElem?_cons_zero, List.getElem?_cons_succ]; rfl
        case hQz31 => exact fun _ _ _ h => h
        case hyz31 => exact Or.inl ⟨by rfl, by intro w hSw; have p0 := hSw.at_ 0 rfl; go_simp; with_reducible rfl⟩
        try simp only [Act.put, List.setIfInBounds_toArray, List.set_cons_zero, List.set_cons_succ]
        refine wpAnyH_take (i := 6) (oi := ?oiz32) (v := ?vz32) ?hiz32 (by kernel_rfl) (by kernel_rfl) (by kernel_rfl) ?hQz32 ?hyz32 (by assumption) ?restz32
        case hiz32 => simp only [List.getElem?_toArray, List.getElem?_cons_zero, List.getElem?_cons_succ]; rfl
        case hQz32 => exact fun _ _ _ h => h
        case hyz32 => exact Or.inl ⟨by rfl, by intro w hSw; (try dsimp only at hSw); go_simp; with_reducible rfl⟩
        try simp only [Act.put, List.setIfInBounds_toArray, List.set_cons_zero, List.set_cons_succ]
        refine wpAnyH_take (i := 7) (oi := ?oiz33) (v := ?vz33) ?hiz33 (by kernel_rfl) (by kernel_rfl) (by kernel_rfl) ?hQz33 ?hyz33 (by assumption) ?restz33
        case hiz33 => simp only [List.getElem?_toArray, List.getElem?_cons_zero, List.getElem?_cons_succ]; rfl
        case hQz33 => exact fun _ _ _ h => h
        case hyz33 => exact Or.inl ⟨by rfl, by intro w hSw; (try dsimp only at hSw); go_simp; with_reducible rfl⟩
        try simp only [Act.put, List.setIfInBounds_toArray, List.set_cons_zero, List.set_cons_succ]
        refine wpAnyH_ready (rs := [0, 3]) (by kernel_rfl) (by simp) (AllReadyH.cons (o := ?oy340) ?hy340 (fun K hK => ?sy340) (AllReadyH.cons (o := ?oy343) ?hy343 (fun K hK => ?sy343) AllReadyH.nil))
        case hy340 => simp only [List.getElem?_toArray, List.getElem?_cons_zero, List.getElem?_cons_succ]; rfl
        case hy343 => simp only [List.getElem?_toArray, List.getElem?_cons_zero, List.getElem?_cons_succ]; rfl
        case sy340 =>
          have HX := HDd
          have s1 := HX.out.bo.at_ 0 rfl
          go_simp
          refine hK.out _ _ hHeld (fun _ => ?_)
          clear hK K s1
          try simp only [Act.put, List.setIfInBounds_toArray, List.set_cons_zero, List.set_cons_succ]
          clear HX
          refine wpAnyH_ready (rs := [3]) (by kernel_rfl) (by simp) (AllReadyH.cons (o := ?oy353) ?hy353 (fun K hK => ?sy353) AllReadyH.nil)
          case hy353 => simp only [List.getElem?_toArray, List.getElem?_cons_zero, List.getElem?_cons_succ]; rfl
          go_simp
          have hH2 : Blk (wd.alloc (.cells #[.int .u8 0, .int .u8 (q.length : Int)] 5)) gp 22 #[.slice (some ⟨g, o, none⟩) q.length q.length] := hHeld.alloc _
          refine hK.out _ _ hH2 (fun _ => ?_)
          clear hK K hHeld
          have hHeld := hH2
          clear hH2
          try simp only [Act.put, List.setIfInBounds_toArray, List.set_cons_zero, List.set_cons_succ]
          have HDe := Lib.hid (HDd.out.on (ext_alloc wd (.cells #[.int .u8 0, .int .u8 (q.length : Int)] 5)))
          clear HDd
          refine wpAnyH_ready (rs := [4]) (by kernel_rfl) (by simp) (AllReadyH.cons (o := ?oy364) ?hy364 (fun K hK => ?sy364) AllReadyH.nil)
          case hy364 => simp only [List.getElem?_toArray, List.getElem?_cons_zero, List.getElem?_cons_succ]; rfl
          refine stp_append rowByte rfl _ _ rfl (v := .slice C cn cc) rfl HDe.out.o _ _ rfl (A := some ⟨wd.heap.size, 0, none⟩) (ys := [0, (q.length : Int)]) rfl (rd_two wd 0 (q.length : Int) _) (ok2 (by omega) (by omega)) (by simp only [List.length_cons, List.length_nil]; omega) HDe.out.ext.size ?_
          intro v4 w4 ho1 hg1 hat1
          obtain ⟨C4, n4, c4, rfl⟩ := ho1.shape3
          have HD4 := Lib.hid (HDe.out.app ho1 (Go1.app hg1 hat1))
          have hH2 := HD4.out.bp
          clear ho1 hg1 hat1 HDe
          refine hK.out _ _ hH2 (fun _ => ?_)
          clear hK K hHeld
          have hHeld := hH2
          clear hH2
          try simp only [Act.put, List.setIfInBounds_toArray, List.set_cons_zero, List.set_cons_succ]
          refine wpAnyH_ready (rs := [8]) (by kernel_rfl) (by simp) (AllReadyH.cons (o := ?oy378) ?hy378 (fun K hK => ?sy378) AllReadyH.nil)
          case hy378 => simp only [List.getElem?_toArray, List.getElem?_cons_zero, List.getElem?_cons_succ]; rfl
          refine stp_append rowByte rfl _ _ rfl (v := .slice C4 n4 c4) rfl HD4.out.o _ _ rfl (A := some ⟨g, o, none⟩) (ys := q.take q.length) (by simp only [List.length_take]; omega) (HD4.out.p.rd.2.2.2.2.head8 q.length (by omega)) (fun x hx => HQB.out x (List.mem_of_mem_take hx)) (by simp only [List.length_append, List.length_take, List.length_cons, List.length_nil]; omega) HD4.out.ext.size ?_
          intro v5 w5 ho1 hg1 hat1
          obtain ⟨C5, n5, c5, rfl⟩ := ho1.shape3
          have HD5 := Lib.hid (HD4.out.app ho1 (Go1.app hg1 hat1))
          have hH2 := HD5.out.bp
          clear ho1 hg1 hat1 HD4
          refine hK.out _ _ hH2 (fun _ => ?_)
          clear hK K hHeld
          have hHeld := hH2
          clear hH2
          try simp only [Act.put, List.setIfInBounds_toArray, List.set_cons_zero, List.set_cons_succ]
          refine wpAnyH_ready (rs := [9]) (by kernel_rfl) (by simp) (AllReadyH.cons (o := ?oy389) ?hy389 (fun K hK => ?sy389) AllReadyH.nil)
          case hy389 => simp only [List.getElem?_toArray, List.getElem?_cons_zero, List.getElem?_cons_succ]; rfl
          have s3 := HD5.out.bo.at_ 0 rfl
          have t3 := HD5.out.bo.free 0
          go_simp
          have HD6 := Lib.hid HD5.out.setO
          have hH2 := HD6.out.bp
          clear s3 t3
          refine hK.out _ _ hH2 (fun _ => ?_)
          clear hK K hHeld
          have hHeld := hH2
          clear hH2
          try simp only [Act.put, List.setIfInBounds_toArray, List.set_cons_zero, List.set_cons_succ]
          refine wpAnyH_done (by kernel_rfl) ?_ _
          clear hHeld
          generalize w5.setCell ⟨go, 0, none⟩ (.slice C5 n5 c5) = w6 at HD6 ⊢
          clear HD5
          have s4 := HD6.out.bp.at_ 0 rfl
          have t4 := HD6.out.bp.free 0
          have hc := HD6.out.p.cut q.length (by omega)
          rw [if_pos rfl] at hc
          rw [Nat.sub_self] at hc
          have HD7 := Lib.hid ((HD6.out.cutP hc rfl).setP)
          clear hc
          go_wp2_with fail
          go_roundw
          case rel => exact ⟨q.drop q.length, _, _, _, HD7.out, by rw [HF.out, HSTEP.out]; (try simp only [List.append_assoc]); (try rfl), by simp only [List.length_append, List.length_take, List.length_drop, List.length_cons, List.length_nil]; omega, by rw [List.length_drop]; omega⟩
          case measure =>
            have h7 := varLen_is HD7.out.bp
            rw [HVL.out]
            refine Nat.lt_of_le_of_lt (Nat.le_of_eq h7) ?_
            simp only [lenV]
            omega
        case sy343 =>
          go_simp
          have hH2 : Blk (wd.alloc (.cells #[.int .u8 0, .int .u8 (q.length : Int)] 5)) gp 22 #[.slice (some ⟨g, o, none⟩) q.length q.length] := hHeld.alloc _
          refine hK.out _ _ hH2 (fun _ => ?_)
          clear hK K hHeld
          have hHeld := hH2
          clear hH2
          try simp only [Act.put, List.setIfInBounds_toArray, List.set_cons_zero, List.set_cons_succ]
          have HX := Lib.hid (HDd.out.on (ext_alloc wd (.cells #[.int .u8 0, .int .u8 (q.length : Int)] 5)))
          refine wpAnyH_ready (rs := [0]) (by kernel_rfl) (by simp) (AllReadyH.cons (o := ?oy390) ?hy390 (fun K hK => ?sy390) AllReadyH.nil)
          case hy390 => simp only [List.getElem?_toArray, List.getElem?_cons_zero, List.getElem?_cons_succ]; rfl
          have s1 := HX.out.bo.at_ 0 rfl
          go_simp
          refine hK.out _ _ hHeld (fun _ => ?_)
          clear hK K s1
          try simp only [Act.put, List.setIfInBounds_toArray, List.set_cons_zero, List.set_cons_succ]
          clear HX
          have HDe := Lib.hid (HDd.out.on (ext_alloc wd (.cells #[.int .u8 0, .int .u8 (q.length : Int)] 5)))
          clear HDd
          refine wpAnyH_ready (rs := [4]) (by kernel_rfl) (by simp) (AllReadyH.cons (o := ?oy404) ?hy404 (fun K hK => ?sy404) AllReadyH.nil)
          case hy404 => simp only [List.getElem?_toArray, List.getElem?_cons_zero, List.getElem?_cons_succ]; rfl
          refine stp_append rowByte rfl _ _ rfl (v := .slice C cn cc) rfl HDe.out.o _ _ rfl (A := some ⟨wd.heap.size, 0, none⟩) (ys := [0, (q.length : Int)]) rfl (rd_two wd 0 (q.length : Int) _) (ok2 (by omega) (by omega)) (by simp only [List.length_cons, List.length_nil]; omega) HDe.out.ext.size ?_
          intro v4 w4 ho1 hg1 hat1
          obtain ⟨C4, n4, c4, rfl⟩ := ho1.shape3
          have HD4 := Lib.hid (HDe.out.app ho1 (Go1.app hg1 hat1))
          have hH2 := HD4.out.bp
          clear ho1 hg1 hat1 HDe
          refine hK.out _ _ hH2 (fun _ => ?_)
          clear hK K hHeld
          have hHeld := hH2
          clear hH2
          try simp only [Act.put, List.setIfInBounds_toArray, List.set_cons_zero, List.set_cons_succ]
          refine wpAnyH_ready (rs := [8]) (by kernel_rfl) (by simp) (AllReadyH.cons (o := ?oy418) ?hy418 (fun K hK => ?sy418) AllReadyH.nil)
          case hy418 => simp only [List.getElem?_toArray, List.getElem?_cons_zero, List.getElem?_cons_succ]; rfl
          refine stp_append rowByte rfl _ _ rfl (v := .slice C4 n4 c4) rfl HD4.out.o _ _ rfl (A := some ⟨g, o, none⟩) (ys := q.take q.length) (by simp only [List.length_take]; omega) (HD4.out.p.rd.2.2.2.2.head8 q.length (by omega)) (fun x hx => HQB.out x (List.mem_of_mem_take hx)) (by simp only [List.length_append, List.length_take, List.length_cons, List.length_nil]; omega) HD4.out.ext.size ?_
          intro v5 w5 ho1 hg1 hat1
          obtain ⟨C5, n5, c5, rfl⟩ := ho1.shape3
          have HD5 := Lib.hid (HD4.out.app ho1 (Go1.app hg1 hat1))
          have hH2 := HD5.out.bp
          clear ho1 hg1 hat1 HD4
          refine hK.out _ _ hH2 (fun _ => ?_)
          clear hK K hHeld
          have hHeld := hH2
          clear hH2
          try simp only [Act.put, List.setIfInBounds_toArray, List.set_cons_zero, List.set_cons_succ]
          refine wpAnyH_ready (rs := [9]) (by kernel_rfl) (by simp) (AllReadyH.cons (o := ?oy429) ?hy429 (fun K hK => ?sy429) AllReadyH.nil)
          case hy429 => simp only [List.getElem?_toArray, List.getElem?_cons_zero, List.getElem?_cons_succ]; rfl
          have s3 := HD5.out.bo.at_ 0 rfl
          have t3 := HD5.out.bo.free 0
          go_simp
          have HD6 := Lib.hid HD5.out.setO
          have hH2 := HD6.out.bp
          clear s3 t3
          refine hK.out _ _ hH2 (fun _ => ?_)
          clear hK K hHeld
          have hHeld := hH2
          clear hH2
          try simp only [Act.put, List.setIfInBounds_toArray, List.set_cons_zero, List.set_cons_succ]
          refine wpAnyH_done (by kernel_rfl) ?_ _
          clear hHeld
          generalize w5.setCell ⟨go, 0, none⟩ (.slice C5 n5 c5) = w6 at HD6 ⊢
          clear HD5
          have s4 := HD6.out.bp.at_ 0 rfl
          have t4 := HD6.out.bp.free 0
          have hc := HD6.out.p.cut q.length (by omega)
          rw [if_pos rfl] at hc
          rw [Nat.sub_self] at hc
          have HD7 := Lib.hid ((HD6.out.cutP hc rfl).setP)
          clear hc
          go_wp2_with fail
          go_roundw
          case rel => exact ⟨q.drop q.length, _, _, _, HD7.out, by rw [HF.out, HSTEP.out]; (try simp only [List.append_assoc]); (try rfl), by simp only [List.length_append, List.length_take, List.length_drop, List.length_cons, List.length_nil]; omega, by rw [List.length_drop]; omega⟩
          case measure =>
            have h7 := varLen_is HD7.out.bp
            rw [HVL.out]
            refine Nat.lt_of_le_of_lt (Nat.le_of_eq h7) ?_
            simp only [lenV]
            omega
      · have hcI : (q.length : Int) ≤ (c1 : Int) := by omega
        have HSTEP := Lib.hid (chk_step q q.length (by omega) (by omega))
        go_wp2_with fail
        refine wp_region_held_drew (S := fun W => Blk W gp 22 #[.slice (some ⟨g, o, none⟩) q.length c1]) (by kernel_rfl) HD.out.bp (fun hHeld => ?_)
        have HDd := Lib.hid (HD.out.on (Ext.refl _).drew)
        have HVL := Lib.hid (varLen_is HD.out.bp)
        generalize World.drew wr = wd at hHeld HDd ⊢
        clear d0 d1 HD
        refine wpAnyH_take (i := 1) (oi := ?oiz43) (v := ?vz43) ?hiz43 (by kernel_rfl) (by kernel_rfl) (by kernel_rfl) ?hQz43 ?hyz43 (by assumption) ?restz43
        case hiz43 => simp only [List.getElem?_toArray, List.getElem?_cons_zero, List.getElem?_cons_succ]; rfl
        case hQz43 => exact fun _ _ _ h => h
        case hyz43 => exact Or.inl ⟨by rfl, by intro w hSw; (try dsimp only at hSw); go_simp; with_reducible rfl⟩
        try simp only [Act.put, List.setIfInBounds_toArray, List.set_cons_zero, List.set_cons_succ]
        refine wpAnyH_take (i := 2) (oi := ?oiz44) (v := (.int .u8 (q.length : Int))) ?hiz44 (by kernel_rfl) (by kernel_rfl) (by kernel_rfl) ?hQz44 ?hyz44 (by assumption) ?restz44
        case hiz44 => simp only [List.getElem?_toArray, List.getElem?_cons_zero, List.getElem?_cons_succ]; rfl
        case hQz44 => exact fun _ _ _ h => h
        case hyz44 => exact Or.inl ⟨by rfl, by intro w hSw; go_simp; first | done | (simp only [hW]; done) | (rw [hW]; done) | with_reducible rfl⟩
        try simp only [Act.put, List.setIfInBounds_toArray, List.set_cons_zero, List.set_cons_succ]
        refine wpAnyH_take (i := 5) (oi := ?oiz45) (v := ?vz45) ?hiz45 (by kernel_rfl) (by kernel_rfl) (by kernel_rfl) ?hQz45 ?hyz45 (by assumption) ?restz45
        case hiz45 => simp only [List.getElem?_toArray, List.getElem?_cons_zero, List.getElem?_cons_succ]; rfl
        case hQz45 => exact fun _ _ _ h => h
        case hyz45 => exact Or.inl ⟨by rfl, by intro w hSw; have p0 := hSw.at_ 0 rfl; go_simp; with_reducible rfl⟩
        try simp only [Act.put, List.setIfInBounds_toArray, List.set_cons_zero, List.set_cons_succ]
        refine wpAnyH_take (i := 6) (oi := ?oiz46) (v := ?vz46) ?hiz46 (by kernel_rfl) (by kernel_rfl) (by kernel_rfl) ?hQz46 ?hyz46 (by assumption) ?restz46
        case hiz46 => simp only [List.getElem?_toArray, List.getElem?_cons_zero, List.getElem?_cons_succ]; rfl
        case hQz46 => exact fun _ _ _ h => h
        case hyz46 => exact Or.inl ⟨by rfl, by intro w hSw; (try dsimp only at hSw); go_simp; with_reducible rfl⟩
        try simp only [Act.put, List.setIfInBounds_toArray, List.set_cons_zero, List.set_cons_succ]
        refine wpAnyH_take (i := 7) (oi := ?oiz47) (v := ?vz47) ?hiz47 (by kernel_rfl) (by kernel_rfl) (by kernel_rfl) ?hQz47 ?hyz47 (by assumption) ?restz47
        case hiz47 => simp only [List.getElem?_toArray, List.getElem?_cons_zero, List.getElem?_cons_succ]; rfl
        case hQz47 => exact fun _ _ _ h => h
        case hyz47 => exact Or.inl ⟨by rfl, by intro w hSw; (try dsimp only at hSw); go_simp; with_reducible rfl⟩
        try simp only [Act.put, List.setIfInBounds_toArray, List.set_cons_zero, List.set_cons_succ]
        refine wpAnyH_ready (rs := [0, 3]) (by kernel_rfl) (by simp) (AllReadyH.cons (o := ?oy480) ?hy480 (fun K hK => ?sy480) (AllReadyH.cons (o := ?oy483) ?hy483 (fun K hK => ?sy483) AllReadyH.nil))
        case hy480 => simp only [List.getElem?_toArray, List.getElem?_cons_zero, List.getElem?_cons_succ]; rfl
        case hy483 => simp only [List.getElem?_toArray, List.getElem?_cons_zero, List.getElem?_cons_succ]; rfl
        case sy480 =>
          have HX := HDd
          have s1 := HX.out.bo.at_ 0 rfl
          go_simp
          refine hK.out _ _ hHeld (fun _ => ?_)
          clear hK K s1
          try simp only [Act.put, List.setIfInBounds_toArray, List.set_cons_zero, List.set_cons_succ]
          clear HX
          refine wpAnyH_ready (rs := [3]) (by kernel_rfl) (by simp) (AllReadyH.cons (o := ?oy493) ?hy493 (fun K hK => ?sy493) AllReadyH.nil)
          case hy493 => simp only [List.getElem?_toArray, List.getElem?_cons_zero, List.getElem?_cons_succ]; rfl
          go_simp
          have hH2 : Blk (wd.alloc (.cells #[.int .u8 0, .int .u8 (q.length : Int)] 5)) gp 22 #[.slice (some ⟨g, o, none⟩) q.length c1] := hHeld.alloc _
          refine hK.out _ _ hH2 (fun _ => ?_)
          clear hK K hHeld
          have hHeld := hH2
          clear hH2
          try simp only [Act.put, List.setIfInBounds_toArray, List.set_cons_zero, List.set_cons_succ]
          have HDe := Lib.hid (HDd.out.on (ext_alloc wd (.cells #[.int .u8 0, .int .u8 (q.length : Int)] 5)))
          clear HDd
          refine wpAnyH_ready (rs := [4]) (by kernel_rfl) (by simp) (AllReadyH.cons (o := ?oy504) ?hy504 (fun K hK => ?sy504) AllReadyH.nil)
          case hy504 => simp only [List.getElem?_toArray, List.getElem?_cons_zero, List.getElem?_cons_succ]; rfl
          refine stp_append rowByte rfl _ _ rfl (v := .slice C cn cc) rfl HDe.out.o _ _ rfl (A := some ⟨wd.heap.size, 0, none⟩) (ys := [0, (q.length : Int)]) rfl (rd_two wd 0 (q.length : Int) _) (ok2 (by omega) (by omega)) (by simp only [List.length_cons, List.length_nil]; omega) HDe.out.ext.size ?_
          intro v4 w4 ho1 hg1 hat1
          obtain ⟨C4, n4, c4, rfl⟩ := ho1.shape3
          have HD4 := Lib.hid (HDe.out.app ho1 (Go1.app hg1 hat1))
          have hH2 := HD4.out.bp
          clear ho1 hg1 hat1 HDe
          refine hK.out _ _ hH2 (fun _ => ?_)
          clear hK K hHeld
          have hHeld := hH2
          clear hH2
          try simp only [Act.put, List.setIfInBounds_toArray, List.set_cons_zero, List.set_cons_succ]
          refine wpAnyH_ready (rs := [8]) (by kernel_rfl) (by simp) (AllReadyH.cons (o := ?oy518) ?hy518 (fun K hK => ?sy518) AllReadyH.nil)
          case hy518 => simp only [List.getElem?_toArray, List.getElem?_cons_zero, List.getElem?_cons_succ]; rfl
          refine stp_append rowByte rfl _ _ rfl (v := .slice C4 n4 c4) rfl HD4.out.o _ _ rfl (A := some ⟨g, o, none⟩) (ys := q.take q.length) (by simp only [List.length_take]; omega) (HD4.out.p.rd.2.2.2.2.head8 q.length (by omega)) (fun x hx => HQB.out x (List.mem_of_mem_take hx)) (by simp only [List.length_append, List.length_take, List.length_cons, List.length_nil]; omega) HD4.out.ext.size ?_
          intro v5 w5 ho1 hg1 hat1
          obtain ⟨C5, n5, c5, rfl⟩ := ho1.shape3
          have HD5 := Lib.hid (HD4.out.app ho1 (Go1.app hg1 hat1))
          have hH2 := HD5.out.bp
          clear ho1 hg1 hat1 HD4
          refine hK.out _ _ hH2 (fun _ => ?_)
          clear hK K hHeld
          have hHeld := hH2
          clear hH2
          try simp only [Act.put, List.setIfInBounds_toArray, List.set_cons_zero, List.set_cons_succ]
          refine wpAnyH_ready (rs := [9]) (by kernel_rfl) (by simp) (AllReadyH.cons (o := ?oy529) ?hy529 (fun K hK => ?sy529) AllReadyH.nil)
          case hy529 => simp only [List.getElem?_toArray, List.getElem?_cons_zero, List.getElem?_cons_succ]; rfl
          have s3 := HD5.out.bo.at_ 0 rfl
          have t3 := HD5.out.bo.free 0
          go_simp
          have HD6 := Lib.hid HD5.out.setO
          have hH2 := HD6.out.bp
          clear s3 t3
          refine hK.out _ _ hH2 (fun _ => ?_)
          clear hK K hHeld
          have hHeld := hH2
          clear hH2
          try simp only [Act.put, List.setIfInBounds_toArray, List.set_cons_zero, List.set_cons_succ]
          refine wpAnyH_done (by kernel_rfl) ?_ _
          clear hHeld
          generalize w5.setCell ⟨go, 0, none⟩ (.slice C5 n5 c5) = w6 at HD6 ⊢
          clear HD5
          have s4 := HD6.out.bp.at_ 0 rfl
          have t4 := HD6.out.bp.free 0
          have hc := HD6.out.p.cut q.length (by omega)
          rw [if_neg hcn] at hc
          rw [Nat.sub_self] at hc
          have HD7 := Lib.hid ((HD6.out.cutP hc rfl).setP)
          clear hc
          go_wp2_with fail
          go_roundw
          case rel => exact ⟨q.drop q.length, _, _, _, HD7.out, by rw [HF.out, HSTEP.out]; (try simp only [List.append_assoc]); (try rfl), by simp only [List.length_append, List.length_take, List.length_drop, List.length_cons, List.length_nil]; omega, by rw [List.length_drop]; omega⟩
          case measure =>
            have h7 := varLen_is HD7.out.bp
            rw [HVL.out]
            refine Nat.lt_of_le_of_lt (Nat.le_of_eq h7) ?_
            simp only [lenV]
            omega
        case sy483 =>
          go_simp
          have hH2 : Blk (wd.alloc (.cells #[.int .u8 0, .int .u8 (q.length : Int)] 5)) gp 22 #[.slice (some ⟨g, o, none⟩) q.length c1] := hHeld.alloc _
          refine hK.out _ _ hH2 (fun _ => ?_)
          clear hK K hHeld
          have hHeld := hH2
          clear hH2
          try simp only [Act.put, List.setIfInBounds_toArray, List.set_cons_zero, List.set_cons_succ]
          have HX := Lib.hid (HDd.out.on (ext_alloc wd (.cells #[.int .u8 0, .int .u8 (q.length : Int)] 5)))
          refine wpAnyH_ready (rs := [0]) (by kernel_rfl) (by simp) (AllReadyH.cons (o := ?oy530) ?hy530 (fun K hK => ?sy530) AllReadyH.nil)
          case hy530 => simp only [List.getElem?_toArray, List.getElem?_cons_zero, List.getElem?_cons_succ]; rfl
          have s1 := HX.out.bo.at_ 0 rfl
          go_simp
          refine hK.out _ _ hHeld (fun _ => ?_)
          clear hK K s1
          try simp only [Act.put, List.setIfInBounds_toArray, List.set_cons_zero, List.set_cons_succ]
          clear HX
          have HDe := Lib.hid (HDd.out.on (ext_alloc wd (.cells #[.int .u8 0, .int .u8 (q.length : Int)] 5)))
          clear HDd
          refine wpAnyH_ready (rs := [4]) (by kernel_rfl) (by simp) (AllReadyH.cons (o := ?oy544) ?hy544 (fun K hK => ?sy544) AllReadyH.nil)
          case hy544 => simp only [List.getElem?_toArray, List.getElem?_cons_zero, List.getElem?_cons_succ]; rfl
          refine stp_append rowByte rfl _ _ rfl (v := .slice C cn cc) rfl HDe.out.o _ _ rfl (A := some ⟨wd.heap.size, 0, none⟩) (ys := [0, (q.length : Int)]) rfl (rd_two wd 0 (q.length : Int) _) (ok2 (by omega) (by omega)) (by simp only [List.length_cons, List.length_nil]; omega) HDe.out.ext.size ?_
          intro v4 w4 ho1 hg1 hat1
          obtain ⟨C4, n4, c4, rfl⟩ := ho1.shape3
          have HD4 := Lib.hid (HDe.out.app ho1 (Go1.app hg1 hat1))
          have hH2 := HD4.out.bp
          clear ho1 hg1 hat1 HDe
          refine hK.out _ _ hH2 (fun _ => ?_)
          clear hK K hHeld
          have hHeld := hH2
          clear hH2
          try simp only [Act.put, List.setIfInBounds_toArray, List.set_cons_zero, List.set_cons_succ]
          refine wpAnyH_ready (rs := [8]) (by kernel_rfl) (by simp) (AllReadyH.cons (o := ?oy558) ?hy558 (fun K hK => ?sy558) AllReadyH.nil)
          case hy558 => simp only [List.getElem?_toArray, List.getElem?_cons_zero, List.getElem?_cons_succ]; rfl
          refine stp_append rowByte rfl _ _ rfl (v := .slice C4 n4 c4) rfl HD4.out.o _ _ rfl (A := some ⟨g, o, none⟩) (ys := q.take q.length) (by simp only [List.length_take]; omega) (HD4.out.p.rd.2.2.2.2.head8 q.length (by omega)) (fun x hx => HQB.out x (List.mem_of_mem_take hx)) (by simp only [List.length_append, List.length_take, List.length_cons, List.length_nil]; omega) HD4.out.ext.size ?_
          intro v5 w5 ho1 hg1 hat1
          obtain ⟨C5, n5, c5, rfl⟩ := ho1.shape3
          have HD5 := Lib.hid (HD4.out.app ho1 (Go1.app hg1 hat1))
          have hH2 := HD5.out.bp
          clear ho1 hg1 hat1 HD4
          refine hK.out _ _ hH2 (fun _ => ?_)
          clear hK K hHeld
          have hHeld := hH2
          clear hH2
          try simp only [Act.put, List.setIfInBounds_toArray, List.set_cons_zero, List.set_cons_succ]
          refine wpAnyH_ready (rs := [9]) (by kernel_rfl) (by simp) (AllReadyH.cons (o := ?oy569) ?hy569 (fun K hK => ?sy569) AllReadyH.nil)
          case hy569 => simp only [List.getElem?_toArray, List.getElem?_cons_zero, List.getElem?_cons_succ]; rfl
          have s3 := HD5.out.bo.at_ 0 rfl
          have t3 := HD5.out.bo.free 0
          go_simp
          have HD6 := Lib.hid HD5.out.setO
          have hH2 := HD6.out.bp
          clear s3 t3
          refine hK.out _ _ hH2 (fun _ => ?_)
          clear hK K hHeld
          have hHeld := hH2
          clear hH2
          try simp only [Act.put, List.setIfInBounds_toArray, List.set_cons_zero, List.set_cons_succ]
          refine wpAnyH_done (by kernel_rfl) ?_ _
          clear hHeld
          generalize w5.setCell ⟨go, 0, none⟩ (.slice C5 n5 c5) = w6 at HD6 ⊢
          clear HD5
          have s4 := HD6.out.bp.at_ 0 rfl
          have t4 := HD6.out.bp.free 0
          have hc := HD6.out.p.cut q.length (by omega)
          rw [if_neg hcn] at hc
          rw [Nat.sub_self] at hc
          have HD7 := Lib.hid ((HD6.out.cutP hc rfl).setP)
          clear hc
          go_wp2_with fail
          go_roundw
          case rel => exact ⟨q.drop q.length, _, _, _, HD7.out, by rw [HF.out, HSTEP.out]; (try simp only [List.append_assoc]); (try rfl), by simp only [List.length_append, List.length_take, List.length_drop, List.length_cons, List.length_nil]; omega, by rw [List.length_drop]; omega⟩
          case measure =>
            have h7 := varLen_is HD7.out.bp
            rw [HVL.out]
            refine Nat.lt_of_le_of_lt (Nat.le_of_eq h7) ?_
            simp only [lenV]
            omega
end Go.Proofs.Yteegnbdgfedajaa
/- The program's number of bytes. No condition. -/
namespace Go.Proofs.Yteegnbdgfedajaa
open Go.RowKit
set_option linter.unusedVariables false
set_option linter.unusedSimpArgs false

set_option maxHeartbeats 1000000 in
set_option maxRecDepth 100000 in
theorem littleNumber_any (v : Value) (xs : List Int) (w : World) (S : Nat → Prop) (h : RdL tByte w S v xs) (hl : xs.length ≤ 7) :
    Calls Try.prog 84 #[v] w fun e w' => e = .returned (.int .u64 (littleN xs)) ∧ w = w' := by
  obtain ⟨A, cap, rfl, hcap, hlen, hrd, hok⟩ := h
  have Hrd := Lib.hid (show Rd w S 1 A xs.length (nums .u8 xs) by rw [← flat_bytes]; exact hrd)
  have Hok := Lib.hid hok
  clear hrd hok
  go_enter Try.func84, Try.ntmps84
  go_wp2
  go_loop [3, 8] (fun q i => ∃ k : Nat, k ≤ xs.length ∧ i = .int .i64 k ∧ q = .int .u64 (littleN (xs.take k))) (fun _ i => xs.length - (intOf i).toNat)
  case atStart => exact ⟨0, by omega, rfl, by simp [littleN]⟩
  case round =>
    obtain ⟨k, hk, rfl, rfl⟩ := hrel
    by_cases hlt : k < xs.length
    · obtain ⟨g, o, rfl, hs, hc⟩ := (Hrd.out).byte k hlt
      have hb := B8.get Hok.out k
      go_wp2
      go_round
      case rel => exact ⟨k + 1, by omega, by go_num, by rw [little_step xs Hok.out k hlt (by omega)]⟩
      case measure => simp [intOf]; omega
    · go_wp2
      go_ret
      obtain rfl : k = xs.length := by omega
      rw [List.take_length]
      exact ⟨rfl, rfl⟩

end Go.Proofs.Yteegnbdgfedajaa
/- Mixing of blocks into a state: the words. No condition. -/
namespace Go.Proofs.Yteegnbdgfedajaa
open Go.RowKit
set_option linter.unusedVariables false
set_option linter.unusedSimpArgs false

set_option maxHeartbeats 1000000 in
set_option maxRecDepth 100000 in
theorem l01Turn_7 (x : Int) (w : World) : Calls Try.prog 134 #[.int .u32 x, .int .u64 7] w fun e w' => e = .returned (.int .u32 (turn7 x)) ∧ w = w' := by
  unfold turn7
  go_enter Try.func134, Try.ntmps134
  go_wp2
  go_ret
  exact ⟨rfl, rfl⟩
set_option maxHeartbeats 1000000 in
set_option maxRecDepth 100000 in
theorem l01Turn_13 (x : Int) (w : World) : Calls Try.prog 134 #[.int .u32 x, .int .u64 13] w fun e w' => e = .returned (.int .u32 (turn13 x)) ∧ w = w' := by
  unfold turn13
  go_enter Try.func134, Try.ntmps134
  go_wp2
  go_ret
  exact ⟨rfl, rfl⟩
set_option maxHeartbeats 1000000 in
set_option maxRecDepth 100000 in
theorem rot_7 (x : Int) (w : World) : Calls Try.prog 135 #[.int .u32 x, .int .i64 7] w fun e w' => e = .returned (.int .u32 (turn7 x)) ∧ w = w' := by
  have hb : bits .and .u64 7 31 = 7 := by decide
  unfold turn7
  go_enter Try.func135, Try.ntmps135
  go_wp2
  go_ret
  exact ⟨rfl, rfl⟩
set_option maxHeartbeats 1000000 in
set_option maxRecDepth 100000 in
theorem rot_13 (x : Int) (w : World) : Calls Try.prog 135 #[.int .u32 x, .int .i64 13] w fun e w' => e = .returned (.int .u32 (turn13 x)) ∧ w = w' := by
  have hb : bits .and .u64 13 31 = 13 := by decide
  unfold turn13
  go_enter Try.func135, Try.ntmps135
  go_wp2
  go_ret
  exact ⟨rfl, rfl⟩
set_option maxHeartbeats 1000000 in
set_option maxRecDepth 100000 in
theorem l01Start_any (tag : Int) (h : 0 ≤ tag ∧ tag ≤ 255) (w : World) : Calls Try.prog 119 #[.int .u8 tag] w fun e w' => e = .returned (.agg (numsA .u32 (startL tag))) ∧ Ext w w' := by
  go_enter Try.func119, Try.ntmps119
  go_wp2
  go_loopw [4] (fun i wr => ∃ (k : Nat) (z : Array Value), k ≤ 8 ∧ i = .int .i64 k ∧ z.size = 8 ∧ Blk wr w.heap.size 155 z ∧ Blk wr (w.heap.size + 1) 155 (numsA .u32 ((List.range k).map (fun (i : Nat) => 16777619 * ((i : Int) + 1) + tag) ++ List.replicate (8 - k) 0)) ∧ Ext w wr) (fun i _ => 8 - (intOf i).toNat)
  case atStart => exact ⟨0, _, by omega, rfl, rfl, (Blk.new _ _ _).alloc _, Blk.new' (by simp) _ _, (ext_alloc _ _).alloc _⟩
  case round =>
    obtain ⟨k, z, hk, rfl, hz, hb1, hb2, hx⟩ := hrel
    have HX := Lib.hid hx
    have HB1 := Lib.hid hb1
    have HB2 := Lib.hid hb2
    clear hx hb1 hb2
    by_cases hlt : k < 8
    · have hc := HB2.out.num k (by simp; omega)
      have hf := HB2.out.free k
      go_wp2
      go_roundw
      case rel =>
        have h2 := HB2.out.set k (.int .u32 (16777619 * ((k : Int) + 1) + tag))
        rw [numsA_set, mapRange_set (fun (i : Nat) => 16777619 * ((i : Int) + 1) + tag) 8 k hlt] at h2
        exact ⟨k + 1, z, by omega, by go_num, hz, HB1.out.far (by simp) _, h2, HX.out.set (by simp) _⟩
      case measure => simp [intOf]; omega
    · obtain rfl : k = 8 := by omega
      have hb := HB2.out
      rw [Nat.sub_self, List.replicate_zero, List.append_nil] at hb
      have hst : (List.range 8).map (fun (i : Nat) => 16777619 * ((i : Int) + 1) + tag) = startL tag := by rw [startL]
      rw [hst] at hb
      have HB := Lib.hid hb
      clear hb hst
      go_wp2_with (first
        | (refine wpl_loadN HB.out aggU32 (startL_length tag) rfl _ rfl rfl ?_)
        | (refine wpl_storeN HB1.out aggU32 (startL_length tag) hz rfl _ _ rfl rfl rfl rfl ?_))
      refine bodyPost_ret (results_blk rfl _ rfl aggU32 (startL_length tag) (HB1.out.setRow _)) rfl ?_
      exact ⟨rfl, HX.out.setRow (Nat.le_refl _) _⟩
set_option maxHeartbeats 1000000 in
set_option maxRecDepth 100000 in
theorem startState_any (tag : Int) (h : 0 ≤ tag ∧ tag ≤ 255) (w : World) : Calls Try.prog 127 #[.int .u8 tag] w fun e w' => e = .returned (.agg (numsA .u32 (startL tag))) ∧ Ext w w' := by
  go_enter Try.func127, Try.ntmps127
  go_wp2
  go_loopw [6] (fun i wr => ∃ (k : Nat) (z : Array Value), k ≤ 8 ∧ i = .int .i64 k ∧ z.size = 8 ∧ Blk wr w.heap.size 155 z ∧ Blk wr (w.heap.size + 1) 155 (numsA .u32 ((List.range k).map (fun (i : Nat) => 16777619 * ((i : Int) + 1) + tag) ++ List.replicate (8 - k) 0)) ∧ Ext w wr) (fun i _ => 8 - (intOf i).toNat)
  case atStart => exact ⟨0, _, by omega, rfl, rfl, (Blk.new _ _ _).alloc _, Blk.new' (by simp) _ _, (ext_alloc _ _).alloc _⟩
  case round =>
    obtain ⟨k, z, hk, rfl, hz, hb1, hb2, hx⟩ := hrel
    have HX := Lib.hid hx
    have HB1 := Lib.hid hb1
    have HB2 := Lib.hid hb2
    clear hx hb1 hb2
    by_cases hlt : k < 8
    · have hc := HB2.out.num k (by simp; omega)
      have hf := HB2.out.free k
      go_wp2
      go_roundw
      case rel =>
        have h2 := HB2.out.set k (.int .u32 (16777619 * ((k : Int) + 1) + tag))
        rw [numsA_set, mapRange_set (fun (i : Nat) => 16777619 * ((i : Int) + 1) + tag) 8 k hlt] at h2
        exact ⟨k + 1, z, by omega, by go_num, hz, HB1.out.far (by simp) _, h2, HX.out.set (by simp) _⟩
      case measure => simp [intOf]; omega
    · obtain rfl : k = 8 := by omega
      have hb := HB2.out
      rw [Nat.sub_self, List.replicate_zero, List.append_nil] at hb
      have hst : (List.range 8).map (fun (i : Nat) => 16777619 * ((i : Int) + 1) + tag) = startL tag := by rw [startL]
      rw [hst] at hb
      have HB := Lib.hid hb
      clear hb hst
      go_wp2_with (first
        | (refine wpl_loadN HB.out aggU32 (startL_length tag) rfl _ rfl rfl ?_)
        | (refine wpl_storeN HB1.out aggU32 (startL_length tag) hz rfl _ _ rfl rfl rfl rfl ?_))
      refine bodyPost_ret (results_blk rfl _ rfl aggU32 (startL_length tag) (HB1.out.setRow _)) rfl ?_
      exact ⟨rfl, HX.out.setRow (Nat.le_refl _) _⟩

end Go.Proofs.Yteegnbdgfedajaa
/- The program's mixing of a block into a state. No condition. -/
namespace Go.Proofs.Yteegnbdgfedajaa
open Go.RowKit
set_option linter.unusedVariables false
set_option linter.unusedSimpArgs false

set_option maxHeartbeats 8000000 in
set_option maxRecDepth 100000 in
theorem mixBlock_any (st b : List Int) (hs : st.length = 8) (hu : U32 st) (hk : K32 b) (w : World) : Calls Try.prog 133 #[.agg (numsA .u32 st), .agg (numsA .u8 b)] w fun e w' => e = .returned (.agg (numsA .u32 (mixL st b))) ∧ Ext w w' := by
  have HU := Lib.hid hu
  have HK := Lib.hid hk
  have HS := Lib.hid hs
  clear hu hk hs
  go_enter Try.func133, Try.ntmps133
  go_wp2_with fail
  go_loopw [14] (fun i wr => ∃ (k : Nat) (z : Array Value), k ≤ 8 ∧ i = .int .i64 k ∧ z.size = 8 ∧ Blk wr w.heap.size 155 (numsA .u32 st) ∧ Blk wr (w.heap.size + 1) 39 (numsA .u8 b) ∧ Blk wr (w.heap.size + 2) 155 z ∧ Blk wr (w.heap.size + 3) 155 (numsA .u32 ((List.range k).map (word b) ++ List.replicate (8 - k) 0)) ∧ Ext w wr) (fun i _ => 8 - (intOf i).toNat)
  case atStart => exact ⟨0, _, by omega, rfl, rfl, ((((Blk.new _ _ _).alloc _).alloc _).alloc _), ((Blk.new' (by simp) _ _).alloc _).alloc _, (Blk.new' (by simp) _ _).alloc _, Blk.new' (by simp) _ _, (((ext_alloc _ _).alloc _).alloc _).alloc _⟩
  case round =>
    obtain ⟨k, z, hk, rfl, hz, hb1, hb2, hb3, hb4, hx⟩ := hrel
    have HX := Lib.hid hx
    have HB1 := Lib.hid hb1
    have HB2 := Lib.hid hb2
    have HB3 := Lib.hid hb3
    have HB4 := Lib.hid hb4
    clear hx hb1 hb2 hb3 hb4
    by_cases hlt : k < 8
    · have hl : ((List.range k).map (word b) ++ List.replicate (8 - k) 0).length = 8 := by simp; omega
      have hc := HB4.out.num k (by omega)
      have hf := HB4.out.free k
      have hN := mapRange_set (word b) 8 k hlt
      generalize (List.range k).map (word b) ++ List.replicate (8 - k) 0 = M at *
      have HN := Lib.hid hN
      clear hN
      have hw : 0 ≤ word b k ∧ word b k ≤ 4294967295 := by
        have h1 := littleN_bound ((b.drop (4 * k)).take 4) ((HK.out.2.drop _).take _)
        have h2 : ((b.drop (4 * k)).take 4).length = 4 := by simp [HK.out.1]; omega
        rw [h2] at h1
        unfold word
        omega
      have HLN := Lib.hid (littleNumber_any (.slice (some ⟨w.heap.size + 1, 4 * k, none⟩) 4 (32 - 4 * k)) ((b.drop (4 * k)).take 4) wr (fun _ => True) ⟨some ⟨w.heap.size + 1, 4 * k, none⟩, 32 - 4 * k, by simp [HK.out.1]; omega, by simp [HK.out.1]; omega, by simp; omega, by
        refine ⟨by rw [flat_bytes, nums_length]; exact (Nat.mul_one _).symm, fun _ => ⟨_, _, rfl, trivial, fun j u hu => ?_⟩⟩
        rw [flat_bytes] at hu
        rw [HB2.out.cell]
        have hj : j < 4 := by
          have := (List.getElem?_eq_some_iff.1 hu).1
          rw [nums_length, List.length_take] at this
          omega
        rw [← hu]
        simp [numsA, nums, List.getElem?_take, hj], (HK.out.2.drop _).take _⟩ (by simp; omega))
      have hwd : littleN ((b.drop (4 * k)).take 4) = word b k := by unfold word; rfl
      rw [hwd] at HLN
      clear hwd
      generalize word b k = W at *
      have hw0 := hw.1
      have hw1 := hw.2
      have e0 : IntKind.i64.wrap (4 * (k : Int)) = 4 * k := IntWalk.i64_in _ (by omega)
      have e1 : IntKind.i64.wrap (4 * (k : Int) + 4) = 4 * k + 4 := IntWalk.i64_in _ (by omega)
      have e2 : (4 * (k : Int) + 4).toNat = 4 * k + 4 := by omega
      have e3 : (4 * (k : Int)).toNat = 4 * k := by omega
      have e4 : ¬ 32 = 4 * k := by omega
      have e5 : 4 * k + 4 - 4 * k = 4 := by omega
      have A0 : (0 : Int) ≤ 4 * k := by omega
      have A1 : (4 * (k : Int)) ≤ 4 * k + 4 := by omega
      have A2 : (4 * (k : Int) + 4) ≤ 32 := by omega
      clear hw
      go_wp2_with (go_at_call 84; refine (HLN.out).mono ?_; rintro e w' ⟨rfl, rfl⟩)
      go_roundw
      case rel =>
        have h4 := HB4.out.set k (.int .u32 W)
        rw [numsA_set, HN.out] at h4
        exact ⟨k + 1, z, by omega, by go_num, hz, HB1.out.far (by simp; omega) _, HB2.out.far (by simp) _, HB3.out.far (by simp) _, h4, HX.out.set (by simp; omega) _⟩
      case measure => simp [intOf]; omega
    · obtain rfl : k = 8 := by omega
      go_wp2_with (first
        | (refine wpl_loadN HB1.out aggU32 HS.out rfl _ rfl rfl ?_)
        | (refine wpl_storeN (Blk.new wr _ _) aggU32 HS.out rfl rfl _ _ rfl rfl rfl rfl ?_))
      have h4 := HB4.out
      rw [Nat.sub_self, List.replicate_zero, List.append_nil, ← words_eq] at h4
      have h5 : Blk _ wr.heap.size 155 (numsA .u32 st) := (Blk.new wr 155 #[Value.int IntKind.u32 0, Value.int IntKind.u32 0, Value.int IntKind.u32 0, Value.int IntKind.u32 0, Value.int IntKind.u32 0, Value.int IntKind.u32 0, Value.int IntKind.u32 0, Value.int IntKind.u32 0]).setRow (numsA .u32 st)
      have lt4 := h4.lt
      have n1 : w.heap.size ≠ wr.heap.size := by omega
      have n3 : w.heap.size + 2 ≠ wr.heap.size := by omega
      have n4 : w.heap.size + 3 ≠ wr.heap.size := by omega
      have hgs : w.heap.size + 4 ≤ wr.heap.size := by omega
      have hx0 := (HX.out.alloc (.cells #[Value.int IntKind.u32 0, Value.int IntKind.u32 0, Value.int IntKind.u32 0, Value.int IntKind.u32 0, Value.int IntKind.u32 0, Value.int IntKind.u32 0, Value.int IntKind.u32 0, Value.int IntKind.u32 0] 155)).setRow HX.out.size (numsA .u32 st)
      have hb1 := (HB1.out.alloc (.cells #[Value.int IntKind.u32 0, Value.int IntKind.u32 0, Value.int IntKind.u32 0, Value.int IntKind.u32 0, Value.int IntKind.u32 0, Value.int IntKind.u32 0, Value.int IntKind.u32 0, Value.int IntKind.u32 0] 155)).row_far n1 (numsA .u32 st)
      have hb3 := (HB3.out.alloc (.cells #[Value.int IntKind.u32 0, Value.int IntKind.u32 0, Value.int IntKind.u32 0, Value.int IntKind.u32 0, Value.int IntKind.u32 0, Value.int IntKind.u32 0, Value.int IntKind.u32 0, Value.int IntKind.u32 0] 155)).row_far n3 (numsA .u32 st)
      have hb4 := (h4.alloc (.cells #[Value.int IntKind.u32 0, Value.int IntKind.u32 0, Value.int IntKind.u32 0, Value.int IntKind.u32 0, Value.int IntKind.u32 0, Value.int IntKind.u32 0, Value.int IntKind.u32 0, Value.int IntKind.u32 0] 155)).row_far n4 (numsA .u32 st)
      clear h4 lt4 HB1 HB2 HB3 HB4 HX n1 n3 n4
      generalize wr.heap.size = gs at *
      have HW := Lib.hid (words_eq b)
      go_loopw [29] (fun i wq => ∃ r : Nat, r ≤ 12 ∧ i = .int .i64 r ∧ Blk wq w.heap.size 155 (numsA .u32 st) ∧ Blk wq (w.heap.size + 2) 155 z ∧ Blk wq (w.heap.size + 3) 155 (numsA .u32 (words b)) ∧ Blk wq gs 155 (numsA .u32 (mixOut (words b) r st)) ∧ Ext w wq) (fun i _ => 12 - (intOf i).toNat)
      case atStart => exact ⟨0, by omega, rfl, hb1, hb3, hb4, by rw [mixOut_zero]; exact h5, hx0⟩
      case round =>
        clear hx0 hb1 hb3 hb4 h5
        obtain ⟨r, hr, rfl, hb1, hb3, hb4, hb5, hx⟩ := hrel
        have HX := Lib.hid hx
        have HB1 := Lib.hid hb1
        have HB3 := Lib.hid hb3
        have HB4 := Lib.hid hb4
        have HB5 := Lib.hid hb5
        clear hx hb1 hb3 hb4 hb5
        by_cases hlr : r < 12
        · go_wp2_with fail
          have hd12 : decide ((r : Int) < 12) = true := by simp; omega
          simp only [hd12]
          go_loopw [32] (fun i wq => ∃ k : Nat, k ≤ 8 ∧ i = .int .i64 k ∧ Blk wq w.heap.size 155 (numsA .u32 st) ∧ Blk wq (w.heap.size + 2) 155 z ∧ Blk wq (w.heap.size + 3) 155 (numsA .u32 (words b)) ∧ Blk wq gs 155 (numsA .u32 (mixIn (words b) r k (mixOut (words b) r st))) ∧ Ext w wq) (fun i _ => 8 - (intOf i).toNat)
          case atStart => exact ⟨0, by omega, rfl, HB1.out, HB3.out, HB4.out, by rw [mixIn_zero]; exact HB5.out, HX.out⟩
          case round =>
            clear HX HB1 HB3 HB4 HB5
            obtain ⟨k, hk, rfl, hb1, hb3, hb4, hb5, hx⟩ := hrel
            have HX := Lib.hid hx
            have HB1 := Lib.hid hb1
            have HB3 := Lib.hid hb3
            have HB4 := Lib.hid hb4
            have HB5 := Lib.hid hb5
            clear hx hb1 hb3 hb4 hb5
            by_cases hlk : k < 8
            · have hl := (mixIn_length (words b) r k (mixOut (words b) r st)).trans ((mixOut_length (words b) r st).trans HS.out)
              have hu := mixIn_ok (words b) r k _ (mixOut_ok (words b) r st HU.out)
              have HE := Lib.hid (mixIn_succ (words b) r k (mixOut (words b) r st))
              generalize mixIn (words b) r k (mixOut (words b) r st) = s at *
              have p1 : (k + 3 * r) % 8 < 8 := Nat.mod_lt _ (by decide)
              have p2 : (k + 1) % 8 < 8 := Nat.mod_lt _ (by decide)
              have p3 : (k + 5) % 8 < 8 := Nat.mod_lt _ (by decide)
              have c0 := HB5.out.num k (by omega)
              have c1 := HB4.out.num ((k + 3 * r) % 8) (by rw [words_length]; omega)
              have c2 := HB5.out.num ((k + 1) % 8) (by omega)
              have c3 := HB5.out.num ((k + 5) % 8) (by omega)
              have hf := HB5.out.free k
              have u0 := hu.get k
              have u2 := hu.get ((k + 1) % 8)
              have u3 := hu.get ((k + 5) % 8)
              have q1 : ((k : Int) + 3 * r) % 8 = (((k + 3 * r) % 8 : Nat) : Int) := by omega
              have q2 : ((k : Int) + 1) % 8 = (((k + 1) % 8 : Nat) : Int) := by omega
              have q3 : ((k : Int) + 5) % 8 = (((k + 5) % 8 : Nat) : Int) := by omega
              generalize hj1 : (k + 3 * r) % 8 = j1 at *
              generalize hj2 : (k + 1) % 8 = j2 at *
              generalize hj3 : (k + 5) % 8 = j3 at *
              have J1 := Lib.hid hj1
              have J2 := Lib.hid hj2
              have J3 := Lib.hid hj3
              clear hj1 hj2 hj3 hu
              go_wp2_with fail
              go_quiet (fail)
              replace c0 := (show (wr.drewN nq).cell? _ = _ from c0)
              replace c2 := (show (wr.drewN nq).cell? _ = _ from c2)
              replace c3 := (show (wr.drewN nq).cell? _ = _ from c3)
              replace hf := (show (wr.drewN nq).frozen? _ = _ from hf)
              replace HX := Lib.hid (HX.out.drewN nq)
              replace HB1 := Lib.hid (HB1.out.drewN nq)
              replace HB3 := Lib.hid (HB3.out.drewN nq)
              replace HB4 := Lib.hid (HB4.out.drewN nq)
              replace HB5 := Lib.hid (HB5.out.drewN nq)
              clear c1
              generalize wr.drewN nq = wx at *
              go_wp2_with fail
              go_quiet ((go_at_call 135; exact Calls.quiet_of ((rot_7 _ _).mono fun e w' ⟨he, hw⟩ => ⟨he, 0, hw.symm⟩)))
              go_wp2_with (go_at_call 135; refine (rot_13 _ _).mono ?_; rintro e w' ⟨rfl, rfl⟩)
              go_roundw
              case rel =>
                have h5 := (HB5.out.drewN nq).set k (.int .u32 ((bits .xor .u32 (turn7 ((gI s k + gI (words b) j1 + 2654435769 * (8 * (r : Int) + (k : Int) + 1)) % 4294967296)) (gI s j2) + turn13 (gI s j3)) % 4294967296))
                rw [numsA_set] at h5
                have he := HE.out
                unfold mixStep at he
                rw [J1.out, J2.out, J3.out] at he
                rw [← he] at h5
                exact ⟨k + 1, by omega, by go_num, (HB1.out.drewN _).far (by simp; omega) _, (HB3.out.drewN _).far (by simp; omega) _, (HB4.out.drewN _).far (by simp; omega) _, h5, (HX.out.drewN _).set (by simp; omega) _⟩
              case measure => simp [intOf]; omega
            · obtain rfl : k = 8 := by omega
              go_wp2_with fail
              go_roundw
              case rel => exact ⟨r + 1, by omega, by go_num, HB1.out, HB3.out, HB4.out, by rw [mixOut_succ]; exact HB5.out, HX.out⟩
              case measure => simp [intOf]; omega
        · obtain rfl : r = 12 := by omega
          go_wp2_with fail
          have HL := Lib.hid ((mixOut_length (words b) 12 st).trans HS.out)
          have HE := Lib.hid (show mixL st b = xorIn st 8 (mixOut (words b) 12 st) by rw [mixL])
          generalize mixOut (words b) 12 st = s at *
          go_loopw [74] (fun i wq => ∃ k : Nat, k ≤ 8 ∧ i = .int .i64 k ∧ Blk wq w.heap.size 155 (numsA .u32 st) ∧ Blk wq (w.heap.size + 2) 155 z ∧ Blk wq gs 155 (numsA .u32 (xorIn st k s)) ∧ Ext w wq) (fun i _ => 8 - (intOf i).toNat)
          case atStart => exact ⟨0, by omega, rfl, HB1.out, HB3.out, by rw [xorIn_zero]; exact HB5.out, HX.out⟩
          case round =>
            clear HX HB1 HB3 HB4 HB5
            obtain ⟨k, hk, rfl, hb1, hb3, hb5, hx⟩ := hrel
            have HX := Lib.hid hx
            have HB1 := Lib.hid hb1
            have HB3 := Lib.hid hb3
            have HB5 := Lib.hid hb5
            clear hx hb1 hb3 hb5
            have hl := (xorIn_length st k s).trans HL.out
            by_cases hlk : k < 8
            · have c0 := HB5.out.num k (by omega)
              have c1 := HB1.out.num k (by rw [HS.out]; omega)
              have hf := HB5.out.free k
              have HE2 := Lib.hid (xorIn_succ st k s)
              generalize xorIn st k s = s1 at *
              go_wp2_with fail
              go_region
              go_wp2_with fail
              go_roundw
              case rel =>
                have h5 := HB5.out.set k (.int .u32 (bits .xor .u32 (gI s1 k) (gI st k)))
                rw [numsA_set, ← HE2.out] at h5
                exact ⟨k + 1, by omega, by go_num, (HB1.out.far (by simp; omega) _).drewN 1, (HB3.out.far (by simp; omega) _).drewN 1, h5.drewN 1, (HX.out.set (by simp; omega) _).drew⟩
              case measure => simp [intOf]; omega
            · obtain rfl : k = 8 := by omega
              rw [← HE.out] at HB5 hl
              go_wp2_with (first
                | (refine wpl_loadN HB5.out aggU32 hl rfl _ rfl rfl ?_)
                | (refine wpl_storeN HB3.out aggU32 hl hz rfl _ _ rfl rfl rfl rfl ?_))
              refine bodyPost_ret (results_blk rfl _ rfl aggU32 hl (HB3.out.setRow _)) rfl ?_
              exact ⟨rfl, HX.out.setRow (by omega) _⟩

end Go.Proofs.Yteegnbdgfedajaa
/- Two slices of bytes put together. No condition. -/
namespace Go.Proofs.Yteegnbdgfedajaa
open Go.RowKit
set_option linter.unusedVariables false
set_option linter.unusedSimpArgs false

set_option maxHeartbeats 1000000 in
set_option maxRecDepth 100000 in
theorem grow_any (n : Nat) (h0 : 0 < n) (hn : n ≤ 70368744177664) (w : World) : Calls Try.prog 132 #[.slice none 0 0, .int .i64 n] w fun e w' => ∃ v', e = .returned v' ∧ Own tByte 5 w' w.heap.size v' [] ∧ Ext w w' := by
  obtain ⟨i, z, hi, hz, hs, hby, hzs⟩ := rowByte.info
  have hr := Lib.run_append_nil_zeros (P := Try.prog) w 22 3 22 5 i z .i64 .i64 rowByte.ht (by kernel_rfl) hi hz n h0 (by rw [hs]; decide) (by omega) (by rw [hby]; omega)
  have hc1 := grownCap_ge w n 0 5
  have hc2 := grownCap_le_maxLen w n 0 5 (by simp only [maxLen]; omega)
  generalize grownCap w n 0 5 = c at *
  obtain ⟨row, hrow⟩ : ∃ row, row = Builtin.zeroCells z.cells n ++ Builtin.zeroCells z.cells (c - n) := ⟨_, rfl⟩
  have hsz : row.size = c := by rw [hrow, Array.size_append, size_zeroCells, size_zeroCells, hzs]; show n * 1 + (c - n) * 1 = c; omega
  rw [← hrow] at hr
  clear hrow
  have HR := Lib.hid hr
  have HC := Lib.hid hc2
  clear hr hc2 hi hz hs hby hzs
  go_enter Try.func132, Try.ntmps132
  go_wp2_with (at_builtin; refine Lib.wpList_append_run _ rfl _ _ _ _ rfl _ _ rfl rfl _ _ HR.out ?_)
  go_ret
  exact ⟨_, rfl, ⟨⟨by simp, .inr ⟨w.heap.size, c, row, rfl, Nat.le_refl _, heap_alloc_new w _, Nat.zero_le _, HC.out, by show row.size = c * 1; omega, by simp⟩⟩, by simp, by simp⟩, (ext_alloc w _).drew⟩

set_option maxHeartbeats 1000000 in
set_option maxRecDepth 100000 in
theorem concat2_any (g o : Nat) (v u : Value) (xs ys : List Int) (w : World) (S S' : Nat → Prop) (h : RdL tByte w S v xs) (h' : RdL tByte w S' u ys) (h0 : 0 < xs.length + ys.length) (hn : xs.length + ys.length ≤ 70368744177664)
    (c0 : w.cell? ⟨g, o, none⟩ = some v) (c1 : w.cell? ⟨g, o + 1, none⟩ = some u) :
    Calls Try.prog 122 #[.slice (some ⟨g, o, none⟩) 2 2] w fun e w' => ∃ v', e = .returned v' ∧ Own tByte 5 w' w.heap.size v' (xs ++ ys) ∧ Ext w w' := by
  have H := Lib.hid h
  have H' := Lib.hid h'
  obtain ⟨A, cap, rfl, hcap, hlen, _⟩ := h
  obtain ⟨A', cap', rfl, hcap', hlen', _⟩ := h'
  go_enter Try.func122, Try.ntmps122
  go_wp2_with fail
  go_loop [3, 11] (fun s i => (i = .int .i64 0 ∧ s = .int .i64 0) ∨ (i = .int .i64 1 ∧ s = .int .i64 xs.length) ∨ (i = .int .i64 2 ∧ s = .int .i64 (xs.length + ys.length : Nat))) (fun _ i => 2 - (intOf i).toNat)
  case atStart => exact .inl ⟨rfl, rfl⟩
  case round =>
    rcases hrel with ⟨rfl, rfl⟩ | ⟨rfl, rfl⟩ | ⟨rfl, rfl⟩
    · go_wp2_with fail
      go_round
      case rel => exact .inr (.inl ⟨rfl, rfl⟩)
      case measure => simp [intOf]
    · go_wp2_with fail
      go_round
      case rel => exact .inr (.inr ⟨rfl, by go_num⟩)
      case measure => simp [intOf]
    · have G := grow_any (xs.length + ys.length) h0 hn w
      have HG := Lib.hid G
      clear G
      go_wp2_with fail
      refine HG.out.mono ?_
      rintro e w1 ⟨v1, rfl, ho, hx⟩
      have HO := Lib.hid ho
      have HX := Lib.hid hx
      have c0' := hx.cell c0
      have c1' := hx.cell c1
      clear ho hx
      go_wp2_with fail
      go_loopw [6, 27] (fun v i wr => Ext w wr ∧ ((i = .int .i64 0 ∧ Own tByte 5 wr w.heap.size v []) ∨ (i = .int .i64 1 ∧ Own tByte 5 wr w.heap.size v xs) ∨ (i = .int .i64 2 ∧ Own tByte 5 wr w.heap.size v (xs ++ ys)))) (fun _ i _ => 2 - (intOf i).toNat)
      case atStart => exact ⟨HX.out, .inl ⟨rfl, HO.out⟩⟩
      case round =>
        clear HO HX c0' c1'
        obtain ⟨hx, hr⟩ := hrel
        have HX := Lib.hid hx
        have d0 := hx.cell c0
        have d1 := hx.cell c1
        clear hx
        rcases hr with ⟨rfl, ho⟩ | ⟨rfl, ho⟩ | ⟨rfl, ho⟩
        · obtain ⟨B, bn, bc, rfl⟩ := ho.shape3
          have HO := Lib.hid ho
          have hr := H.out.ext (by decide) HX.out
          obtain ⟨A2, cap2, he, _, _, hr1, hok1⟩ := hr
          injection he with e1 e2 e3
          subst e1 e3
          have HR := Lib.hid hr1
          have HK := Lib.hid hok1
          clear ho hr1 hok1
          go_wp2_with (at_builtin; refine wpl_append rowByte rfl _ _ rfl (v := .slice B bn bc) rfl HO.out _ _ rfl (ys := xs) (A := A) (S := S) rfl HR.out HK.out (by simp; omega) HX.out.size ?_; intro v1 w1 ho1 hg1 hat1; have HO1 := Lib.hid ho1; have HX1 := Lib.hid (HO.out.ext_app HX.out hg1); clear ho1 hg1 hat1)
          go_roundw
          case rel => exact ⟨HX1.out, .inr (.inl ⟨rfl, HO1.out⟩)⟩
          case measure => simp [intOf]
        · obtain ⟨B, bn, bc, rfl⟩ := ho.shape3
          have HO := Lib.hid ho
          have hr := H'.out.ext (by decide) HX.out
          obtain ⟨A2, cap2, he, _, _, hr1, hok1⟩ := hr
          injection he with e1 e2 e3
          subst e1 e3
          have HR := Lib.hid hr1
          have HK := Lib.hid hok1
          clear ho hr1 hok1
          go_wp2_with (at_builtin; refine wpl_append rowByte rfl _ _ rfl (v := .slice B bn bc) rfl HO.out _ _ rfl (ys := ys) (A := A') (S := S') rfl HR.out HK.out (by omega) HX.out.size ?_; intro v1 w1 ho1 hg1 hat1; have HO1 := Lib.hid ho1; have HX1 := Lib.hid (HO.out.ext_app HX.out hg1); clear ho1 hg1 hat1)
          go_roundw
          case rel => exact ⟨HX1.out, .inr (.inr ⟨rfl, HO1.out⟩)⟩
          case measure => simp [intOf]
        · have HO := Lib.hid ho
          clear ho
          go_wp2_with fail
          go_ret
          exact ⟨_, rfl, HO.out, HX.out⟩

end Go.Proofs.Yteegnbdgfedajaa
/- The program's key of bytes: the parts. No condition. -/
namespace Go.Proofs.Yteegnbdgfedajaa
open Go.RowKit
set_option linter.unusedVariables false
set_option linter.unusedSimpArgs false

set_option maxHeartbeats 1000000 in
set_option maxRecDepth 100000 in
theorem appendLittle_any (v : Value) (ys : List Int) (n : Int) (c : Nat) (w w0 : World) (h : Own tByte 5 w w0.heap.size v ys) (hx : Ext w0 w) (hn : 0 ≤ n ∧ n ≤ 18446744073709551615) (hc : c ≤ 8) (hl : ys.length ≤ 70368744177664) :
    Calls Try.prog 80 #[v, .int .u64 n, .int .i64 c] w fun e w' => ∃ v', e = .returned v' ∧ Own tByte 5 w' w0.heap.size v' (ys ++ bytesLE n c) ∧ Ext w0 w' := by
  obtain ⟨B, bn, bc, rfl⟩ := h.shape3
  have HO := Lib.hid h
  have HX := Lib.hid hx
  clear h hx
  go_enter Try.func80, Try.ntmps80
  go_wp2_with fail
  go_loopw [0, 9] (fun o i wr => ∃ k : Nat, k ≤ c ∧ i = .int .i64 k ∧ Own tByte 5 wr w0.heap.size o (ys ++ bytesLE n k) ∧ Ext w0 wr) (fun _ i _ => c - (intOf i).toNat)
  case atStart => exact ⟨0, by omega, rfl, by rw [bytesLE_zero, List.append_nil]; exact HO.out, HX.out⟩
  case round =>
    clear HO HX
    obtain ⟨k, hk, rfl, ho, hx⟩ := hrel
    have HO := Lib.hid ho
    have HX := Lib.hid hx
    obtain ⟨C, cn, cc, rfl⟩ := ho.shape3
    clear ho hx
    by_cases hlt : k < c
    · have hs2 := bytesLE_succ n k
      rw [pow256] at hs2
      have HS2 := Lib.hid hs2
      clear hs2
      go_wp2_with (at_builtin; refine wpl_append rowByte rfl _ _ rfl (v := .slice C cn cc) rfl (HO.out.alloc _) _ _ rfl (A := some ⟨wr.heap.size, 0, none⟩) (ys := [n / 2 ^ (8 * k) % 256]) rfl (rd_byte wr (n / 2 ^ (8 * k) % 256) (by omega) _) (okOne (by omega)) (by simp [bytesLE_length]; omega) (HX.out.alloc _).size ?_; intro v9 w9 ho1 hg1 hat1; have HX9 := Lib.hid ((HO.out.alloc _).ext_app (HX.out.alloc _) hg1); have HO9 := Lib.hid ho1; clear ho1 hg1 hat1)
      go_roundw
      case rel => exact ⟨k + 1, by omega, by go_num, by rw [HS2.out, ← List.append_assoc]; exact HO9.out, HX9.out⟩
      case measure => simp [intOf]; omega
    · obtain rfl : k = c := by omega
      go_wp2_with fail
      go_ret
      exact ⟨_, rfl, HO.out, HX.out⟩

end Go.Proofs.Yteegnbdgfedajaa
/- The program of a delta: the program. No condition. -/
namespace Go.Proofs.Yteegnbdgfedajaa
open Go.RowKit
set_option linter.unusedVariables false
set_option linter.unusedSimpArgs false

set_option maxHeartbeats 1000000 in
set_option maxRecDepth 100000 in
theorem appendLittle_g (v : Value) (ys : List Int) (n : Int) (c : Nat) (w : World) (b : Nat) (h : Own tByte 5 w b v ys) (hb : b ≤ w.heap.size) (hn : 0 ≤ n ∧ n ≤ 18446744073709551615) (hc : c ≤ 8) (hl : ys.length ≤ 70368744177664) :
    Calls Try.prog 80 #[v, .int .u64 n, .int .i64 c] w fun e w' => ∃ v', e = .returned v' ∧ Own tByte 5 w' b v' (ys ++ bytesLE n c) ∧ Go1 w w' v v' := by
  obtain ⟨B, bn, bc, rfl⟩ := h.shape3
  have HO := Lib.hid h
  clear h
  go_enter Try.func80, Try.ntmps80
  go_wp2_with fail
  go_loopw [0, 9] (fun o i wr => ∃ k : Nat, k ≤ c ∧ i = .int .i64 k ∧ Own tByte 5 wr b o (ys ++ bytesLE n k) ∧ Go1 w wr (.slice B bn bc) o) (fun _ i _ => c - (intOf i).toNat)
  case atStart => exact ⟨0, by omega, rfl, by rw [bytesLE_zero, List.append_nil]; exact HO.out, Go1.refl _ _⟩
  case round =>
    clear HO
    obtain ⟨k, hk, rfl, ho, hx⟩ := hrel
    have HO := Lib.hid ho
    have HX := Lib.hid hx
    have hbs : b ≤ wr.heap.size := Nat.le_trans hb hx.g.size
    obtain ⟨C, cn, cc, rfl⟩ := ho.shape3
    clear ho hx
    by_cases hlt : k < c
    · have hs2 := bytesLE_succ n k
      rw [pow256] at hs2
      have HS2 := Lib.hid hs2
      clear hs2
      go_wp2_with (at_builtin; refine wpl_append rowByte rfl _ _ rfl (v := .slice C cn cc) rfl (HO.out.alloc _) _ _ rfl (A := some ⟨wr.heap.size, 0, none⟩) (ys := [n / 2 ^ (8 * k) % 256]) rfl (rd_byte wr (n / 2 ^ (8 * k) % 256) (by omega) _) (okOne (by omega)) (by simp [bytesLE_length]; omega) (by simp; omega) ?_; intro v9 w9 ho1 hg1 hat1; have HX9 := Lib.hid (HX.out.trans ((Go1.ext (ext_alloc _ _) rfl).trans (Go1.app hg1 hat1))); have HO9 := Lib.hid ho1; clear ho1 hg1 hat1)
      go_roundw
      case rel => exact ⟨k + 1, by omega, by go_num, by rw [HS2.out, ← List.append_assoc]; exact HO9.out, HX9.out⟩
      case measure => simp [intOf]; omega
    · obtain rfl : k = c := by omega
      go_wp2_with fail
      go_ret
      exact ⟨_, rfl, HO.out, HX.out⟩
theorem stp_appendT {ops : Array Oper} {o : Oper} {a : Act} {w : World} {K : Act → World → Prop} {Q : Exit → Act → World → Prop} {E : Prop} (hgd : o.guard = none) (s y : Operand)
    (hop : o.op = .call { callee := .builtin .append, args := #[s, y], argTypes := #[22, 22] })
    {base : Nat} {v : Value} {xs : List Int} (hs : a.eval s = v) (ho : OwnT w base v xs) (x : Int) (hx : 0 ≤ x ∧ x ≤ 255) {ad : Addr} (hy : a.eval y = .slice (some ad) 1 1) (hc : w.cell? ad = some (.int .u8 x)) (hl : xs.length + 1 ≤ 140737488355328) (hb : base ≤ w.heap.size)
    (h : ∀ v' w', OwnT w' base v' (xs ++ [x]) → w.grownBy w' v.ownBlock → (v'.ownBlock = v.ownBlock ∨ v'.ownBlock = some w.heap.size) → K (a.put o.dst v') w') :
    if Region.wanted o (yielded ops a.tmps) = true then Oper.wp Try.prog o a w K Q else E := by
  obtain ⟨v', w', hrun, h1, h2, h3⟩ := run_appendT ho o.type x hx hc hl hb
  have hw : Region.wanted o (yielded ops a.tmps) = true := by simp [Region.wanted, hgd]
  rw [if_pos hw]
  unfold Oper.wp execOp
  simp only [hop, resolve, invoke, builtin, Sem.run_bind, Sem.run_pure, Result.andThen_ok, List.map_toArray, List.map_cons, List.map_nil, hs, hy, hrun]
  exact h v' w' h1 h2 h3
theorem OwnT.shape3 {w : World} {base : Nat} {v : Value} {xs : List Int} (h : OwnT w base v xs) : ∃ A n cap, v = .slice A n cap := by
  obtain ⟨g, o, cap, rfl⟩ := h.shape
  exact ⟨_, _, _, rfl⟩
/-- the state at the beginning -/
theorem dst_start (w : World) : DSt w ((((((w.alloc (.cells #[] 5)).alloc (.cells #[] 5)).alloc (.cells #[.slice (some ⟨w.heap.size, 0, none⟩) 0 0] 22)).alloc (.cells #[.slice (some ⟨w.heap.size + 1, 0, none⟩) 0 0] 22)))) (w.heap.size + 1 + 1 + 1) (w.heap.size + 1 + 1)
    (.slice (some ⟨w.heap.size + 1, 0, none⟩) 0 0) (.slice (some ⟨w.heap.size + 1, 0, none⟩) 0 0) (.slice (some ⟨w.heap.size, 0, none⟩) 0 0) (.slice (some ⟨w.heap.size, 0, none⟩) 0 0) [] [] := by
  refine ⟨(((ext_alloc _ _).alloc _).alloc _).alloc _, Blk.new' (by simp) _ _, (Blk.new' (by simp) _ _).alloc _, ⟨w.heap.size + 1, 0, 0, #[], rfl, by omega, ((Blk.new' (by simp) _ _).alloc _).alloc _, Nat.le_refl _, by decide, by simp, by simp [nums], fun x h => by simp at h⟩, (((Own.empty tByte w 5 w.heap.size (Nat.le_refl _)).alloc _).alloc _).alloc _, by simp [Value.ownBlock], by omega, by omega, by omega⟩
set_option maxHeartbeats 16000000 in
set_option maxRecDepth 100000 in
theorem delta_any (v u : Value) (B D : List Int) (w : World) (S S' : Nat → Prop) (h : RdL tByte w S v B) (h' : RdL tByte w S' u D) (hBl : B.length ≤ 1024) (hDl : D.length ≤ 1024) :
    Calls Try.prog 44 #[v, u] w fun e w' => ∃ v', e = .returned v' ∧ Own tByte 5 w' w.heap.size v' (dltL B D) ∧ Ext w w' := by
  obtain ⟨A, cap, rfl, hcap, hlen, hrd, hok⟩ := h
  obtain ⟨A', cap', rfl, hcap', hlen', hrd', hok'⟩ := h'
  have Hrd := Lib.hid (show Rd w S 1 A B.length (nums .u8 B) by rw [← flat_bytes]; exact hrd)
  have Hrd' := Lib.hid (show Rd w S' 1 A' D.length (nums .u8 D) by rw [← flat_bytes]; exact hrd')
  have Hok := Lib.hid (show B8 B from hok)
  have Hok' := Lib.hid (show B8 D from hok')
  clear hrd hrd' hok hok'
  go_enter Try.func44, Try.ntmps44
  go_wp2_with fail
  go_loopw [8] (fun i wr => ∃ (k : Nat) (O H : List Int) (f : Nat) (vP vO : Value), k ≤ D.length ∧ i = .int .i64 k ∧ dltL B D = dlt B f (D.drop k) H O ∧ D.length - k ≤ f ∧ O.length + 3 * H.length ≤ 4 * k ∧ H.length ≤ k ∧ DSt w wr (w.heap.size + 1 + 1 + 1) (w.heap.size + 1 + 1) vP vP vO vO H O) (fun i _ => D.length - (intOf i).toNat)
  case atStart => exact ⟨0, [], [], D.length, _, _, by omega, rfl, rfl, by omega, by decide, by decide, dst_start w⟩
  case round =>
    obtain ⟨k, O, H, f, vP, vO, hk, rfl, hF, hf, hol, hHk, hDS⟩ := hrel
    obtain ⟨wo, hwo⟩ : ∃ wo, wo = wr := ⟨_, rfl⟩
    subst hwo
    obtain ⟨P1, pn, pc, rfl⟩ := hDS.p.shape3
    obtain ⟨O1, on, oc, rfl⟩ := hDS.o.shape3
    have HF := Lib.hid hF
    have HD := Lib.hid hDS
    clear hF hDS
    by_cases hlt : k < D.length
    rotate_left
    · obtain rfl : k = D.length := by omega
      have hend := HF.out
      rw [List.drop_length, dlt_end] at hend
      have HE := Lib.hid hend
      have HP := Lib.hid (flush_any w wo _ _ _ _ H O HD.out (by omega) (by omega))
      clear hend
      go_wp2_with fail
      refine HP.out.mono ?_
      rintro e w1 ⟨vP1, vO1, rfl, hD1⟩
      obtain ⟨O2, on2, oc2, rfl⟩ := hD1.o.shape3
      rw [← HE.out] at hD1
      have HD1 := Lib.hid hD1
      have d1 := hD1.bo.at_ 0 rfl
      clear hD1
      go_wp2_with fail
      go_ret
      exact ⟨_, rfl, HD1.out.o, HD1.out.ext⟩
    obtain ⟨f, rfl⟩ : ∃ f', f = f' + 1 := ⟨f - 1, by omega⟩
    obtain ⟨g', o', rfl, hs', hcd⟩ := (Hrd'.out).byte k hlt
    clear hcd
    have HCD := Lib.hid (show ∀ q, q < D.length → ∀ W, Ext w W → W.cell? ⟨g', o' + q, none⟩ = some (.int .u8 (gI D q)) from fun q hq W hW => by
      obtain ⟨g9, o9, e9, _, hc9⟩ := (Hrd'.out).byte q hq
      injection e9 with e9
      injection e9 with e8 e7
      subst e8 e7
      exact hW.cell hc9)
    have hi1 : (0 : Int) ≤ (k : Int) := by omega
    have hi3 : (k : Int) < (D.length : Int) := by omega
    go_wp2_with fail
    go_loopw [9, 10, 22] (fun pl b i w2 => ∃ j : Nat, j ≤ B.length ∧ i = .int .i64 j ∧ b = .int .i64 ((bestK B (D.drop k) j).2 : Nat) ∧ pl = .int .i64 ((bestK B (D.drop k) j).1 : Nat) ∧ Drawn wo w2) (fun _ _ i _ => B.length - (intOf i).toNat)
    case atStart => exact ⟨0, by omega, rfl, rfl, rfl, Drawn.refl _⟩
    case round =>
      obtain ⟨j, hj, rfl, rfl, rfl, hD2⟩ := hrel
      obtain ⟨wi, hwi⟩ : ∃ wi, wi = wr := ⟨_, rfl⟩
      subst hwi
      have HD2 := Lib.hid hD2
      clear hD2
      by_cases hltj : j < B.length
      · obtain ⟨g, o, hA, hs, hc0⟩ := (Hrd.out).byte j hltj
        subst hA
        clear hc0
        have HCB := Lib.hid (show ∀ q, q < B.length → ∀ W, Ext w W → W.cell? ⟨g, o + q, none⟩ = some (.int .u8 (gI B q)) from fun q hq W hW => by
          obtain ⟨g9, o9, e9, _, hc9⟩ := (Hrd.out).byte q hq
          injection e9 with e9
          injection e9 with e8 e7
          subst e8 e7
          exact hW.cell hc9)
        have HBK := Lib.hid (show bestK B (D.drop k) (j + 1) = if (bestK B (D.drop k) j).2 < mat 255 (B.drop j) (D.drop k) then (j, mat 255 (B.drop j) (D.drop k)) else bestK B (D.drop k) j from rfl)
        have HMT := Lib.hid (fun n h1 h2 h3 h4 h5 => mat_is 255 (B.drop j) (D.drop k) n h1 h2 h3 h4 h5)
        generalize mat 255 (B.drop j) (D.drop k) = m at HBK HMT
        generalize bestK B (D.drop k) j = q at HBK ⊢
        obtain ⟨q1, q2⟩ := q
        dsimp only at HBK ⊢
        have hj1 : (0 : Int) ≤ (j : Int) := by omega
        have hj3 : (j : Int) < (B.length : Int) := by omega
        go_wp2_with fail
        go_loopw [12] (fun i w3 => ∃ n : Nat, n ≤ 255 ∧ j + n ≤ B.length ∧ k + n ≤ D.length ∧ i = .int .i64 n ∧ (∀ r, r < n → gI B (j + r) = gI D (k + r)) ∧ Drawn wi w3) (fun i _ => 255 - (intOf i).toNat)
        case atStart => exact ⟨0, by omega, by omega, by omega, rfl, fun r hr => by omega, Drawn.refl _⟩
        case round =>
          obtain ⟨n, hn, hnB, hnD, rfl, hm, hD3⟩ := hrel
          have HM := Lib.hid hm
          have HD3 := Lib.hid hD3
          clear hm hD3
          have HE := Lib.hid (show (n = 255 ∨ j + n = B.length ∨ k + n = D.length ∨ gI B (j + n) ≠ gI D (k + n)) → m = n from fun h => HMT.out n hn (by rw [List.length_drop]; omega) (by rw [List.length_drop]; omega) (fun r hr => by rw [gI_drop, gI_drop]; exact HM.out r hr) (by rw [List.length_drop, List.length_drop, gI_drop, gI_drop]; rcases h with h | h | h | h; exact .inl h; exact .inr (.inl (by omega)); exact .inr (.inr (.inl (by omega))); exact .inr (.inr (.inr h))))
          have e1 : (j : Int) + (n : Int) = ((j + n : Nat) : Int) := by omega
          have e2 : (k : Int) + (n : Int) = ((k + n : Nat) : Int) := by omega
          have w1 : IntKind.i64.wrap ((j : Int) + (n : Int)) = (j : Int) + (n : Int) := IntWalk.i64_in _ (by omega)
          have w2 : IntKind.i64.wrap ((k : Int) + (n : Int)) = (k : Int) + (n : Int) := IntWalk.i64_in _ (by omega)
          by_cases h1 : n < 255
          rotate_left
          · skip
            have c1 : decide ((n : Int) < 255) = false := by rw [decide_eq_false_iff_not]; omega
            have HR := Lib.hid (HE.out (.inl (by omega)))
            clear HE HMT e1 e2
            by_cases hm : q2 < n
            · have HB1 := Lib.hid (show bestK B (D.drop k) (j + 1) = (j, n) by rw [HBK.out, HR.out, if_pos hm])
              have hmI : (q2 : Int) < (n : Int) := by omega
              go_wp2_with fail
              go_quiet (fail)
              go_wp2_with fail
              go_roundw
              case rel => exact ⟨j + 1, by omega, by go_num, by rw [HB1.out], by rw [HB1.out], HD2.out.trans (HD3.out.drewN _)⟩
              case measure => simp [intOf]; omega
            · have HB1 := Lib.hid (show bestK B (D.drop k) (j + 1) = (q1, q2) by rw [HBK.out, HR.out, if_neg hm])
              have hmI : ¬ (q2 : Int) < (n : Int) := by omega
              go_wp2_with fail
              go_quiet (fail)
              go_wp2_with fail
              go_roundw
              case rel => exact ⟨j + 1, by omega, by go_num, by rw [HB1.out], by rw [HB1.out], HD2.out.trans (HD3.out.drewN _)⟩
              case measure => simp [intOf]; omega
          have c1 : decide ((n : Int) < 255) = true := by rw [decide_eq_true_iff]; omega
          by_cases h2 : j + n < B.length
          rotate_left
          · skip
            have c2 : decide ((j : Int) + (n : Int) < (B.length : Int)) = false := by rw [decide_eq_false_iff_not]; omega
            have HR := Lib.hid (HE.out (.inr (.inl (by omega))))
            clear HE HMT e1 e2
            by_cases hm : q2 < n
            · have HB1 := Lib.hid (show bestK B (D.drop k) (j + 1) = (j, n) by rw [HBK.out, HR.out, if_pos hm])
              have hmI : (q2 : Int) < (n : Int) := by omega
              go_wp2_with fail
              go_quiet (fail)
              go_wp2_with fail
              go_roundw
              case rel => exact ⟨j + 1, by omega, by go_num, by rw [HB1.out], by rw [HB1.out], HD2.out.trans (HD3.out.drewN _)⟩
              case measure => simp [intOf]; omega
            · have HB1 := Lib.hid (show bestK B (D.drop k) (j + 1) = (q1, q2) by rw [HBK.out, HR.out, if_neg hm])
              have hmI : ¬ (q2 : Int) < (n : Int) := by omega
              go_wp2_with fail
              go_quiet (fail)
              go_wp2_with fail
              go_roundw
              case rel => exact ⟨j + 1, by omega, by go_num, by rw [HB1.out], by rw [HB1.out], HD2.out.trans (HD3.out.drewN _)⟩
              case measure => simp [intOf]; omega
          have c2 : decide ((j : Int) + (n : Int) < (B.length : Int)) = true := by rw [decide_eq_true_iff]; omega
          by_cases h3 : k + n < D.length
          rotate_left
          · skip
            have c3 : decide ((k : Int) + (n : Int) < (D.length : Int)) = false := by rw [decide_eq_false_iff_not]; omega
            have HR := Lib.hid (HE.out (.inr (.inr (.inl (by omega)))))
            clear HE HMT e1 e2
            by_cases hm : q2 < n
            · have HB1 := Lib.hid (show bestK B (D.drop k) (j + 1) = (j, n) by rw [HBK.out, HR.out, if_pos hm])
              have hmI : (q2 : Int) < (n : Int) := by omega
              go_wp2_with fail
              go_quiet (fail)
              go_wp2_with fail
              go_roundw
              case rel => exact ⟨j + 1, by omega, by go_num, by rw [HB1.out], by rw [HB1.out], HD2.out.trans (HD3.out.drewN _)⟩
              case measure => simp [intOf]; omega
            · have HB1 := Lib.hid (show bestK B (D.drop k) (j + 1) = (q1, q2) by rw [HBK.out, HR.out, if_neg hm])
              have hmI : ¬ (q2 : Int) < (n : Int) := by omega
              go_wp2_with fail
              go_quiet (fail)
              go_wp2_with fail
              go_roundw
              case rel => exact ⟨j + 1, by omega, by go_num, by rw [HB1.out], by rw [HB1.out], HD2.out.trans (HD3.out.drewN _)⟩
              case measure => simp [intOf]; omega
          have c3 : decide ((k : Int) + (n : Int) < (D.length : Int)) = true := by rw [decide_eq_true_iff]; omega
          have c2' : (j : Int) + (n : Int) < (B.length : Int) := by omega
          have c3' : (k : Int) + (n : Int) < (D.length : Int) := by omega
          have hd := HCB.out (j + n) h2 _ (HD.out.ext.trans (HD2.out.trans HD3.out).ext)
          have hd' := HCD.out (k + n) h3 _ (HD.out.ext.trans (HD2.out.trans HD3.out).ext)
          have p1 : (0 : Int) ≤ (j : Int) + (n : Int) := by omega
          have p2 : (0 : Int) ≤ (k : Int) + (n : Int) := by omega
          have t1 : ((j : Int) + (n : Int)).toNat = j + n := by omega
          have t2 : ((k : Int) + (n : Int)).toNat = k + n := by omega
          by_cases he : gI B (j + n) = gI D (k + n)
          rotate_left
          · skip
            have heq : (gI B (j + n) == gI D (k + n)) = false := by simpa using he
            have HR := Lib.hid (HE.out (.inr (.inr (.inr he))))
            clear HE HMT e1 e2
            by_cases hm : q2 < n
            · have HB1 := Lib.hid (show bestK B (D.drop k) (j + 1) = (j, n) by rw [HBK.out, HR.out, if_pos hm])
              have hmI : (q2 : Int) < (n : Int) := by omega
              go_wp2_with fail
              go_quiet (fail)
              go_wp2_with fail
              go_roundw
              case rel => exact ⟨j + 1, by omega, by go_num, by rw [HB1.out], by rw [HB1.out], HD2.out.trans (HD3.out.drewN _)⟩
              case measure => simp [intOf]; omega
            · have HB1 := Lib.hid (show bestK B (D.drop k) (j + 1) = (q1, q2) by rw [HBK.out, HR.out, if_neg hm])
              have hmI : ¬ (q2 : Int) < (n : Int) := by omega
              go_wp2_with fail
              go_quiet (fail)
              go_wp2_with fail
              go_roundw
              case rel => exact ⟨j + 1, by omega, by go_num, by rw [HB1.out], by rw [HB1.out], HD2.out.trans (HD3.out.drewN _)⟩
              case measure => simp [intOf]; omega
          have He := Lib.hid he
          have heq : (gI B (j + n) == gI D (k + n)) = true := by simpa using he
          clear he HE HMT e1 e2
          go_wp2_with fail
          go_quiet (fail)
          go_wp2_with fail
          go_roundw
          case rel => exact ⟨n + 1, by omega, by omega, by omega, by go_num, fun r hr => by
            by_cases e : r = n
            · subst e; exact He.out
            · exact HM.out r (by omega), HD3.out.drewN _⟩
          case measure => simp [intOf]; omega
      · obtain rfl : j = B.length := by omega
        have hbo := bestK_ok B (D.drop k) B.length (Nat.le_refl _)
        have HHD := Lib.hid (fun hb => dlt_hold B f (D.drop k) H O (by simp; omega) hb)
        have HCP := Lib.hid (fun hb => dlt_copy B f (D.drop k) H O (by simp; omega) hb)
        have hml := fun i => mat_le 255 (B.drop i) (D.drop k)
        generalize bestK B (D.drop k) B.length = q at hbo HHD HCP ⊢
        obtain ⟨p, m⟩ := q
        dsimp only at hbo HHD HCP ⊢
        have hpm : p ≤ B.length ∧ m ≤ 255 ∧ m ≤ D.length - k := by
          have h1 := hml p
          rw [List.length_drop, List.length_drop] at h1
          rcases hbo with h | h
          · omega
          · omega
        clear hbo hml
        have HD1 := Lib.hid (HD.out.on HD2.out.ext)
        have hd255 := B8.get Hok'.out k
        by_cases h8 : m < 8
        · have HST := Lib.hid (HHD.out h8)
          have h8I : (m : Int) < 8 := by omega
          clear HHD HCP
          go_wp2_with fail
          refine wp_region_held_drew (S := fun W => Ext w W) (by kernel_rfl) HD1.out.ext.drew (fun hHeld => ?_)
          have HDd := Lib.hid (HD1.out.on (Ext.refl _).drew)
          generalize World.drew wi = wd at hHeld HDd ⊢
          clear HD1
          refine wpAnyH_take (i := 1) (oi := ?oiz1) (v := ?vz1) ?hiz1 (by kernel_rfl) (by kernel_rfl) (by kernel_rfl) ?hQz1 ?hyz1 (by assumption) ?restz1
          case hiz1 => simp only [List.getElem?_toArray, List.getElem?_cons_zero, List.getElem?_cons_succ]; rfl
          case hQz1 => exact fun _ _ _ h => h
          case hyz1 => exact Or.inl ⟨by rfl, by intro w hSw; (try dsimp only at hSw); go_simp; with_reducible rfl⟩
          try simp only [Act.put, List.setIfInBounds_toArray, List.set_cons_zero, List.set_cons_succ]
          refine wpAnyH_take (i := 2) (oi := ?oiz2) (v := ?vz2) ?hiz2 (by kernel_rfl) (by kernel_rfl) (by kernel_rfl) ?hQz2 ?hyz2 (by assumption) ?restz2
          case hiz2 => simp only [List.getElem?_toArray, List.getElem?_cons_zero, List.getElem?_cons_succ]; rfl
          case hQz2 => exact fun _ _ _ h => h
          case hyz2 => exact Or.inl ⟨by rfl, by intro w hSw; (try dsimp only at hSw); go_simp; with_reducible rfl⟩
          try simp only [Act.put, List.setIfInBounds_toArray, List.set_cons_zero, List.set_cons_succ]
          refine wpAnyH_take (i := 3) (oi := ?oiz3) (v := ?vz3) ?hiz3 (by kernel_rfl) (by kernel_rfl) (by kernel_rfl) ?hQz3 ?hyz3 (by assumption) ?restz3
          case hiz3 => simp only [List.getElem?_toArray, List.getElem?_cons_zero, List.getElem?_cons_succ]; rfl
          case hQz3 => exact fun _ _ _ h => h
          case hyz3 => exact Or.inl ⟨by rfl, by intro w hSw; (try dsimp only at hSw); go_simp; with_reducible rfl⟩
          try simp only [Act.put, List.setIfInBounds_toArray, List.set_cons_zero, List.set_cons_succ]
          refine wpAnyH_take (i := 4) (oi := ?oiz4) (v := ?vz4) ?hiz4 (by kernel_rfl) (by kernel_rfl) (by kernel_rfl) ?hQz4 ?hyz4 (by assumption) ?restz4
          case hiz4 => simp only [List.getElem?_toArray, List.getElem?_cons_zero, List.getElem?_cons_succ]; rfl
          case hQz4 => exact fun _ _ _ h => h
          case hyz4 => exact Or.inl ⟨by rfl, by intro w9 hSw; have p0 := HCD.out k hlt _ hSw; go_simp; with_reducible rfl⟩
          try simp only [Act.put, List.setIfInBounds_toArray, List.set_cons_zero, List.set_cons_succ]
          refine wpAnyH_ready (rs := [0, 5]) (by kernel_rfl) (by simp) (AllReadyH.cons (o := ?oy50) ?hy50 (fun K hK => ?sy50) (AllReadyH.cons (o := ?oy55) ?hy55 (fun K hK => ?sy55) AllReadyH.nil))
          case hy50 => simp only [List.getElem?_toArray, List.getElem?_cons_zero, List.getElem?_cons_succ]; rfl
          case hy55 => simp only [List.getElem?_toArray, List.getElem?_cons_zero, List.getElem?_cons_succ]; rfl
          case sy50 =>
            have HX := HDd
            have s1 := HX.out.bp.at_ 0 rfl
            go_simp
            refine hK.out _ _ hHeld (fun _ => ?_)
            clear hK K s1
            try simp only [Act.put, List.setIfInBounds_toArray, List.set_cons_zero, List.set_cons_succ]
            clear HX
            refine wpAnyH_ready (rs := [5]) (by kernel_rfl) (by simp) (AllReadyH.cons (o := ?oy65) ?hy65 (fun K hK => ?sy65) AllReadyH.nil)
            case hy65 => simp only [List.getElem?_toArray, List.getElem?_cons_zero, List.getElem?_cons_succ]; rfl
            go_simp
            have hH2 : Ext w (wd.alloc (.cells #[.int .u8 (gI D k)] 5)) := hHeld.alloc _
            refine hK.out _ _ hH2 (fun _ => ?_)
            clear hK K hHeld
            have hHeld := hH2
            clear hH2
            try simp only [Act.put, List.setIfInBounds_toArray, List.set_cons_zero, List.set_cons_succ]
            have HDe := Lib.hid (HDd.out.on (ext_alloc wd (.cells #[.int .u8 (gI D k)] 5)))
            clear HDd
            refine wpAnyH_ready (rs := [6]) (by kernel_rfl) (by simp) (AllReadyH.cons (o := ?oy76) ?hy76 (fun K hK => ?sy76) AllReadyH.nil)
            case hy76 => simp only [List.getElem?_toArray, List.getElem?_cons_zero, List.getElem?_cons_succ]; rfl
            refine stp_appendT rfl _ _ rfl (v := .slice P1 pn pc) rfl HDe.out.p (gI D k) (by omega) (ad := ⟨wd.heap.size, 0, none⟩) rfl ((Blk.new wd 5 #[.int .u8 (gI D k)]).at_ 0 rfl) (by omega) HDe.out.ext.size ?_
            intro v4 w4 ho1 hg1 hat1
            obtain ⟨P4, pn4, pc4, rfl⟩ := ho1.shape3
            have HD4 := Lib.hid (HDe.out.hold ho1 (Go1.app hg1 hat1))
            have hH2 := HD4.out.ext
            clear ho1 hg1 hat1 HDe
            refine hK.out _ _ hH2 (fun _ => ?_)
            clear hK K hHeld
            have hHeld := hH2
            clear hH2
            try simp only [Act.put, List.setIfInBounds_toArray, List.set_cons_zero, List.set_cons_succ]
            refine wpAnyH_ready (rs := [7]) (by kernel_rfl) (by simp) (AllReadyH.cons (o := ?oy87) ?hy87 (fun K hK => ?sy87) AllReadyH.nil)
            case hy87 => simp only [List.getElem?_toArray, List.getElem?_cons_zero, List.getElem?_cons_succ]; rfl
            have s3 := HD4.out.bp.at_ 0 rfl
            have t3 := HD4.out.bp.free 0
            go_simp
            have HD5 := Lib.hid HD4.out.setP
            have hH2 := HD5.out.ext
            clear s3 t3
            refine hK.out _ _ hH2 (fun _ => ?_)
            clear hK K hHeld
            have hHeld := hH2
            clear hH2
            try simp only [Act.put, List.setIfInBounds_toArray, List.set_cons_zero, List.set_cons_succ]
            refine wpAnyH_done (by kernel_rfl) ?_ _
            clear hHeld
            generalize w4.setCell ⟨w.heap.size + 1 + 1 + 1, 0, none⟩ (.slice P4 pn4 pc4) = w5 at HD5 ⊢
            clear HD4
            go_wp2_with fail
            go_roundw
            case rel => exact ⟨k + 1, O, H ++ [gI D k], f, _, _, by omega, by go_num, by rw [HF.out, HST.out, List.drop_drop, gI_drop]; rfl, by omega, by simp; omega, by simp; omega, HD5.out⟩
            case measure => simp [intOf]; omega
          case sy55 =>
            go_simp
            have hH2 : Ext w (wd.alloc (.cells #[.int .u8 (gI D k)] 5)) := hHeld.alloc _
            refine hK.out _ _ hH2 (fun _ => ?_)
            clear hK K hHeld
            have hHeld := hH2
            clear hH2
            try simp only [Act.put, List.setIfInBounds_toArray, List.set_cons_zero, List.set_cons_succ]
            have HX := Lib.hid (HDd.out.on (ext_alloc wd (.cells #[.int .u8 (gI D k)] 5)))
            refine wpAnyH_ready (rs := [0]) (by kernel_rfl) (by simp) (AllReadyH.cons (o := ?oy90) ?hy90 (fun K hK => ?sy90) AllReadyH.nil)
            case hy90 => simp only [List.getElem?_toArray, List.getElem?_cons_zero, List.getElem?_cons_succ]; rfl
            have s1 := HX.out.bp.at_ 0 rfl
            go_simp
            refine hK.out _ _ hHeld (fun _ => ?_)
            clear hK K s1
            try simp only [Act.put, List.setIfInBounds_toArray, List.set_cons_zero, List.set_cons_succ]
            clear HX
            have HDe := Lib.hid (HDd.out.on (ext_alloc wd (.cells #[.int .u8 (gI D k)] 5)))
            clear HDd
            refine wpAnyH_ready (rs := [6]) (by kernel_rfl) (by simp) (AllReadyH.cons (o := ?oy106) ?hy106 (fun K hK => ?sy106) AllReadyH.nil)
            case hy106 => simp only [List.getElem?_toArray, List.getElem?_cons_zero, List.getElem?_cons_succ]; rfl
            refine stp_appendT rfl _ _ rfl (v := .slice P1 pn pc) rfl HDe.out.p (gI D k) (by omega) (ad := ⟨wd.heap.size, 0, none⟩) rfl ((Blk.new wd 5 #[.int .u8 (gI D k)]).at_ 0 rfl) (by omega) HDe.out.ext.size ?_
            intro v4 w4 ho1 hg1 hat1
            obtain ⟨P4, pn4, pc4, rfl⟩ := ho1.shape3
            have HD4 := Lib.hid (HDe.out.hold ho1 (Go1.app hg1 hat1))
            have hH2 := HD4.out.ext
            clear ho1 hg1 hat1 HDe
            refine hK.out _ _ hH2 (fun _ => ?_)
            clear hK K hHeld
            have hHeld := hH2
            clear hH2
            try simp only [Act.put, List.setIfInBounds_toArray, List.set_cons_zero, List.set_cons_succ]
            refine wpAnyH_ready (rs := [7]) (by kernel_rfl) (by simp) (AllReadyH.cons (o := ?oy117) ?hy117 (fun K hK => ?sy117) AllReadyH.nil)
            case hy117 => simp only [List.getElem?_toArray, List.getElem?_cons_zero, List.getElem?_cons_succ]; rfl
            have s3 := HD4.out.bp.at_ 0 rfl
            have t3 := HD4.out.bp.free 0
            go_simp
            have HD5 := Lib.hid HD4.out.setP
            have hH2 := HD5.out.ext
            clear s3 t3
            refine hK.out _ _ hH2 (fun _ => ?_)
            clear hK K hHeld
            have hHeld := hH2
            clear hH2
            try simp only [Act.put, List.setIfInBounds_toArray, List.set_cons_zero, List.set_cons_succ]
            refine wpAnyH_done (by kernel_rfl) ?_ _
            clear hHeld
            generalize w4.setCell ⟨w.heap.size + 1 + 1 + 1, 0, none⟩ (.slice P4 pn4 pc4) = w5 at HD5 ⊢
            clear HD4
            go_wp2_with fail
            go_roundw
            case rel => exact ⟨k + 1, O, H ++ [gI D k], f, _, _, by omega, by go_num, by rw [HF.out, HST.out, List.drop_drop, gI_drop]; rfl, by omega, by simp; omega, by simp; omega, HD5.out⟩
            case measure => simp [intOf]; omega
        · have HST := Lib.hid (HCP.out h8)
          have h8I : ¬ (m : Int) < 8 := by omega
          have HP := Lib.hid (flush_any w wi _ _ _ _ H O HD1.out (by omega) (by omega))
          clear HHD HCP
          go_wp2_with fail
          refine HP.out.mono ?_
          rintro e w1 ⟨vP1, vO1, rfl, hD1⟩
          obtain ⟨P2, pn2, pc2, rfl⟩ := hD1.p.shape3
          obtain ⟨O2, on2, oc2, rfl⟩ := hD1.o.shape3
          have HD3 := Lib.hid hD1
          have d1 := hD1.bo.at_ 0 rfl
          have HCL := Lib.hid (chk_len H.length H)
          have hcl := HCL.out
          have e1 : ((p % 256 : Nat) : Int) = (p : Int) % 256 := by omega
          have e2 : ((p / 256 : Nat) : Int) = (p : Int) / 256 % 256 := by omega
          have hle : bytesLE (p : Int) 2 = [(p : Int) % 256, (p : Int) / 256 % 256] := by
            rw [bytesLE_succ, bytesLE_succ, bytesLE_zero]; simp
          have HST2 := Lib.hid (show dlt B (f + 1) (D.drop k) H O = dlt B f ((D.drop k).drop m) [] (O ++ chk H.length H ++ [1] ++ bytesLE (p : Int) 2 ++ [(m : Int)]) by rw [HST.out, e1, e2, hle]; simp)
          have HW1 := Lib.hid (show IntKind.u16.wrap (p : Int) = (p : Int) by simp [IntKind.wrap, IntKind.min, IntKind.max, IntKind.bits, IntKind.signed]; omega)
          have hw1 := HW1.out
          clear e1 e2 hle HST hD1 HP
          go_wp2_with (at_builtin; refine wpl_append rowByte rfl _ _ rfl (v := .slice O2 on2 oc2) rfl (HD3.out.o.alloc _) _ _ rfl (A := some ⟨w1.heap.size, 0, none⟩) (ys := [1]) rfl (rd_byte w1 1 (by omega) _) (okOne (by omega)) (by simp; omega) (HD3.out.ext.alloc _).size ?_; intro v4 w4 ho1 hg1 hat1; have HD4 := Lib.hid ((HD3.out.on (ext_alloc w1 (.cells #[.int .u8 1] 5))).app ho1 (Go1.app hg1 hat1)); obtain ⟨O4, on4, oc4, rfl⟩ := ho1.shape3; clear ho1 hg1 hat1)
          refine (appendLittle_g _ _ (p : Int) 2 _ _ HD4.out.o HD4.out.ext.size (by omega) (by omega) (by simp; omega)).mono ?_
          rintro e w5 ⟨v5, rfl, ho5, hg5⟩
          have HD5 := Lib.hid (HD4.out.app ho5 hg5)
          obtain ⟨O5, on5, oc5, rfl⟩ := ho5.shape3
          clear ho5 hg5
          go_wp2_with (at_builtin; refine wpl_append rowByte rfl _ _ rfl (v := .slice O5 on5 oc5) rfl (HD5.out.o.alloc _) _ _ rfl (A := some ⟨w5.heap.size, 0, none⟩) (ys := [(m : Int)]) rfl (rd_byte w5 (m : Int) (by omega) _) (okOne (by omega)) (by simp [bytesLE_length]; omega) (HD5.out.ext.alloc _).size ?_; intro v6 w6 ho1 hg1 hat1; have HD6 := Lib.hid ((HD5.out.on (ext_alloc w5 (.cells #[.int .u8 (m : Int)] 5))).app ho1 (Go1.app hg1 hat1)); obtain ⟨O6, on6, oc6, rfl⟩ := ho1.shape3; have s6 := HD6.out.bo.at_ 0 rfl; have t6 := HD6.out.bo.free 0; clear ho1 hg1 hat1)
          have HD7 := Lib.hid HD6.out.setO
          go_roundw
          case rel => exact ⟨k + m, _, [], f, _, _, by omega, by go_num, by rw [HF.out, HST2.out, List.drop_drop], by omega, by simp [bytesLE_length]; omega, by simp, HD7.out⟩
          case measure => simp [intOf]; omega
set_option maxHeartbeats 1000000 in
set_option maxRecDepth 100000 in
theorem implDeltaOf_any (v u : Value) (B D : List Int) (w : World) (S S' : Nat → Prop) (h : RdL tByte w S v B) (h' : RdL tByte w S' u D) :
    Calls Try.prog 11 #[v, u] w fun e w' => ∃ v', e = .returned (.tuple #[v', .int .i64 (deltaR B D).2]) ∧ Own tByte 5 w' w.heap.size v' (deltaR B D).1 ∧ Ext w w' := by
  have H := Lib.hid h
  have H' := Lib.hid h'
  obtain ⟨A, cap, rfl, hcap, hlen, _⟩ := h
  obtain ⟨A', cap', rfl, hcap', hlen', _⟩ := h'
  unfold deltaR
  by_cases h1 : 1024 < B.length
  · rw [if_pos (.inl h1)]
    have h1' : (1024 : Int) < (B.length : Int) := by omega
    go_enter Try.func11, Try.ntmps11
    go_wp2_with fail
    go_ret2
    exact ⟨_, rfl, Own.nil _ _ _ _, Ext.refl _⟩
  by_cases h2 : 1024 < D.length
  · rw [if_pos (.inr h2)]
    have h2' : (1024 : Int) < (D.length : Int) := by omega
    have h1' : ¬ (1024 : Int) < (B.length : Int) := by omega
    go_enter Try.func11, Try.ntmps11
    go_wp2_with fail
    go_ret2
    exact ⟨_, rfl, Own.nil _ _ _ _, Ext.refl _⟩
  rw [if_neg (by omega)]
  have h2' : ¬ (1024 : Int) < (D.length : Int) := by omega
  have h1' : ¬ (1024 : Int) < (B.length : Int) := by omega
  have hc := delta_any _ _ B D w S S' H.out H'.out (by omega) (by omega)
  generalize dltL B D = R at hc ⊢
  have HC := Lib.hid hc
  clear hc
  by_cases h3 : 1024 < R.length
  · rw [if_pos h3]
    have h3' : (1024 : Int) < (R.length : Int) := by omega
    go_enter Try.func11, Try.ntmps11
    go_wp2_with fail
    refine HC.out.mono ?_
    rintro e w1 ⟨v1, rfl, ho, hx⟩
    obtain ⟨A1, c1, rfl⟩ := ho.shape
    have HX := Lib.hid hx
    clear ho hx
    go_wp2_with fail
    go_ret2
    exact ⟨_, rfl, Own.nil _ _ _ _, HX.out⟩
  · rw [if_neg h3]
    have h3' : ¬ (1024 : Int) < (R.length : Int) := by omega
    go_enter Try.func11, Try.ntmps11
    go_wp2_with fail
    refine HC.out.mono ?_
    rintro e w1 ⟨v1, rfl, ho, hx⟩
    obtain ⟨A1, c1, rfl⟩ := ho.shape
    have HO := Lib.hid ho
    have HX := Lib.hid hx
    clear ho hx
    go_wp2_with fail
    go_ret2
    exact ⟨_, rfl, HO.out, HX.out⟩
end Go.Proofs.Yteegnbdgfedajaa
/- Commits: copied, counted, held against each other. No condition. -/
namespace Go.Proofs.Yteegnbdgfedajaa
open Go.RowKit
set_option linter.unusedVariables false
set_option linter.unusedSimpArgs false

structure Cm where
  root : List Int
  par : List (List Int)
  num : Int
  note : ByteArray
def Cm.cells (x : Cm) (v : Value) : Array Value := (nums .u8 x.root ++ [v, .int .i64 x.num, .string x.note]).toArray
/-- the cells of a commit -/
def RCommit (w : World) (S : Nat → Prop) (cs : Array Value) (x : Cm) : Prop :=
  ∃ v, cs = x.cells v ∧ RdL tKey w S v x.par ∧ K32 x.root ∧ (Lit.int .i64 x.num).wf = true ∧ x.note.size ≤ 140737488351232
section
variable {w w' : World} {S : Nat → Prop} {cs : Array Value} {x : Cm}
theorem RCommit.ext (h : RCommit w S cs x) (e : Ext w w') : RCommit w' S cs x := by
  obtain ⟨v, h1, h2, h3⟩ := h
  exact ⟨v, h1, h2.ext (by decide) e, h3⟩
theorem Cm.st (hr : K32 x.root) (A : Option Addr) (n c : Nat) : St 35 (x.cells (.slice A n c)) := by
  refine ⟨by simp [Cm.cells, nums_length, hr.1], fun u hu => ?_⟩
  rw [Cm.cells, List.toList_toArray] at hu
  rcases List.mem_append.1 hu with hu | hu
  · exact one_nums _ _ u hu
  · simp at hu; rcases hu with rfl | rfl | rfl <;> rfl
theorem RCommit.st (h : RCommit w S cs x) : St 35 cs := by
  obtain ⟨v, rfl, ⟨A, cap, rfl, _⟩, h3, _⟩ := h
  exact Cm.st h3 _ _ _
theorem Cm.at_ (hr : K32 x.root) (v : Value) : (x.cells v)[32]? = some v ∧ (x.cells v)[33]? = some (.int .i64 x.num) ∧ (x.cells v)[34]? = some (.string x.note) := by
  have := hr.1
  refine ⟨?_, ?_, ?_⟩ <;> rw [Cm.cells, List.getElem?_toArray, List.getElem?_append_right (by rw [nums_length]; omega), nums_length, this] <;> rfl
theorem Cm.root_at (v : Value) (j : Nat) (u : Value) (hu : (numsA .u8 x.root)[j]? = some u) : (x.cells v)[0 + j]? = some u := by
  have hj : j < x.root.length := by have := (Array.getElem?_eq_some_iff.1 hu).1; simpa [numsA, nums] using this
  rw [Nat.zero_add, Cm.cells, List.getElem?_toArray, List.getElem?_append_left (by rw [nums_length]; exact hj)]
  simpa [numsA] using hu
end
theorem aggCommitL : Agg Try.prog 120 35 := Agg.mkS (fs := _) Try.underlying120 (by kernel_rfl)
theorem aggCommitI : Agg Try.prog 43 35 := Agg.mkS (fs := _) Try.underlying43 (by kernel_rfl)
theorem Own.setRow_below {α : Type} {T : Ty α} {e : TypeId} {w : World} {base g : Nat} {v : Value} {xs : List α} (h : Own T e w base v xs) (hg : g < base) (row : Array Value) : Own T e (w.setRow g row) base v xs :=
  h.kept (row := some g) ⟨rfl, rfl, rfl, by simp, fun k _ hk => setRow_other _ _ _ _ (fun e => hk (by rw [e]))⟩ (.inr fun e => by have := (h.base_le _ e).1; omega)
attribute [local irreducible] Blk in
set_option maxHeartbeats 1000000 in
set_option maxRecDepth 100000 in
theorem toCommit_o (cs : Array Value) (x : Cm) (w : World) (S : Nat → Prop) (h : RCommit w S cs x) (hln : x.par.length ≤ 1048576) :
    Calls Try.prog 91 #[.agg cs] w fun e w' => ∃ v', e = .returned (.agg (x.cells v')) ∧ Own tKey 40 w' w.heap.size v' x.par ∧ K32 x.root ∧ (Lit.int .i64 x.num).wf = true ∧ x.note.size ≤ 140737488351232 ∧ Ext w w' := by
  obtain ⟨v, rfl, hr, hroot, hnum, hnote⟩ := h
  obtain ⟨A, cap, rfl, hcap, hlen, _⟩ := id hr
  have H := Lib.hid hr
  have HL := Lib.hid (sizeN (k := .u8) hroot.1)
  have HSL := Lib.hid (show St 32 (numsA .u8 x.root) from St.nums hroot.1)
  have Hroot := Lib.hid hroot
  clear hr hroot
  have hat := Cm.at_ Hroot.out (.slice A x.par.length cap)
  have HAT := Lib.hid hat
  clear hat
  go_enter Try.func91, Try.ntmps91
  go_wp2_with (refine wpl_loadP (off := 0) (sub := numsA .u8 x.root) (((Blk.new w _ _).alloc _).alloc _) aggB32 HL.out (Cm.root_at _) rfl _ rfl rfl ?_)
  refine (toKey_any x.root Hroot.out _).mono ?_
  rintro e w1 ⟨rfl, hx⟩
  have B0 := Lib.hid ((((Blk.new w 120 (x.cells (.slice A x.par.length cap))).alloc _).alloc _).ext hx)
  have B1 := Lib.hid (((Blk.new' (g := w.heap.size + 1) (w := w.alloc _) (by simp) 43 _).alloc _).ext hx)
  have F0 := Lib.hid (Fill.start' ((Blk.new' (g := w.heap.size + 2) (w := (w.alloc _).alloc _) (by simp) 43 _).ext hx) (n := 35) rfl)
  have XW := Lib.hid ((((ext_alloc w _).alloc _).alloc _).trans hx)
  clear hx
  have c0 : ∀ row, (w1.setRow (w.heap.size + 2) row).cell? ⟨w.heap.size, 32, none⟩ = some (.slice A x.par.length cap) := fun row => (B0.out.row_far (by omega) _).at_ 32 HAT.out.1
  go_wp2_with (refine wpl_fill (n := 32) (m := 3) F0.out rfl aggKey HSL.out rfl _ _ rfl rfl rfl rfl ?_; intro row hF; have F1 := Lib.hid hF; clear hF)
  refine (toKeyS_u _ x.par _ _ (H.out.ext (by decide) (XW.out.setRow (by omega) _)) hln).mono ?_
  rintro e w2 ⟨v2, rfl, ho, hx⟩
  obtain ⟨A2, n2, c2, rfl⟩ := ho.shape3
  replace B0 := Lib.hid ((B0.out.row_far (by omega) row).ext hx)
  replace B1 := Lib.hid ((B1.out.row_far (by omega) row).ext hx)
  have F2 := Lib.hid (show Fill w2 (w.heap.size + 2) 43 (nums .u8 x.root) 3 by have := F1.out.ext hx; simpa [numsA] using this)
  have hbs : w.heap.size + 3 ≤ (w1.setRow (w.heap.size + 2) row).heap.size := by have := F1.out; obtain ⟨R, _, hb⟩ := this; have := hb.lt; omega
  replace XW := Lib.hid ((XW.out.setRow (by omega) row).trans hx)
  have HO := Lib.hid ho
  clear hx ho F0 F1 c0
  obtain ⟨R, hR, hb⟩ := F2.out
  match R, hR with
  | [r0, r1, r2], _ =>
    have hl : (nums .u8 x.root).length = 32 := by rw [nums_length, Hroot.out.1]
    have HB := Lib.hid hb
    have d0 := B0.out.at_ 33 HAT.out.2.1
    have d1 := B0.out.at_ 34 HAT.out.2.2
    have e0 : w2.cell? ⟨w.heap.size + 2, 32, none⟩ = some r0 := by rw [hb.cell, List.getElem?_toArray, List.getElem?_append_right (by rw [hl]; omega), hl]; rfl
    have e1 : w2.cell? ⟨w.heap.size + 2, 33, none⟩ = some r1 := by rw [hb.cell, List.getElem?_toArray, List.getElem?_append_right (by rw [hl]; omega), hl]; rfl
    have e2 : w2.cell? ⟨w.heap.size + 2, 34, none⟩ = some r2 := by rw [hb.cell, List.getElem?_toArray, List.getElem?_append_right (by rw [hl]; omega), hl]; rfl
    have f0 := hb.free 32
    have f1 := hb.free 33
    have f2 := hb.free 34
    clear hb
    have HST := Lib.hid (Cm.st Hroot.out A2 n2 c2)
    have hsz := HST.out.size
    have HE : Hid (Blk (((w2.setCell ⟨w.heap.size + 2, 32, none⟩ (.slice A2 n2 c2)).setCell ⟨w.heap.size + 2, 33, none⟩ (.int .i64 x.num)).setCell ⟨w.heap.size + 2, 34, none⟩ (.string x.note)) (w.heap.size + 2) 43 (x.cells (.slice A2 n2 c2))) := Lib.hid (by
      have h3 := ((HB.out.set 32 (.slice A2 n2 c2)).set 33 (.int .i64 x.num)).set 34 (.string x.note)
      have e : x.cells (.slice A2 n2 c2) = (((nums .u8 x.root ++ [r0, r1, r2]).toArray.setIfInBounds 32 (.slice A2 n2 c2)).setIfInBounds 33 (.int .i64 x.num)).setIfInBounds 34 (.string x.note) := by
        simp [Cm.cells, List.set_append, hl]
      rw [e]
      exact h3)
    have B1' := Lib.hid (((B1.out.far (p := ⟨w.heap.size + 2, 32, none⟩) (by simp) (.slice A2 n2 c2)).far (p := ⟨w.heap.size + 2, 33, none⟩) (by simp) (.int .i64 x.num)).far (p := ⟨w.heap.size + 2, 34, none⟩) (by simp) (.string x.note))
    go_wp2_with (first
      | (refine wpl_loadB HE.out aggCommitI hsz rfl _ rfl rfl ?_)
      | (refine wpl_storeB B1'.out aggCommitI HST.out rfl rfl _ _ rfl rfl rfl rfl ?_))
    refine bodyPost_ret (results_blkB rfl _ rfl aggCommitI hsz (B1'.out.setRow _)) rfl ?_
    have hsz2 := XW.out.size
    refine ⟨_, rfl, ?_, Hroot.out, hnum, hnote, (((XW.out.set (by simp <;> omega) _).set (by simp <;> omega) _).set (by simp <;> omega) _).setRow (by simp <;> omega) _⟩
    have hb3 : w.heap.size ≤ (w1.setRow (w.heap.size + 2) row).heap.size := by omega
    have q1 : w.heap.size + 2 < (w1.setRow (w.heap.size + 2) row).heap.size := by omega
    have q2 : w.heap.size + 1 < (w1.setRow (w.heap.size + 2) row).heap.size := by omega
    exact ((((HO.out.set_below (p := ⟨w.heap.size + 2, 32, none⟩) q1 (.slice A2 n2 c2)).set_below (p := ⟨w.heap.size + 2, 33, none⟩) q1 (.int .i64 x.num)).set_below (p := ⟨w.heap.size + 2, 34, none⟩) q1 (.string x.note)).setRow_below q2 _).le hb3
theorem toCommit_u (cs : Array Value) (x : Cm) (w : World) (S : Nat → Prop) (h : RCommit w S cs x) (hln : x.par.length ≤ 1048576) :
    Calls Try.prog 91 #[.agg cs] w fun e w' => ∃ cs', e = .returned (.agg cs') ∧ RCommit w' (fun g => w.heap.size ≤ g ∧ g < w'.heap.size) cs' x ∧ Ext w w' := by
  refine (toCommit_o cs x w S h hln).mono ?_
  rintro e w' ⟨v', rfl, ho, h1, h2, h3, hx⟩
  exact ⟨_, rfl, ⟨v', rfl, ho.rd, h1, h2, h3⟩, hx⟩
set_option maxHeartbeats 1000000 in
set_option maxRecDepth 100000 in
theorem szCommit_u (cs : Array Value) (x : Cm) (l : Int) (w : World) (S : Nat → Prop) (h : RCommit w S cs x) (h0 : -1 ≤ l) (h1 : l ≤ 1048576) :
    Calls Try.prog 88 #[.agg cs, .int .i64 l] w fun e w' => e = .returned (.int .i64 (if l - (x.par.length + x.note.size : Nat) < 0 then -1 else l - (x.par.length + x.note.size : Nat))) ∧ Ext w w' := by
  obtain ⟨v, rfl, hr, hroot, hnum, hnote⟩ := h
  obtain ⟨A, cap, rfl, hcap, hlen, _⟩ := id hr
  have hat := Cm.at_ hroot (.slice A x.par.length cap)
  have c0 : (w.alloc (.cells (x.cells (.slice A x.par.length cap)) 120)).cell? ⟨w.heap.size, 32, none⟩ = some (.slice A x.par.length cap) := (Blk.new w _ _).at_ 32 hat.1
  have c1 : (w.alloc (.cells (x.cells (.slice A x.par.length cap)) 120)).cell? ⟨w.heap.size, 34, none⟩ = some (.string x.note) := (Blk.new w _ _).at_ 34 hat.2.2
  clear hat hr
  have hc := fun W => szKeyS_any A x.par.length cap l (by omega) h0 h1 W
  by_cases h2 : l - (x.par.length : Int) < 0
  · rw [if_pos (by omega)]
    simp only [if_pos h2] at hc
    go_enter Try.func88, Try.ntmps88
    go_wp2_with fail
    refine (hc _).mono ?_
    rintro e w' ⟨rfl, rfl⟩
    go_wp2
    go_ret
    exact ⟨rfl, ext_alloc _ _⟩
  · simp only [if_neg h2] at hc
    by_cases h3 : l - (x.par.length : Int) - x.note.size < 0
    · rw [if_pos (by omega)]
      go_enter Try.func88, Try.ntmps88
      go_wp2_with fail
      refine (hc _).mono ?_
      rintro e w' ⟨rfl, rfl⟩
      go_wp2
      go_ret
      exact ⟨rfl, ext_alloc _ _⟩
    · rw [if_neg (by omega)]
      go_enter Try.func88, Try.ntmps88
      go_wp2_with fail
      refine (hc _).mono ?_
      rintro e w' ⟨rfl, rfl⟩
      go_wp2
      go_ret
      exact ⟨ret_int (by omega), ext_alloc _ _⟩

attribute [local irreducible] Blk in
set_option maxHeartbeats 1000000 in
set_option maxRecDepth 100000 in
theorem eqCommit_u (cs cs' : Array Value) (x : Cm) (w : World) (S S' : Nat → Prop) (h : RCommit w S cs x) (h' : RCommit w S' cs' x) :
    Calls Try.prog 26 #[.agg cs, .agg cs'] w fun e w' => e = .returned (.bool true) ∧ Ext w w' := by
  obtain ⟨v, rfl, hr, hroot, hnum, hnote⟩ := h
  obtain ⟨v', rfl, hr', _, _, _⟩ := h'
  obtain ⟨A, cap, rfl, _⟩ := id hr
  obtain ⟨A', cap', rfl, _⟩ := id hr'
  have H := Lib.hid hr
  have H' := Lib.hid hr'
  have HL := Lib.hid (sizeN (k := .u8) hroot.1)
  have Hroot := Lib.hid hroot
  have HAT := Lib.hid (Cm.at_ hroot (.slice A x.par.length cap))
  have HAT' := Lib.hid (Cm.at_ hroot (.slice A' x.par.length cap'))
  have q1 : (x.num != x.num) = false := by simp
  have q2 : (x.note.toList != x.note.toList) = false := by simp
  clear hr hr' hroot
  go_enter Try.func26, Try.ntmps26
  go_wp2_with (first
    | (refine wpl_loadP (off := 0) (sub := numsA .u8 x.root) ((Blk.new w _ _).alloc _) aggKey HL.out (Cm.root_at (.slice A x.par.length cap)) rfl _ rfl rfl ?_)
    | (refine wpl_loadP (off := 0) (sub := numsA .u8 x.root) (Blk.new' (g := w.heap.size + 1) (by simp) _ _) aggKey HL.out (Cm.root_at (.slice A' x.par.length cap')) rfl _ rfl rfl ?_))
  refine (eqKey_any _ _ Hroot.out Hroot.out _).mono ?_
  rintro e w1 ⟨rfl, hx⟩
  rw [beq_self_eq_true]
  have B0 := Lib.hid (((Blk.new w 43 (x.cells (.slice A x.par.length cap))).alloc (.cells (x.cells (.slice A' x.par.length cap')) 43)).ext hx)
  have B1 := Lib.hid ((Blk.new' (g := w.heap.size + 1) (w := w.alloc (.cells (x.cells (.slice A x.par.length cap)) 43)) (by simp) 43 (x.cells (.slice A' x.par.length cap'))).ext hx)
  have XW := Lib.hid (((ext_alloc w _).alloc _).trans hx)
  clear hx
  have c0 := B0.out.at_ 32 HAT.out.1
  have c1 := B1.out.at_ 32 HAT'.out.1
  go_wp2_with fail
  refine (eqKeyS_u _ _ x.par _ S S' (H.out.ext (by decide) XW.out) (H'.out.ext (by decide) XW.out)).mono ?_
  rintro e w2 ⟨rfl, hx⟩
  have d0 := (B0.out.ext hx).at_ 33 HAT.out.2.1
  have d1 := (B1.out.ext hx).at_ 33 HAT'.out.2.1
  have e0 := (B0.out.ext hx).at_ 34 HAT.out.2.2
  have e1 := (B1.out.ext hx).at_ 34 HAT'.out.2.2
  replace XW := Lib.hid (XW.out.trans hx)
  clear hx B0 B1 c0 c1
  go_wp2_with fail
  go_ret
  exact ⟨rfl, XW.out⟩

end Go.Proofs.Yteegnbdgfedajaa
/- Marks laid on lists of keys, and read. No condition. -/
namespace Go.Proofs.Yteegnbdgfedajaa
open Go.RowKit
set_option linter.unusedVariables false
set_option linter.unusedSimpArgs false

/-- the keys of v hold the marks m, m + 1, .. -/
def MarkedK (w : World) (S : Nat → Prop) (v : Value) (n : Nat) (m : Int) : Prop :=
  ∃ A cap, v = .slice A n cap ∧ n ≤ 140737488355328 ∧ (0 < n → ∃ g o, A = some ⟨g, o, none⟩ ∧ S g ∧ ∀ j, j < n * 32 → w.cell? ⟨g, o + j, none⟩ = some (.int .u8 ((m + j) % 256)))
theorem MarkedK.ext {w w' : World} {S : Nat → Prop} {v : Value} {n : Nat} {m : Int} (h : MarkedK w S v n m) (e : Ext w w') : MarkedK w' S v n m := by
  obtain ⟨A, cap, h1, h2, h3⟩ := h
  refine ⟨A, cap, h1, h2, fun hn => ?_⟩
  obtain ⟨g, o, h4, h5, h6⟩ := h3 hn
  exact ⟨g, o, h4, h5, fun j hj => e.cell (h6 j hj)⟩
theorem Own.far_of_lt {α : Type} {T : Ty α} {e : TypeId} {w : World} {base g : Nat} {v : Value} {xs : List α} (h : Own T e w base v xs) (hg : g < base) : some g ≠ v.ownBlock := fun e => by have := (h.base_le _ e.symm).1; omega
theorem Own.far_of_ge {α : Type} {T : Ty α} {e : TypeId} {w : World} {base g : Nat} {v : Value} {xs : List α} (h : Own T e w base v xs) (hg : w.heap.size ≤ g) : some g ≠ v.ownBlock := fun e => by have := (h.base_le _ e.symm).2; omega
set_option maxHeartbeats 1000000 in
set_option maxRecDepth 100000 in
theorem markKeyS_any (v : Value) (n : Nat) (m : Int) (w : World) (lo : Nat) (h : Wr w lo 32 v n) (hm : 0 ≤ m) (hmn : m + n * 32 ≤ 1000000000000000) :
    Calls Try.prog 41 #[v, .int .i64 m] w fun e w' => e = .returned (.int .i64 (m + n * 32)) ∧ MarkedK w' (fun g => lo ≤ g ∧ some g = v.ownBlock) v n m ∧ w.grownBy w' v.ownBlock := by
  obtain ⟨A, cap, rfl, hcap, hlen, hw⟩ := h
  have HW := Lib.hid hw
  clear hw
  by_cases h0 : n = 0
  · subst h0
    go_enter Try.func41, Try.ntmps41
    go_wp2
    go_loopw [1, 5] (fun q i wr => q = .int .i64 m ∧ i = .int .i64 0 ∧ wr = w) (fun _ _ _ => 0)
    case atStart => exact ⟨rfl, rfl, rfl⟩
    case round =>
      obtain ⟨rfl, rfl, rfl⟩ := hrel
      go_wp2
      go_ret
      exact ⟨ret_int (by simp), ⟨A, cap, rfl, by omega, fun h => by omega⟩, grown_refl _ _⟩
  · obtain ⟨g, o, cur, t, rfl, hlo, hB, hsz⟩ := HW.out (by omega)
    have HB := Lib.hid hB
    clear hB
    go_enter Try.func41, Try.ntmps41
    go_wp2
    go_loopw [1, 5, 6] (fun q i _ wr => ∃ k : Nat, k ≤ n ∧ q = .int .i64 (m + (k : Int) * 32) ∧ i = .int .i64 k ∧ (∃ cur', Blk wr g t cur' ∧ cur'.size = cur.size ∧ ∀ j, j < k * 32 → cur'[o + j]? = some (.int .u8 ((m + j) % 256))) ∧ w.grownBy wr (some g))
      (fun _ i _ _ => n - (intOf i).toNat)
    case atStart => exact ⟨0, by omega, by simp, rfl, ⟨cur, HB.out, rfl, fun j hj => by omega⟩, grown_refl _ _⟩
    case round =>
      obtain ⟨k, hk, rfl, rfl, ⟨cur', hB', hs', hc'⟩, hg⟩ := hrel
      have HG := Lib.hid hg
      have HC := Lib.hid hc'
      have HS := Lib.hid hs'
      have HB' := Lib.hid hB'
      clear hg hc' hs' hB'
      obtain ⟨wo, rfl⟩ : ∃ wo : World, wo = wr := ⟨_, rfl⟩
      by_cases hlt : k < n
      · go_wp2
        go_loopw [1, 6] (fun q i wr => ∃ j : Nat, j ≤ 32 ∧ q = .int .i64 (m + (k : Int) * 32 + j) ∧ i = .int .i64 j ∧ (∃ cur', Blk wr g t cur' ∧ cur'.size = cur.size ∧ ∀ p, p < k * 32 + j → cur'[o + p]? = some (.int .u8 ((m + p) % 256))) ∧ w.grownBy wr (some g))
          (fun _ i _ => 32 - (intOf i).toNat)
        case atStart => exact ⟨0, by omega, by simp, rfl, ⟨cur', HB'.out, HS.out, fun j hj => HC.out j (by omega)⟩, HG.out⟩
        case round =>
          clear HB' HS HC HG
          obtain ⟨j, hj, rfl, rfl, ⟨cur2, hB2, hs2, hc2⟩, hg2⟩ := hrel
          have HG := Lib.hid hg2
          have HC := Lib.hid hc2
          have HS := Lib.hid hs2
          clear hg2 hc2 hs2
          by_cases hlj : j < 32
          · have hin : o + k * 32 + j < cur2.size := by rw [HS.out]; omega
            have hcell : wr.cell? ⟨g, o + k * 32 + j, none⟩ = some cur2[o + k * 32 + j] := hB2.at_ _ (Array.getElem?_eq_getElem hin)
            have hfr := hB2.free (o + k * 32 + j)
            have HB2 := Lib.hid hB2
            clear hB2
            go_wp2
            go_roundw
            case rel => exact ⟨j + 1, by omega, by go_num, by go_num, ⟨_, HB2.out.set (o + k * 32 + j) _, by simp [HS.out], fun p hp => by
              by_cases hpk : p = k * 32 + j
              · subst hpk
                rw [← Nat.add_assoc]
                simp [hin]
                omega
              · rw [Array.getElem?_setIfInBounds_ne (by omega)]; exact HC.out p (by omega)⟩, grown_set HG.out _⟩
            case measure => simp [intOf]; omega
          · obtain rfl : j = 32 := by omega
            have HB2 := Lib.hid hB2
            clear hB2
            go_wp2
            go_roundw
            case rel => exact ⟨k + 1, by omega, by go_num, by go_num, ⟨_, HB2.out, HS.out, fun p hp => HC.out p (by omega)⟩, HG.out⟩
            case measure => simp [intOf]; omega
      · go_wp2
        go_ret
        obtain rfl : k = n := by omega
        refine ⟨rfl, ⟨_, cap, rfl, hlen, fun _ => ⟨g, o, rfl, ⟨hlo, rfl⟩, fun j hj => by rw [HB'.out.cell, HC.out j hj]⟩⟩, HG.out⟩
set_option maxHeartbeats 1000000 in
set_option maxRecDepth 100000 in
theorem heldKeyS_any (v : Value) (n : Nat) (m : Int) (w : World) (S : Nat → Prop) (h : MarkedK w S v n m) (hm : 0 ≤ m) (hmn : m + n * 32 ≤ 1000000000000000) :
    Calls Try.prog 42 #[v, .int .i64 m] w fun e w' => e = .returned (.int .i64 (m + n * 32)) ∧ Ext w w' := by
  obtain ⟨A, cap, rfl, hlen, hw⟩ := h
  have HW := Lib.hid hw
  clear hw
  go_enter Try.func42, Try.ntmps42
  go_wp2
  go_loopw [1, 5, 6] (fun q i _ wr => ∃ k : Nat, k ≤ n ∧ q = .int .i64 (m + (k : Int) * 32) ∧ i = .int .i64 k ∧ Ext w wr) (fun _ i _ _ => n - (intOf i).toNat)
  case atStart => exact ⟨0, by omega, by simp, rfl, Ext.refl _⟩
  case round =>
    obtain ⟨k, hk, rfl, rfl, hx⟩ := hrel
    have HX := Lib.hid hx
    clear hx
    obtain ⟨wo, rfl⟩ : ∃ wo : World, wo = wr := ⟨_, rfl⟩
    by_cases hlt : k < n
    · obtain ⟨g, o, rfl, hs, hc⟩ := HW.out (by omega)
      have HC := Lib.hid hc
      clear hc
      go_wp2
      go_loopw [1, 6] (fun q i wr => ∃ j : Nat, j ≤ 32 ∧ q = .int .i64 (m + (k : Int) * 32 + j) ∧ i = .int .i64 j ∧ Ext w wr) (fun _ i _ => 32 - (intOf i).toNat)
      case atStart => exact ⟨0, by omega, by simp, rfl, HX.out⟩
      case round =>
        clear HX
        obtain ⟨j, hj, rfl, rfl, hx⟩ := hrel
        have HX := Lib.hid hx
        clear hx
        by_cases hlj : j < 32
        · have hd : wr.cell? ⟨g, o + k * 32 + j, none⟩ = some (.int .u8 ((m + (k : Int) * 32 + j) % 256)) := by
            have := HX.out.cell (HC.out (k * 32 + j) (by omega))
            rw [Nat.add_assoc, this]
            congr 2
            omega
          have hne : (((m + (k : Int) * 32 + j) % 256 : Int) != (m + (k : Int) * 32 + j) % 256) = false := by simp
          go_wp2
          go_roundw
          case rel => exact ⟨j + 1, by omega, by go_num, by go_num, HX.out⟩
          case measure => simp [intOf]; omega
        · obtain rfl : j = 32 := by omega
          go_wp2
          go_roundw
          case rel => exact ⟨k + 1, by omega, by go_num, by go_num, HX.out⟩
          case measure => simp [intOf]; omega
    · go_wp2
      go_ret
      obtain rfl : k = n := by omega
      exact ⟨rfl, HX.out⟩

end Go.Proofs.Yteegnbdgfedajaa
/- The walk of the law FnExactDeltaOf. No condition. -/
namespace Go.Proofs.Yteegnbdgfedajaa
open Go.RowKit
set_option linter.unusedVariables false
set_option linter.unusedSimpArgs false

set_option maxHeartbeats 1000000 in
set_option maxRecDepth 100000 in
theorem FnExactDeltaOf_any (w : World) (v0 : Value) (x0 : List Int) (S0 : Nat → Prop) (h0 : RdL tByte w S0 v0 x0) (v1 : Value) (x1 : List Int) (S1 : Nat → Prop) (h1 : RdL tByte w S1 v1 x1) :
    Calls Try.prog 3 #[v0, v1] w fun e w' => e = .returned (.bool true) ∧ Ext w w' := by
  obtain ⟨A0, cap0, rfl, _, hlen0, _⟩ := id h0
  have H0 := Lib.hid h0
  clear h0
  obtain ⟨A1, cap1, rfl, _, hlen1, _⟩ := id h1
  have H1 := Lib.hid h1
  clear h1
  by_cases hl0 : (1048576 : Int) < (x0.length : Int)
  · go_enter Try.func3, Try.ntmps3
    go_wp2_with fail
    go_ret
    exact ⟨rfl, (Ext.refl _)⟩
  have hm0 : x0.length ≤ 1048576 := by omega
  by_cases hl1 : (1048576 : Int) < (x1.length : Int)
  · go_enter Try.func3, Try.ntmps3
    go_wp2_with fail
    go_ret
    exact ⟨rfl, (Ext.refl _)⟩
  have hm1 : x1.length ≤ 1048576 := by omega
  obtain ⟨R, c, hR⟩ : ∃ R c, deltaR x0 x1 = (R, c) := ⟨_, _, rfl⟩
  have HR1 := Lib.hid (congrArg Prod.fst hR)
  have HR2 := Lib.hid (congrArg Prod.snd hR)
  clear hR
  have hq : (c != c) = false := by simp
  go_enter Try.func3, Try.ntmps3
  go_wp2_with fail
  refine (toByteS_any _ x0 _ _ (H0.out.ext (by decide) (Ext.refl _))).mono ?_
  rintro e w1 ⟨vs0, rfl, ho, hx⟩
  replace ho := ho.le (base' := w.heap.size) (by simp)
  have XW := Lib.hid hx
  obtain ⟨As0, qs0, rfl⟩ := ho.shape
  have Os0 := Lib.hid ho
  clear ho
  clear hx
  go_wp2_with fail
  refine (toByteS_any _ x1 _ _ (H1.out.ext (by decide) XW.out)).mono ?_
  rintro e w2 ⟨vs1, rfl, ho, hx⟩
  have NOs0_Os1 := Lib.hid (Os0.out.apart ho (by first | exact Nat.le_refl _ | simp))
  have NOs1_Os0 := Lib.hid (Os0.out.apart' ho (by first | exact Nat.le_refl _ | simp))
  replace ho := ho.le (base' := w.heap.size) XW.out.size
  replace Os0 := Lib.hid (Os0.out.ext hx)
  replace XW := Lib.hid (XW.out.trans hx)
  obtain ⟨As1, qs1, rfl⟩ := ho.shape
  have Os1 := Lib.hid ho
  clear ho
  clear hx
  go_wp2_with fail
  refine (specDeltaOf_any _ _ x0 x1 _ _ _ Os0.out.rd Os1.out.rd).mono ?_
  rintro e w3 ⟨vW, he, ho, hx⟩
  rw [HR2.out] at he
  subst he
  rw [HR1.out] at ho
  have NOs0_OW := Lib.hid (Os0.out.apart ho (by first | exact Nat.le_refl _ | simp))
  have NOW_Os0 := Lib.hid (Os0.out.apart' ho (by first | exact Nat.le_refl _ | simp))
  have NOs1_OW := Lib.hid (Os1.out.apart ho (by first | exact Nat.le_refl _ | simp))
  have NOW_Os1 := Lib.hid (Os1.out.apart' ho (by first | exact Nat.le_refl _ | simp))
  replace ho := ho.le (base' := w.heap.size) XW.out.size
  replace Os0 := Lib.hid (Os0.out.ext hx)
  replace Os1 := Lib.hid (Os1.out.ext hx)
  replace XW := Lib.hid (XW.out.trans hx)
  obtain ⟨AW, qW, rfl⟩ := ho.shape
  have OW := Lib.hid ho
  clear ho
  clear hx
  clear Os0
  clear Os1
  go_wp2_with fail
  refine (toByteS_any _ x0 _ _ (H0.out.ext (by decide) XW.out)).mono ?_
  rintro e w4 ⟨vx0, rfl, ho, hx⟩
  have NOW_Ox0 := Lib.hid (OW.out.apart ho (by first | exact Nat.le_refl _ | simp))
  have NOx0_OW := Lib.hid (OW.out.apart' ho (by first | exact Nat.le_refl _ | simp))
  replace ho := ho.le (base' := w.heap.size) XW.out.size
  replace OW := Lib.hid (OW.out.ext hx)
  replace XW := Lib.hid (XW.out.trans hx)
  obtain ⟨Ax0, qx0, rfl⟩ := ho.shape
  have Ox0 := Lib.hid ho
  clear ho
  clear hx
  go_wp2_with fail
  refine (toByteS_any _ x1 _ _ (H1.out.ext (by decide) XW.out)).mono ?_
  rintro e w5 ⟨vx1, rfl, ho, hx⟩
  have NOW_Ox1 := Lib.hid (OW.out.apart ho (by first | exact Nat.le_refl _ | simp))
  have NOx1_OW := Lib.hid (OW.out.apart' ho (by first | exact Nat.le_refl _ | simp))
  have NOx0_Ox1 := Lib.hid (Ox0.out.apart ho (by first | exact Nat.le_refl _ | simp))
  have NOx1_Ox0 := Lib.hid (Ox0.out.apart' ho (by first | exact Nat.le_refl _ | simp))
  replace ho := ho.le (base' := w.heap.size) XW.out.size
  replace OW := Lib.hid (OW.out.ext hx)
  replace Ox0 := Lib.hid (Ox0.out.ext hx)
  replace XW := Lib.hid (XW.out.trans hx)
  obtain ⟨Ax1, qx1, rfl⟩ := ho.shape
  have Ox1 := Lib.hid ho
  clear ho
  clear hx
  go_wp2_with fail
  refine (implDeltaOf_any _ _ x0 x1 _ _ _ Ox0.out.rd Ox1.out.rd).mono ?_
  rintro e w6 ⟨vG, he, ho, hx⟩
  rw [HR2.out] at he
  subst he
  rw [HR1.out] at ho
  have NOW_OG := Lib.hid (OW.out.apart ho (by first | exact Nat.le_refl _ | simp))
  have NOG_OW := Lib.hid (OW.out.apart' ho (by first | exact Nat.le_refl _ | simp))
  have NOx0_OG := Lib.hid (Ox0.out.apart ho (by first | exact Nat.le_refl _ | simp))
  have NOG_Ox0 := Lib.hid (Ox0.out.apart' ho (by first | exact Nat.le_refl _ | simp))
  have NOx1_OG := Lib.hid (Ox1.out.apart ho (by first | exact Nat.le_refl _ | simp))
  have NOG_Ox1 := Lib.hid (Ox1.out.apart' ho (by first | exact Nat.le_refl _ | simp))
  replace ho := ho.le (base' := w.heap.size) XW.out.size
  replace OW := Lib.hid (OW.out.ext hx)
  replace Ox0 := Lib.hid (Ox0.out.ext hx)
  replace Ox1 := Lib.hid (Ox1.out.ext hx)
  replace XW := Lib.hid (XW.out.trans hx)
  obtain ⟨AG, qG, rfl⟩ := ho.shape
  have OG := Lib.hid ho
  clear ho
  clear hx
  go_wp2_with fail
  refine (eqByteS_any _ _ R R _ _ _ OG.out.rd OW.out.rd).mono ?_
  rintro e w7 ⟨rfl, hD⟩
  rw [beq_self_eq_true]
  have hx := hD.ext
  clear hD
  replace OW := Lib.hid (OW.out.ext hx)
  replace Ox0 := Lib.hid (Ox0.out.ext hx)
  replace Ox1 := Lib.hid (Ox1.out.ext hx)
  replace OG := Lib.hid (OG.out.ext hx)
  replace XW := Lib.hid (XW.out.trans hx)
  clear hx
  go_wp2_with fail
  refine (toByteS_any _ x0 _ _ (H0.out.ext (by decide) XW.out)).mono ?_
  rintro e w8 ⟨vy0, rfl, ho, hx⟩
  have NOW_Oy0 := Lib.hid (OW.out.apart ho (by first | exact Nat.le_refl _ | simp))
  have NOy0_OW := Lib.hid (OW.out.apart' ho (by first | exact Nat.le_refl _ | simp))
  have NOx0_Oy0 := Lib.hid (Ox0.out.apart ho (by first | exact Nat.le_refl _ | simp))
  have NOy0_Ox0 := Lib.hid (Ox0.out.apart' ho (by first | exact Nat.le_refl _ | simp))
  have NOx1_Oy0 := Lib.hid (Ox1.out.apart ho (by first | exact Nat.le_refl _ | simp))
  have NOy0_Ox1 := Lib.hid (Ox1.out.apart' ho (by first | exact Nat.le_refl _ | simp))
  have NOG_Oy0 := Lib.hid (OG.out.apart ho (by first | exact Nat.le_refl _ | simp))
  have NOy0_OG := Lib.hid (OG.out.apart' ho (by first | exact Nat.le_refl _ | simp))
  replace ho := ho.le (base' := w.heap.size) XW.out.size
  replace OW := Lib.hid (OW.out.ext hx)
  replace Ox0 := Lib.hid (Ox0.out.ext hx)
  replace Ox1 := Lib.hid (Ox1.out.ext hx)
  replace OG := Lib.hid (OG.out.ext hx)
  replace XW := Lib.hid (XW.out.trans hx)
  obtain ⟨Ay0, qy0, rfl⟩ := ho.shape
  have Oy0 := Lib.hid ho
  clear ho
  clear hx
  go_wp2_with fail
  refine (eqByteS_any _ _ x0 x0 _ _ _ Ox0.out.rd Oy0.out.rd).mono ?_
  rintro e w9 ⟨rfl, hD⟩
  rw [beq_self_eq_true]
  have hx := hD.ext
  replace OW := Lib.hid (OW.out.ext hx)
  replace Ox0 := Lib.hid (Ox0.out.ext hx)
  replace Ox1 := Lib.hid (Ox1.out.ext hx)
  replace OG := Lib.hid (OG.out.ext hx)
  replace Oy0 := Lib.hid (Oy0.out.ext hx)
  replace XW := Lib.hid (XW.out.trans hx)
  clear hx
  clear Oy0
  go_wp2_with fail
  refine (toByteS_any _ x1 _ _ (H1.out.ext (by decide) XW.out)).mono ?_
  rintro e w10 ⟨vy1, rfl, ho, hx⟩
  have NOW_Oy1 := Lib.hid (OW.out.apart ho (by first | exact Nat.le_refl _ | simp))
  have NOy1_OW := Lib.hid (OW.out.apart' ho (by first | exact Nat.le_refl _ | simp))
  have NOx0_Oy1 := Lib.hid (Ox0.out.apart ho (by first | exact Nat.le_refl _ | simp))
  have NOy1_Ox0 := Lib.hid (Ox0.out.apart' ho (by first | exact Nat.le_refl _ | simp))
  have NOx1_Oy1 := Lib.hid (Ox1.out.apart ho (by first | exact Nat.le_refl _ | simp))
  have NOy1_Ox1 := Lib.hid (Ox1.out.apart' ho (by first | exact Nat.le_refl _ | simp))
  have NOG_Oy1 := Lib.hid (OG.out.apart ho (by first | exact Nat.le_refl _ | simp))
  have NOy1_OG := Lib.hid (OG.out.apart' ho (by first | exact Nat.le_refl _ | simp))
  replace ho := ho.le (base' := w.heap.size) XW.out.size
  replace OW := Lib.hid (OW.out.ext hx)
  replace Ox0 := Lib.hid (Ox0.out.ext hx)
  replace Ox1 := Lib.hid (Ox1.out.ext hx)
  replace OG := Lib.hid (OG.out.ext hx)
  replace XW := Lib.hid (XW.out.trans hx)
  obtain ⟨Ay1, qy1, rfl⟩ := ho.shape
  have Oy1 := Lib.hid ho
  clear ho
  clear hx
  go_wp2_with fail
  refine (eqByteS_any _ _ x1 x1 _ _ _ Ox1.out.rd Oy1.out.rd).mono ?_
  rintro e w11 ⟨rfl, hD⟩
  rw [beq_self_eq_true]
  have hx := hD.ext
  replace OW := Lib.hid (OW.out.ext hx)
  replace Ox0 := Lib.hid (Ox0.out.ext hx)
  replace Ox1 := Lib.hid (Ox1.out.ext hx)
  replace OG := Lib.hid (OG.out.ext hx)
  replace Oy1 := Lib.hid (Oy1.out.ext hx)
  replace XW := Lib.hid (XW.out.trans hx)
  clear hx
  clear Oy1
  go_wp2_with fail
  refine (markByteS_any _ _ (1) _ _ Ox0.out.wr (by omega) (by omega)).mono ?_
  rintro e w12 ⟨rfl, hr, hg⟩
  replace XW := Lib.hid (XW.out.grown hg (fun k hk => (Ox0.out.base_le k hk).1))
  replace OW := Lib.hid (OW.out.kept hg NOW_Ox0.out)
  replace Ox1 := Lib.hid (Ox1.out.kept hg NOx1_Ox0.out)
  replace OG := Lib.hid (OG.out.kept hg NOG_Ox0.out)
  clear Ox0 hg
  clear hr
  go_wp2_with fail
  refine (markByteS_any _ _ (1 + (x0.length : Int)) _ _ Ox1.out.wr (by omega) (by omega)).mono ?_
  rintro e w13 ⟨rfl, hr, hg⟩
  replace XW := Lib.hid (XW.out.grown hg (fun k hk => (Ox1.out.base_le k hk).1))
  replace OW := Lib.hid (OW.out.kept hg NOW_Ox1.out)
  replace OG := Lib.hid (OG.out.kept hg NOG_Ox1.out)
  clear Ox1 hg
  clear hr
  go_wp2_with fail
  refine (eqByteS_any _ _ R R _ _ _ OG.out.rd OW.out.rd).mono ?_
  rintro e w14 ⟨rfl, hD⟩
  rw [beq_self_eq_true]
  have hx := hD.ext
  clear hD
  replace OW := Lib.hid (OW.out.ext hx)
  replace OG := Lib.hid (OG.out.ext hx)
  replace XW := Lib.hid (XW.out.trans hx)
  clear hx
  have hRl := OG.out.2.1
  go_wp2_with fail
  refine (markByteS_any _ _ 1 _ _ OG.out.wr (by omega) (by omega)).mono ?_
  rintro e w15 ⟨rfl, hr, hg⟩
  replace XW := Lib.hid (XW.out.grown hg (fun k hk => (OG.out.base_le k hk).1))
  replace OW := Lib.hid (OW.out.kept hg NOW_OG.out)
  clear OG hg
  have M := Lib.hid hr
  clear hr
  go_wp2_with fail
  refine (heldByteS_any _ _ 1 _ _ M.out (by omega) (by omega)).mono ?_
  rintro e w16 ⟨rfl, hD⟩
  have hx := hD.ext
  clear hD
  replace OW := Lib.hid (OW.out.ext hx)
  replace M := Lib.hid (M.out.ext (by decide) hx)
  replace XW := Lib.hid (XW.out.trans hx)
  clear hx
  have hqm : ((1 + (R.length : Int)) != 1 + (R.length : Int)) = false := by simp
  go_wp2_with fail
  refine (toByteS_any _ x0 _ _ (H0.out.ext (by decide) XW.out)).mono ?_
  rintro e w17 ⟨vz0, rfl, ho, hx⟩
  have NOW_Oz0 := Lib.hid (OW.out.apart ho (by first | exact Nat.le_refl _ | simp))
  have NOz0_OW := Lib.hid (OW.out.apart' ho (by first | exact Nat.le_refl _ | simp))
  replace ho := ho.le (base' := w.heap.size) XW.out.size
  replace OW := Lib.hid (OW.out.ext hx)
  replace M := Lib.hid (M.out.ext (by decide) hx)
  replace XW := Lib.hid (XW.out.trans hx)
  obtain ⟨Az0, qz0, rfl⟩ := ho.shape
  have Oz0 := Lib.hid ho
  clear ho
  clear hx
  go_wp2_with fail
  refine (toByteS_any _ x1 _ _ (H1.out.ext (by decide) XW.out)).mono ?_
  rintro e w18 ⟨vz1, rfl, ho, hx⟩
  have NOW_Oz1 := Lib.hid (OW.out.apart ho (by first | exact Nat.le_refl _ | simp))
  have NOz1_OW := Lib.hid (OW.out.apart' ho (by first | exact Nat.le_refl _ | simp))
  have NOz0_Oz1 := Lib.hid (Oz0.out.apart ho (by first | exact Nat.le_refl _ | simp))
  have NOz1_Oz0 := Lib.hid (Oz0.out.apart' ho (by first | exact Nat.le_refl _ | simp))
  replace ho := ho.le (base' := w.heap.size) XW.out.size
  replace OW := Lib.hid (OW.out.ext hx)
  replace M := Lib.hid (M.out.ext (by decide) hx)
  replace Oz0 := Lib.hid (Oz0.out.ext hx)
  replace XW := Lib.hid (XW.out.trans hx)
  obtain ⟨Az1, qz1, rfl⟩ := ho.shape
  have Oz1 := Lib.hid ho
  clear ho
  clear hx
  go_wp2_with fail
  refine (implDeltaOf_any _ _ x0 x1 _ _ _ Oz0.out.rd Oz1.out.rd).mono ?_
  rintro e w19 ⟨vH, he, ho, hx⟩
  rw [HR2.out] at he
  subst he
  rw [HR1.out] at ho
  have NOW_OH := Lib.hid (OW.out.apart ho (by first | exact Nat.le_refl _ | simp))
  have NOH_OW := Lib.hid (OW.out.apart' ho (by first | exact Nat.le_refl _ | simp))
  have NOz0_OH := Lib.hid (Oz0.out.apart ho (by first | exact Nat.le_refl _ | simp))
  have NOH_Oz0 := Lib.hid (Oz0.out.apart' ho (by first | exact Nat.le_refl _ | simp))
  have NOz1_OH := Lib.hid (Oz1.out.apart ho (by first | exact Nat.le_refl _ | simp))
  have NOH_Oz1 := Lib.hid (Oz1.out.apart' ho (by first | exact Nat.le_refl _ | simp))
  replace ho := ho.le (base' := w.heap.size) XW.out.size
  replace OW := Lib.hid (OW.out.ext hx)
  replace M := Lib.hid (M.out.ext (by decide) hx)
  replace Oz0 := Lib.hid (Oz0.out.ext hx)
  replace Oz1 := Lib.hid (Oz1.out.ext hx)
  replace XW := Lib.hid (XW.out.trans hx)
  obtain ⟨AH, qH, rfl⟩ := ho.shape
  have OH := Lib.hid ho
  clear ho
  clear hx
  go_wp2_with fail
  refine (eqByteS_any _ _ R R _ _ _ OH.out.rd OW.out.rd).mono ?_
  rintro e w20 ⟨rfl, hD⟩
  rw [beq_self_eq_true]
  have hx := hD.ext
  clear hD
  replace OW := Lib.hid (OW.out.ext hx)
  replace M := Lib.hid (M.out.ext (by decide) hx)
  replace Oz0 := Lib.hid (Oz0.out.ext hx)
  replace Oz1 := Lib.hid (Oz1.out.ext hx)
  replace OH := Lib.hid (OH.out.ext hx)
  replace XW := Lib.hid (XW.out.trans hx)
  clear hx
  go_wp2_with fail
  refine (heldByteS_any _ _ 1 _ _ M.out (by omega) (by omega)).mono ?_
  rintro e w21 ⟨rfl, hD⟩
  have hx := hD.ext
  clear hD
  replace OW := Lib.hid (OW.out.ext hx)
  replace M := Lib.hid (M.out.ext (by decide) hx)
  replace Oz0 := Lib.hid (Oz0.out.ext hx)
  replace Oz1 := Lib.hid (Oz1.out.ext hx)
  replace OH := Lib.hid (OH.out.ext hx)
  replace XW := Lib.hid (XW.out.trans hx)
  clear hx
  go_wp2_with fail
  go_ret
  exact ⟨rfl, XW.out⟩
end Go.Proofs.Yteegnbdgfedajaa
