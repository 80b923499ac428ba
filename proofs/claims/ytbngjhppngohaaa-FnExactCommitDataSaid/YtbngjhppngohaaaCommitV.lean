/- Which commits are valid: the reference and the program. No condition. -/
import Derived.Test.YtbngjhppngohaaaCommitT
import Derived.Test.YtbngjhppngohaaaCmp
import Derived.Test.YtbngjhppngohaaaNum
namespace Go.Proofs.Ytbngjhppngohaaa
open Go.RowKit
set_option linter.unusedVariables false
set_option linter.unusedSimpArgs false

def gL (L : List (List Int)) (i : Nat) : List Int := L.getD i []
theorem gL_lt {L : List (List Int)} {i : Nat} (h : i < L.length) : gL L i = L[i] := by simp [gL, List.getD_eq_getElem?_getD, h]
/-- the first n are in order -/
@[irreducible] def srtB (L : List (List Int)) (n : Nat) : Bool := (List.range (n - 1)).all fun i => decide (cmpL (gL L i) (gL L (i + 1)) < 0)
theorem srtB_one (L : List (List Int)) (n : Nat) (h : n ≤ 1) : srtB L n = true := by rw [srtB, show n - 1 = 0 by omega]; rfl
theorem srtB_succ (L : List (List Int)) (k : Nat) : srtB L (k + 2) = (srtB L (k + 1) && decide (cmpL (gL L k) (gL L (k + 1)) < 0)) := by
  rw [srtB, srtB, show k + 2 - 1 = k + 1 by omega, show k + 1 - 1 = k by omega, List.range_succ, List.all_append]; simp
theorem srtB_bad (L : List (List Int)) (k n : Nat) (h : k + 1 < n) (hb : ¬ cmpL (gL L k) (gL L (k + 1)) < 0) : srtB L n = false := by
  rw [srtB, List.all_eq_false]
  exact ⟨k, List.mem_range.2 (by omega), by simpa using hb⟩
/-- a valid commit -/
@[irreducible] def okCm (x : Cm) : Bool := decide (x.par.length ≤ 3) && (decide (0 ≤ x.num) && decide (x.num ≤ 40)) && decide (x.note.size ≤ 64) && srtB x.par x.par.length
theorem okCm_eq (x : Cm) : okCm x = (decide (x.par.length ≤ 3) && (decide (0 ≤ x.num) && decide (x.num ≤ 40)) && decide (x.note.size ≤ 64) && srtB x.par x.par.length) := by rw [okCm]
set_option maxHeartbeats 1000000 in
set_option maxRecDepth 100000 in
theorem l07Ok_any (cs : Array Value) (x : Cm) (w : World) (S : Nat → Prop) (h : RCommit w S cs x) (b : Nat) (hb : Blk w b 31 cs) :
    Calls Try.prog 54 #[.pointer (some ⟨b, 0, none⟩)] w fun e w' => e = .returned (.bool (okCm x)) ∧ Ext w w' := by
  obtain ⟨v, rfl, hr, hroot, hnum, hnote⟩ := h
  obtain ⟨A, cap, rfl, hcap, hlen, hrd, hok⟩ := id hr
  have HAT := Lib.hid (Cm.at_ hroot (.slice A x.par.length cap))
  have HB := Lib.hid hb
  have Hrd := Lib.hid hrd
  have Hok := Lib.hid hok
  have Hcm := Lib.hid (okCm_eq x)
  have c0 := hb.at_ 32 HAT.out.1
  have c1 := hb.at_ 33 HAT.out.2.1
  have c2 := hb.at_ 34 HAT.out.2.2
  have hin := l00In_any x.num 0 40
  clear hb hrd hok hr
  by_cases h1 : x.par.length ≤ 3
  rotate_left
  · have e : okCm x = false := by rw [Hcm.out]; simp [h1]
    rw [e]
    clear e Hcm
    go_enter Try.func54, Try.ntmps54
    go_wp2
    go_ret
    exact ⟨rfl, Ext.refl _⟩
  cases h2 : (decide (0 ≤ x.num) && decide (x.num ≤ 40)) with
  | false =>
    have e : okCm x = false := by rw [Hcm.out, h2]; simp
    rw [e]
    simp only [h2] at hin
    clear e Hcm h2
    go_enter Try.func54, Try.ntmps54
    go_wp2_with fail
    refine (hin _).mono ?_
    rintro e w' ⟨rfl, rfl⟩
    go_wp2
    go_ret
    exact ⟨rfl, Ext.refl _⟩
  | true =>
    simp only [h2] at hin
    by_cases h3 : x.note.size ≤ 64
    rotate_left
    · have e : okCm x = false := by rw [Hcm.out]; simp [h3]
      rw [e]
      clear e Hcm h2
      go_enter Try.func54, Try.ntmps54
      go_wp2_with fail
      refine (hin _).mono ?_
      rintro e w' ⟨rfl, rfl⟩
      go_wp2
      go_ret
      exact ⟨rfl, Ext.refl _⟩
    have e : okCm x = srtB x.par x.par.length := by rw [Hcm.out, h2]; simp [h1, h3]
    have HE := Lib.hid e
    clear e Hcm h2
    have Hz := Lib.hid (srtB_one x.par 1 (Nat.le_refl _))
    go_enter Try.func54, Try.ntmps54
    go_wp2_with fail
    refine (hin _).mono ?_
    rintro e w' ⟨rfl, rfl⟩
    go_wp2
    go_loopw [3] (fun i wr => ∃ k : Nat, (k + 1 ≤ x.par.length ∨ k = 0) ∧ i = .int .i64 ((k : Int) + 1) ∧ srtB x.par (k + 1) = true ∧ Ext w wr) (fun i _ => x.par.length - (intOf i).toNat)
    case atStart => exact ⟨0, by omega, rfl, Hz.out, Ext.refl _⟩
    case round =>
    obtain ⟨k, hk, rfl, hs, hx⟩ := hrel
    have HS := Lib.hid hs
    have HX := Lib.hid hx
    clear hs hx hin c0 c1 c2 Hz
    have d0 : ∀ W, Ext wr W → W.cell? ⟨b, 32, none⟩ = some (.slice A x.par.length cap) := fun W hW => (HB.out.ext (HX.out.trans hW)).at_ 32 HAT.out.1
    have R := Ext.refl wr
    by_cases hlt : k + 1 < x.par.length
    · obtain ⟨g, o, rfl, hs0, hc0⟩ := Hrd.out.elem Hok.out k (by omega)
      obtain ⟨g2, o2, e, hs1, hc1⟩ := Hrd.out.elem Hok.out (k + 1) hlt
      injection e with e
      injection e with e1 e2
      subst e1
      subst e2
      have HX0 := Lib.hid (show K32 x.par[k] from Hok.out _ (List.getElem_mem _))
      have HX1 := Lib.hid (show K32 x.par[k + 1] from Hok.out _ (List.getElem_mem hlt))
      have HD0 := Lib.hid (show ∀ j u, (tKey.enc x.par[k])[j]? = some u → wr.cell? ⟨g, o + k * 32 + j, none⟩ = some u from fun j u hu => HX.out.cell (hc0 j u hu))
      have HD1 := Lib.hid (show ∀ j u, (tKey.enc x.par[k + 1])[j]? = some u → wr.cell? ⟨g, o + (k + 1) * 32 + j, none⟩ = some u from fun j u hu => HX.out.cell (hc1 j u hu))
      clear hc0 hc1
      have hi : (0 : Int) ≤ (k : Int) := by omega
      have hi3 : (0 : Int) ≤ (k : Int) + 1 := by omega
      have hi1 : (k : Int) < (x.par.length : Int) := by omega
      have hi2 : (k : Int) + 1 < (x.par.length : Int) := by omega
      have HSN := Lib.hid (srtB_succ x.par k)
      have HG0 := Lib.hid (gL_lt (L := x.par) (i := k) (by omega))
      have HG1 := Lib.hid (gL_lt hlt)
      have W1 : IntKind.i64.wrap (k : Int) = k := IntWalk.i64_in _ (by omega)
      go_wp2_with fail
      refine wp_region_held_drew (S := fun W => Ext wr W) (by kernel_rfl) (Ext.refl _).drew (fun hHeld => ?_)
      refine wpAnyH_take (i := 0) (oi := ?oiz1) (v := ?vz1) ?hiz1 (by kernel_rfl) (by kernel_rfl) (by kernel_rfl) ?hQz1 ?hyz1 (by assumption) ?restz1
      case hiz1 => simp only [List.getElem?_toArray, List.getElem?_cons_zero, List.getElem?_cons_succ]; rfl
      case hQz1 => exact fun _ _ _ h => h
      case hyz1 => exact Or.inl ⟨by rfl, by intro w hSw; (try dsimp only at hSw); go_simp; with_reducible rfl⟩
      try simp only [Act.put, List.setIfInBounds_toArray, List.set_cons_zero, List.set_cons_succ]
      refine wpAnyH_take (i := 1) (oi := ?oiz2) (v := ?vz2) ?hiz2 (by kernel_rfl) (by kernel_rfl) (by kernel_rfl) ?hQz2 ?hyz2 (by assumption) ?restz2
      case hiz2 => simp only [List.getElem?_toArray, List.getElem?_cons_zero, List.getElem?_cons_succ]; rfl
      case hQz2 => exact fun _ _ _ h => h
      case hyz2 => exact Or.inl ⟨by rfl, by intro w hSw; (try dsimp only at hSw); go_simp; with_reducible rfl⟩
      try simp only [Act.put, List.setIfInBounds_toArray, List.set_cons_zero, List.set_cons_succ]
      refine wpAnyH_take (i := 2) (oi := ?oiz3) (v := ?vz3) ?hiz3 (by kernel_rfl) (by kernel_rfl) (by kernel_rfl) ?hQz3 ?hyz3 (by assumption) ?restz3
      case hiz3 => simp only [List.getElem?_toArray, List.getElem?_cons_zero, List.getElem?_cons_succ]; rfl
      case hQz3 => exact fun _ _ _ h => h
      case hyz3 => exact Or.inl ⟨by rfl, by intro w hSw; (try dsimp only at hSw); go_simp; with_reducible rfl⟩
      try simp only [Act.put, List.setIfInBounds_toArray, List.set_cons_zero, List.set_cons_succ]
      refine wpAnyH_take (i := 3) (oi := ?oiz4) (v := ?vz4) ?hiz4 (by kernel_rfl) (by kernel_rfl) (by kernel_rfl) ?hQz4 ?hyz4 (by assumption) ?restz4
      case hiz4 => simp only [List.getElem?_toArray, List.getElem?_cons_zero, List.getElem?_cons_succ]; rfl
      case hQz4 => exact fun _ _ _ h => h
      case hyz4 => exact Or.inl ⟨by rfl, by intro w hSw; (try dsimp only at hSw); go_simp; with_reducible rfl⟩
      try simp only [Act.put, List.setIfInBounds_toArray, List.set_cons_zero, List.set_cons_succ]
      refine wpAnyH_take (i := 4) (oi := ?oiz5) (v := ?vz5) ?hiz5 (by kernel_rfl) (by kernel_rfl) (by kernel_rfl) ?hQz5 ?hyz5 (by assumption) ?restz5
      case hiz5 => simp only [List.getElem?_toArray, List.getElem?_cons_zero, List.getElem?_cons_succ]; rfl
      case hQz5 => exact fun _ _ _ h => h
      case hyz5 => exact Or.inl ⟨by rfl, by intro w hSw; (try dsimp only at hSw); go_simp; with_reducible rfl⟩
      try simp only [Act.put, List.setIfInBounds_toArray, List.set_cons_zero, List.set_cons_succ]
      refine wpAnyH_take (i := 5) (oi := ?oiz6) (v := ?vz6) ?hiz6 (by kernel_rfl) (by kernel_rfl) (by kernel_rfl) ?hQz6 ?hyz6 (by assumption) ?restz6
      case hiz6 => simp only [List.getElem?_toArray, List.getElem?_cons_zero, List.getElem?_cons_succ]; rfl
      case hQz6 => exact fun _ _ _ h => h
      case hyz6 => exact Or.inl ⟨by rfl, by intro w hSw; (try dsimp only at hSw); go_simp; with_reducible rfl⟩
      try simp only [Act.put, List.setIfInBounds_toArray, List.set_cons_zero, List.set_cons_succ]
      refine wpAnyH_take (i := 6) (oi := ?oiz7) (v := ?vz7) ?hiz7 (by kernel_rfl) (by kernel_rfl) (by kernel_rfl) ?hQz7 ?hyz7 (by assumption) ?restz7
      case hiz7 => simp only [List.getElem?_toArray, List.getElem?_cons_zero, List.getElem?_cons_succ]; rfl
      case hQz7 => exact fun _ _ _ h => h
      case hyz7 => exact Or.inl ⟨by rfl, by intro w hSw; (try dsimp only at hSw); go_simp; with_reducible rfl⟩
      try simp only [Act.put, List.setIfInBounds_toArray, List.set_cons_zero, List.set_cons_succ]
      refine wpAnyH_take (i := 7) (oi := ?oiz8) (v := (.agg (tKey.enc x.par[k]).toArray)) ?hiz8 (by kernel_rfl) (by kernel_rfl) (by kernel_rfl) ?hQz8 ?hyz8 (by assumption) ?restz8
      case hiz8 => simp only [List.getElem?_toArray, List.getElem?_cons_zero, List.getElem?_cons_succ]; rfl
      case hQz8 => exact fun _ _ _ h => h
      case hyz8 => refine yields_loadR g (o + k * 32) (tKey.enc x.par[k]) (by rw [tKey.len _ HX0.out]; exact aggKey) HD0.out ?_ _ rfl rfl; rfl
      try simp only [Act.put, List.setIfInBounds_toArray, List.set_cons_zero, List.set_cons_succ]
      refine wpAnyH_take (i := 8) (oi := ?oiz9) (v := ?vz9) ?hiz9 (by kernel_rfl) (by kernel_rfl) (by kernel_rfl) ?hQz9 ?hyz9 (by assumption) ?restz9
      case hiz9 => simp only [List.getElem?_toArray, List.getElem?_cons_zero, List.getElem?_cons_succ]; rfl
      case hQz9 => exact fun _ _ _ h => h
      case hyz9 => exact Or.inl ⟨by rfl, by intro w hSw; (try dsimp only at hSw); go_simp; with_reducible rfl⟩
      try simp only [Act.put, List.setIfInBounds_toArray, List.set_cons_zero, List.set_cons_succ]
      refine wpAnyH_take (i := 9) (oi := ?oiz10) (v := ?vz10) ?hiz10 (by kernel_rfl) (by kernel_rfl) (by kernel_rfl) ?hQz10 ?hyz10 (by assumption) ?restz10
      case hiz10 => simp only [List.getElem?_toArray, List.getElem?_cons_zero, List.getElem?_cons_succ]; rfl
      case hQz10 => exact fun _ _ _ h => h
      case hyz10 => exact Or.inl ⟨by rfl, by intro w hSw; (try dsimp only at hSw); go_simp; with_reducible rfl⟩
      try simp only [Act.put, List.setIfInBounds_toArray, List.set_cons_zero, List.set_cons_succ]
      refine wpAnyH_take (i := 10) (oi := ?oiz11) (v := ?vz11) ?hiz11 (by kernel_rfl) (by kernel_rfl) (by kernel_rfl) ?hQz11 ?hyz11 (by assumption) ?restz11
      case hiz11 => simp only [List.getElem?_toArray, List.getElem?_cons_zero, List.getElem?_cons_succ]; rfl
      case hQz11 => exact fun _ _ _ h => h
      case hyz11 => exact Or.inl ⟨by rfl, by intro w hSw; (try dsimp only at hSw); go_simp; with_reducible rfl⟩
      try simp only [Act.put, List.setIfInBounds_toArray, List.set_cons_zero, List.set_cons_succ]
      refine wpAnyH_take (i := 11) (oi := ?oiz12) (v := ?vz12) ?hiz12 (by kernel_rfl) (by kernel_rfl) (by kernel_rfl) ?hQz12 ?hyz12 (by assumption) ?restz12
      case hiz12 => simp only [List.getElem?_toArray, List.getElem?_cons_zero, List.getElem?_cons_succ]; rfl
      case hQz12 => exact fun _ _ _ h => h
      case hyz12 => exact Or.inl ⟨by rfl, by intro w hSw; (try dsimp only at hSw); go_simp; with_reducible rfl⟩
      try simp only [Act.put, List.setIfInBounds_toArray, List.set_cons_zero, List.set_cons_succ]
      refine wpAnyH_take (i := 12) (oi := ?oiz13) (v := ?vz13) ?hiz13 (by kernel_rfl) (by kernel_rfl) (by kernel_rfl) ?hQz13 ?hyz13 (by assumption) ?restz13
      case hiz13 => simp only [List.getElem?_toArray, List.getElem?_cons_zero, List.getElem?_cons_succ]; rfl
      case hQz13 => exact fun _ _ _ h => h
      case hyz13 => exact Or.inl ⟨by rfl, by intro w hSw; (try dsimp only at hSw); go_simp; with_reducible rfl⟩
      try simp only [Act.put, List.setIfInBounds_toArray, List.set_cons_zero, List.set_cons_succ]
      refine wpAnyH_take (i := 13) (oi := ?oiz14) (v := ?vz14) ?hiz14 (by kernel_rfl) (by kernel_rfl) (by kernel_rfl) ?hQz14 ?hyz14 (by assumption) ?restz14
      case hiz14 => simp only [List.getElem?_toArray, List.getElem?_cons_zero, List.getElem?_cons_succ]; rfl
      case hQz14 => exact fun _ _ _ h => h
      case hyz14 => exact Or.inl ⟨by rfl, by intro w hSw; (try dsimp only at hSw); go_simp; with_reducible rfl⟩
      try simp only [Act.put, List.setIfInBounds_toArray, List.set_cons_zero, List.set_cons_succ]
      refine wpAnyH_take (i := 14) (oi := ?oiz15) (v := (.agg (tKey.enc x.par[k + 1]).toArray)) ?hiz15 (by kernel_rfl) (by kernel_rfl) (by kernel_rfl) ?hQz15 ?hyz15 (by assumption) ?restz15
      case hiz15 => simp only [List.getElem?_toArray, List.getElem?_cons_zero, List.getElem?_cons_succ]; rfl
      case hQz15 => exact fun _ _ _ h => h
      case hyz15 => refine yields_loadR g (o + (k + 1) * 32) (tKey.enc x.par[k + 1]) (by rw [tKey.len _ HX1.out]; exact aggKey) HD1.out ?_ _ rfl rfl; rfl
      try simp only [Act.put, List.setIfInBounds_toArray, List.set_cons_zero, List.set_cons_succ]
      refine wpAnyH_ready (rs := [15]) (by kernel_rfl) (by simp) (AllReadyH.cons (o := ?oy1615) ?hy1615 (fun K hK => ?sy1615) AllReadyH.nil)
      case hy1615 => simp only [List.getElem?_toArray, List.getElem?_cons_zero, List.getElem?_cons_succ]; rfl
      go_simp
      refine (l01Compare_any x.par[k] x.par[k + 1] HX0.out HX1.out _).mono ?_
      rintro e w1 ⟨rfl, hx⟩
      have hH2 := hHeld.trans hx
      refine hK.out _ _ hH2 (fun _ => ?_)
      clear hHeld hK K
      have hHeld := hH2
      clear hH2
      try simp only [Act.put, List.setIfInBounds_toArray, List.set_cons_zero, List.set_cons_succ]
      refine wpAnyH_take (i := 16) (oi := ?oiz17) (v := ?vz17) ?hiz17 (by kernel_rfl) (by kernel_rfl) (by kernel_rfl) ?hQz17 ?hyz17 (by assumption) ?restz17
      case hiz17 => simp only [List.getElem?_toArray, List.getElem?_cons_zero, List.getElem?_cons_succ]; rfl
      case hQz17 => exact fun _ _ _ h => h
      case hyz17 => exact Or.inl ⟨by rfl, by intro w hSw; (try dsimp only at hSw); go_simp; with_reducible rfl⟩
      try simp only [Act.put, List.setIfInBounds_toArray, List.set_cons_zero, List.set_cons_succ]
      refine wpAnyH_done (by kernel_rfl) ?_ _
      have HX2 := Lib.hid (HX.out.trans hHeld)
      clear hHeld d0 R
      by_cases hc : cmpL x.par[k] x.par[k + 1] < 0
      · have hge : ¬ (0 : Int) ≤ cmpL x.par[k] x.par[k + 1] := by omega
        have Hc := Lib.hid hc
        clear hc
        go_wp2
        go_roundw
        case rel => exact ⟨k + 1, by omega, by go_num, by rw [HSN.out, HS.out, HG0.out, HG1.out]; simpa using Hc.out, HX2.out⟩
        case measure => simp [intOf]; omega
      · have hge : (0 : Int) ≤ cmpL x.par[k] x.par[k + 1] := by omega
        have Hbad := Lib.hid (srtB_bad x.par k x.par.length hlt (by rw [HG0.out, HG1.out]; exact hc))
        clear hc
        go_wp2
        go_ret
        exact ⟨by rw [HE.out, Hbad.out]; rfl, HX2.out⟩
    · go_wp2
      go_ret
      refine ⟨?_, HX.out⟩
      rw [HE.out]
      rcases hk with hk | rfl
      · rw [show x.par.length = k + 1 by omega, HS.out]; rfl
      · rw [srtB_one _ _ (by omega)]; rfl

set_option maxHeartbeats 1000000 in
set_option maxRecDepth 100000 in
theorem validCommit_any (cs : Array Value) (x : Cm) (w : World) (S : Nat → Prop) (h : RCommit w S cs x) :
    Calls Try.prog 19 #[.agg cs] w fun e w' => e = .returned (.bool (okCm x)) ∧ Ext w w' := by
  obtain ⟨v, rfl, hr, hroot, hnum, hnote⟩ := h
  obtain ⟨A, cap, rfl, hcap, hlen, hrd, hok⟩ := id hr
  have HAT := Lib.hid (Cm.at_ hroot (.slice A x.par.length cap))
  have Hrd := Lib.hid hrd
  have Hok := Lib.hid hok
  have Hcm := Lib.hid (okCm_eq x)
  have HB := Lib.hid (Blk.new w 31 (x.cells (.slice A x.par.length cap)))
  have hin := within_any x.num 0 40
  have Hin := Lib.hid hin
  have Hz := Lib.hid (srtB_one x.par 1 (Nat.le_refl _))
  clear hrd hok hr hin
  go_enter Try.func19, Try.ntmps19
  go_wp2
  go_loopw [3] (fun i wr => ∃ k : Nat, (k + 1 ≤ x.par.length ∨ k = 0) ∧ i = .int .i64 ((k : Int) + 1) ∧ srtB x.par (k + 1) = true ∧ Ext (w.alloc (.cells (x.cells (.slice A x.par.length cap)) 31)) wr) (fun i _ => x.par.length - (intOf i).toNat)
  case atStart => exact ⟨0, by omega, rfl, Hz.out, Ext.refl _⟩
  case round =>
    obtain ⟨k, hk, rfl, hs, hx⟩ := hrel
    have HS := Lib.hid hs
    have HX := Lib.hid hx
    clear hs hx Hz
    have d0 : ∀ W, Ext wr W → W.cell? ⟨w.heap.size, 32, none⟩ = some (.slice A x.par.length cap) := fun W hW => (HB.out.ext (HX.out.trans hW)).at_ 32 HAT.out.1
    have R := Ext.refl wr
    by_cases hlt : k + 1 < x.par.length
    · obtain ⟨g, o, rfl, hs0, hc0⟩ := Hrd.out.elem Hok.out k (by omega)
      obtain ⟨g2, o2, e, hs1, hc1⟩ := Hrd.out.elem Hok.out (k + 1) hlt
      injection e with e
      injection e with e1 e2
      subst e1
      subst e2
      have HX0 := Lib.hid (show K32 x.par[k] from Hok.out _ (List.getElem_mem _))
      have HX1 := Lib.hid (show K32 x.par[k + 1] from Hok.out _ (List.getElem_mem hlt))
      have HXW := Lib.hid ((ext_alloc w _).trans HX.out)
      have HD0 := Lib.hid (show ∀ j u, (tKey.enc x.par[k])[j]? = some u → wr.cell? ⟨g, o + k * 32 + j, none⟩ = some u from fun j u hu => HXW.out.cell (hc0 j u hu))
      have HD1 := Lib.hid (show ∀ j u, (tKey.enc x.par[k + 1])[j]? = some u → wr.cell? ⟨g, o + (k + 1) * 32 + j, none⟩ = some u from fun j u hu => HXW.out.cell (hc1 j u hu))
      clear hc0 hc1
      have hi : (0 : Int) ≤ (k : Int) := by omega
      have hi3 : (0 : Int) ≤ (k : Int) + 1 := by omega
      have hi1 : (k : Int) < (x.par.length : Int) := by omega
      have hi2 : (k : Int) + 1 < (x.par.length : Int) := by omega
      have HSN := Lib.hid (srtB_succ x.par k)
      have HG0 := Lib.hid (gL_lt (L := x.par) (i := k) (by omega))
      have HG1 := Lib.hid (gL_lt hlt)
      have W1 : IntKind.i64.wrap (k : Int) = k := IntWalk.i64_in _ (by omega)
      go_wp2_with fail
      refine wp_region_held_drew (S := fun W => Ext wr W) (by kernel_rfl) (Ext.refl _).drew (fun hHeld => ?_)
      refine wpAnyH_take (i := 0) (oi := ?oiz18) (v := ?vz18) ?hiz18 (by kernel_rfl) (by kernel_rfl) (by kernel_rfl) ?hQz18 ?hyz18 (by assumption) ?restz18
      case hiz18 => simp only [List.getElem?_toArray, List.getElem?_cons_zero, List.getElem?_cons_succ]; rfl
      case hQz18 => exact fun _ _ _ h => h
      case hyz18 => exact Or.inl ⟨by rfl, by intro w hSw; (try dsimp only at hSw); go_simp; with_reducible rfl⟩
      try simp only [Act.put, List.setIfInBounds_toArray, List.set_cons_zero, List.set_cons_succ]
      refine wpAnyH_take (i := 1) (oi := ?oiz19) (v := ?vz19) ?hiz19 (by kernel_rfl) (by kernel_rfl) (by kernel_rfl) ?hQz19 ?hyz19 (by assumption) ?restz19
      case hiz19 => simp only [List.getElem?_toArray, List.getElem?_cons_zero, List.getElem?_cons_succ]; rfl
      case hQz19 => exact fun _ _ _ h => h
      case hyz19 => exact Or.inl ⟨by rfl, by intro w hSw; (try dsimp only at hSw); go_simp; with_reducible rfl⟩
      try simp only [Act.put, List.setIfInBounds_toArray, List.set_cons_zero, List.set_cons_succ]
      refine wpAnyH_take (i := 2) (oi := ?oiz20) (v := ?vz20) ?hiz20 (by kernel_rfl) (by kernel_rfl) (by kernel_rfl) ?hQz20 ?hyz20 (by assumption) ?restz20
      case hiz20 => simp only [List.getElem?_toArray, List.getElem?_cons_zero, List.getElem?_cons_succ]; rfl
      case hQz20 => exact fun _ _ _ h => h
      case hyz20 => exact Or.inl ⟨by rfl, by intro w hSw; (try dsimp only at hSw); go_simp; with_reducible rfl⟩
      try simp only [Act.put, List.setIfInBounds_toArray, List.set_cons_zero, List.set_cons_succ]
      refine wpAnyH_take (i := 3) (oi := ?oiz21) (v := ?vz21) ?hiz21 (by kernel_rfl) (by kernel_rfl) (by kernel_rfl) ?hQz21 ?hyz21 (by assumption) ?restz21
      case hiz21 => simp only [List.getElem?_toArray, List.getElem?_cons_zero, List.getElem?_cons_succ]; rfl
      case hQz21 => exact fun _ _ _ h => h
      case hyz21 => exact Or.inl ⟨by rfl, by intro w hSw; (try dsimp only at hSw); go_simp; with_reducible rfl⟩
      try simp only [Act.put, List.setIfInBounds_toArray, List.set_cons_zero, List.set_cons_succ]
      refine wpAnyH_take (i := 4) (oi := ?oiz22) (v := ?vz22) ?hiz22 (by kernel_rfl) (by kernel_rfl) (by kernel_rfl) ?hQz22 ?hyz22 (by assumption) ?restz22
      case hiz22 => simp only [List.getElem?_toArray, List.getElem?_cons_zero, List.getElem?_cons_succ]; rfl
      case hQz22 => exact fun _ _ _ h => h
      case hyz22 => exact Or.inl ⟨by rfl, by intro w hSw; (try dsimp only at hSw); go_simp; with_reducible rfl⟩
      try simp only [Act.put, List.setIfInBounds_toArray, List.set_cons_zero, List.set_cons_succ]
      refine wpAnyH_take (i := 5) (oi := ?oiz23) (v := (.agg (tKey.enc x.par[k]).toArray)) ?hiz23 (by kernel_rfl) (by kernel_rfl) (by kernel_rfl) ?hQz23 ?hyz23 (by assumption) ?restz23
      case hiz23 => simp only [List.getElem?_toArray, List.getElem?_cons_zero, List.getElem?_cons_succ]; rfl
      case hQz23 => exact fun _ _ _ h => h
      case hyz23 => refine yields_loadR g (o + k * 32) (tKey.enc x.par[k]) (by rw [tKey.len _ HX0.out]; exact aggKey) HD0.out ?_ _ rfl rfl; rfl
      try simp only [Act.put, List.setIfInBounds_toArray, List.set_cons_zero, List.set_cons_succ]
      refine wpAnyH_take (i := 6) (oi := ?oiz24) (v := ?vz24) ?hiz24 (by kernel_rfl) (by kernel_rfl) (by kernel_rfl) ?hQz24 ?hyz24 (by assumption) ?restz24
      case hiz24 => simp only [List.getElem?_toArray, List.getElem?_cons_zero, List.getElem?_cons_succ]; rfl
      case hQz24 => exact fun _ _ _ h => h
      case hyz24 => exact Or.inl ⟨by rfl, by intro w hSw; (try dsimp only at hSw); go_simp; with_reducible rfl⟩
      try simp only [Act.put, List.setIfInBounds_toArray, List.set_cons_zero, List.set_cons_succ]
      refine wpAnyH_take (i := 7) (oi := ?oiz25) (v := ?vz25) ?hiz25 (by kernel_rfl) (by kernel_rfl) (by kernel_rfl) ?hQz25 ?hyz25 (by assumption) ?restz25
      case hiz25 => simp only [List.getElem?_toArray, List.getElem?_cons_zero, List.getElem?_cons_succ]; rfl
      case hQz25 => exact fun _ _ _ h => h
      case hyz25 => exact Or.inl ⟨by rfl, by intro w hSw; (try dsimp only at hSw); go_simp; with_reducible rfl⟩
      try simp only [Act.put, List.setIfInBounds_toArray, List.set_cons_zero, List.set_cons_succ]
      refine wpAnyH_take (i := 8) (oi := ?oiz26) (v := ?vz26) ?hiz26 (by kernel_rfl) (by kernel_rfl) (by kernel_rfl) ?hQz26 ?hyz26 (by assumption) ?restz26
      case hiz26 => simp only [List.getElem?_toArray, List.getElem?_cons_zero, List.getElem?_cons_succ]; rfl
      case hQz26 => exact fun _ _ _ h => h
      case hyz26 => exact Or.inl ⟨by rfl, by intro w hSw; (try dsimp only at hSw); go_simp; with_reducible rfl⟩
      try simp only [Act.put, List.setIfInBounds_toArray, List.set_cons_zero, List.set_cons_succ]
      refine wpAnyH_take (i := 9) (oi := ?oiz27) (v := ?vz27) ?hiz27 (by kernel_rfl) (by kernel_rfl) (by kernel_rfl) ?hQz27 ?hyz27 (by assumption) ?restz27
      case hiz27 => simp only [List.getElem?_toArray, List.getElem?_cons_zero, List.getElem?_cons_succ]; rfl
      case hQz27 => exact fun _ _ _ h => h
      case hyz27 => exact Or.inl ⟨by rfl, by intro w hSw; (try dsimp only at hSw); go_simp; with_reducible rfl⟩
      try simp only [Act.put, List.setIfInBounds_toArray, List.set_cons_zero, List.set_cons_succ]
      refine wpAnyH_take (i := 10) (oi := ?oiz28) (v := (.agg (tKey.enc x.par[k + 1]).toArray)) ?hiz28 (by kernel_rfl) (by kernel_rfl) (by kernel_rfl) ?hQz28 ?hyz28 (by assumption) ?restz28
      case hiz28 => simp only [List.getElem?_toArray, List.getElem?_cons_zero, List.getElem?_cons_succ]; rfl
      case hQz28 => exact fun _ _ _ h => h
      case hyz28 => refine yields_loadR g (o + (k + 1) * 32) (tKey.enc x.par[k + 1]) (by rw [tKey.len _ HX1.out]; exact aggKey) HD1.out ?_ _ rfl rfl; rfl
      try simp only [Act.put, List.setIfInBounds_toArray, List.set_cons_zero, List.set_cons_succ]
      refine wpAnyH_ready (rs := [11]) (by kernel_rfl) (by simp) (AllReadyH.cons (o := ?oy2911) ?hy2911 (fun K hK => ?sy2911) AllReadyH.nil)
      case hy2911 => simp only [List.getElem?_toArray, List.getElem?_cons_zero, List.getElem?_cons_succ]; rfl
      go_simp
      refine (compareKeys_any x.par[k] x.par[k + 1] HX0.out HX1.out _).mono ?_
      rintro e w1 ⟨rfl, hx⟩
      have hH2 := hHeld.trans hx
      refine hK.out _ _ hH2 (fun _ => ?_)
      clear hHeld hK K
      have hHeld := hH2
      clear hH2
      try simp only [Act.put, List.setIfInBounds_toArray, List.set_cons_zero, List.set_cons_succ]
      refine wpAnyH_take (i := 12) (oi := ?oiz30) (v := ?vz30) ?hiz30 (by kernel_rfl) (by kernel_rfl) (by kernel_rfl) ?hQz30 ?hyz30 (by assumption) ?restz30
      case hiz30 => simp only [List.getElem?_toArray, List.getElem?_cons_zero, List.getElem?_cons_succ]; rfl
      case hQz30 => exact fun _ _ _ h => h
      case hyz30 => exact Or.inl ⟨by rfl, by intro w hSw; (try dsimp only at hSw); go_simp; with_reducible rfl⟩
      try simp only [Act.put, List.setIfInBounds_toArray, List.set_cons_zero, List.set_cons_succ]
      refine wpAnyH_done (by kernel_rfl) ?_ _
      have HX2 := Lib.hid (HX.out.trans hHeld)
      clear hHeld d0 R
      by_cases hc : cmpL x.par[k] x.par[k + 1] < 0
      · have hge : ¬ (0 : Int) ≤ cmpL x.par[k] x.par[k + 1] := by omega
        have Hc := Lib.hid hc
        clear hc
        go_wp2
        go_roundw
        case rel => exact ⟨k + 1, by omega, by go_num, by rw [HSN.out, HS.out, HG0.out, HG1.out]; simpa using Hc.out, HX2.out⟩
        case measure => simp [intOf]; omega
      · have hge : (0 : Int) ≤ cmpL x.par[k] x.par[k + 1] := by omega
        have Hbad := Lib.hid (srtB_bad x.par k x.par.length hlt (by rw [HG0.out, HG1.out]; exact hc))
        clear hc
        go_wp2
        go_ret
        exact ⟨by rw [Hcm.out, Hbad.out, Bool.and_false]; rfl, (ext_alloc w _).trans HX2.out⟩
    · have Hs : Hid (srtB x.par x.par.length = true) := Lib.hid (by
        rcases hk with hk | rfl
        · rw [show x.par.length = k + 1 by omega, HS.out]
        · rw [srtB_one _ _ (by omega)])
      have d1 := (HB.out.ext HX.out).at_ 33 HAT.out.2.1
      have d2 := (HB.out.ext HX.out).at_ 34 HAT.out.2.2
      have XW := Lib.hid ((ext_alloc w _).trans HX.out)
      have hin := Hin.out
      clear HX HS
      by_cases h1 : x.par.length ≤ 3
      rotate_left
      · have e : okCm x = false := by rw [Hcm.out]; simp [h1]
        have He := Lib.hid e
        clear e Hcm
        go_wp2
        go_ret
        exact ⟨by rw [He.out]; rfl, XW.out⟩
      cases h2 : (decide (0 ≤ x.num) && decide (x.num ≤ 40)) with
      | false =>
        have e : okCm x = false := by rw [Hcm.out, h2]; simp
        have He := Lib.hid e
        simp only [h2] at hin
        clear e Hcm h2
        go_wp2_with fail
        refine (hin _).mono ?_
        rintro e w' ⟨rfl, rfl⟩
        go_wp2
        go_ret
        exact ⟨by rw [He.out]; rfl, XW.out⟩
      | true =>
        simp only [h2] at hin
        have e : okCm x = decide (x.note.size ≤ 64) := by rw [Hcm.out, h2, Hs.out]; simp [h1]
        have He := Lib.hid e
        clear e Hcm h2
        go_wp2_with fail
        refine (hin _).mono ?_
        rintro e w' ⟨rfl, rfl⟩
        go_wp2
        go_ret
        exact ⟨by rw [He.out]; exact ret_bool (by simp; omega), XW.out⟩

end Go.Proofs.Ytbngjhppngohaaa
