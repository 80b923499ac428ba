/- What the walk of the law FnExactNodesOfMap needs, part 3 of 4. No condition. -/
import Derived.Test.YtikpakhccmdmcaaPFnExactNodesOfMap2
/- Which lists of entries are maps: the reference and the program. No condition. -/
namespace Go.Proofs.Ytikpakhccmdmcaa
open Go.RowKit
set_option linter.unusedVariables false
set_option linter.unusedSimpArgs false

def gE (L : List En) (i : Nat) : En := L.getD i (⟨#[]⟩, ⟨#[]⟩)
theorem gE_lt {L : List En} {i : Nat} (h : i < L.length) : gE L i = L[i] := by simp [gE, List.getD_eq_getElem?_getD, h]
def incC (L : List En) (i : Nat) : Bool := entB (gE L i).1 (gE L i).2 && (i == 0 || ltB (gE L (i - 1)).1 (gE L i).1)
/-- the first n are valid and in order -/
@[irreducible] def incs (L : List En) (n : Nat) : Bool := (List.range n).all (incC L)
theorem incs_zero (L : List En) : incs L 0 = true := by rw [incs]; rfl
theorem incs_succ (L : List En) (n : Nat) : incs L (n + 1) = (incs L n && incC L n) := by rw [incs, incs, List.range_succ, List.all_append]; simp
theorem incs_bad (L : List En) (k n : Nat) (h : k < n) (hb : incC L k = false) : incs L n = false := by
  rw [incs, List.all_eq_false]
  exact ⟨k, List.mem_range.2 h, by simp [hb]⟩
/-- a map -/
@[irreducible] def okE (L : List En) : Bool := incs L L.length && decide (L.length ≤ 64)
theorem okE_eq (L : List En) : okE L = (incs L L.length && decide (L.length ≤ 64)) := by rw [okE]
set_option maxHeartbeats 1000000 in
set_option maxRecDepth 100000 in
theorem l04Ok_any (v : Value) (L : List En) (w : World) (S : Nat → Prop) (h : RdL tEnt w S v L) :
    Calls Try.prog 41 #[v] w fun e w' => e = .returned (.bool (okE L)) ∧ Ext w w' := by
  obtain ⟨A, cap, rfl, hcap, hlen, hrd, hok⟩ := h
  have Hrd := Lib.hid hrd
  have Hok := Lib.hid hok
  have HE := Lib.hid (okE_eq L)
  have HZ := Lib.hid (incs_zero L)
  clear hrd hok
  go_enter Try.func41, Try.ntmps41
  go_wp2
  go_loopw [3] (fun i wr => ∃ k : Nat, k ≤ L.length ∧ i = .int .i64 k ∧ incs L k = true ∧ Ext w wr) (fun i _ => L.length - (intOf i).toNat)
  case atStart => exact ⟨0, by omega, rfl, HZ.out, Ext.refl _⟩
  case round =>
    obtain ⟨k, hk, rfl, hs, hx⟩ := hrel
    have HS := Lib.hid hs
    have HX := Lib.hid hx
    clear hs hx HZ
    by_cases hlt : k < L.length
    · obtain ⟨g, o, rfl, hs0, hc⟩ := Hrd.out.elem Hok.out k hlt
      have HO := Lib.hid (show tEnt.ok L[k] from Hok.out _ (List.getElem_mem hlt))
      have d0 : ∀ W, Ext wr W → W.cell? ⟨g, o + k * 2, none⟩ = some (.string L[k].1) := fun W hW => (HX.out.trans hW).cell (hc 0 _ rfl)
      have d0b : ∀ W, Ext wr W → W.cell? ⟨g, o + k * 2 + 1, none⟩ = some (.string L[k].2) := fun W hW => (HX.out.trans hW).cell (hc 1 _ rfl)
      have hen := fun W => l04Entry_any L[k].1 L[k].2 HO.out.1 HO.out.2 g (o + k * 2) W
      have HSN := Lib.hid (incs_succ L k)
      have HGk := Lib.hid (gE_lt hlt)
      have hi : (0 : Int) ≤ (k : Int) := by omega
      have hi2 : (k : Int) < (L.length : Int) := by omega
      clear hc
      cases hb : entB L[k].1 L[k].2 with
      | false =>
        have HB := Lib.hid (incs_bad L k L.length hlt (by rw [incC, HGk.out, hb]; rfl))
        simp only [hb] at hen
        clear hb
        go_wp2_with fail
        refine wp_region_held_drew (S := fun W => Ext wr W) (by kernel_rfl) (Ext.refl _).drew (fun hHeld => ?_)
        refine wpAnyH_take (i := 0) (oi := ?oiz1) (v := ?vz1) ?hiz1 (by kernel_rfl) (by kernel_rfl) (by kernel_rfl) ?hQz1 ?hyz1 (by assumption) ?restz1
        case hiz1 => simp only [List.getElem?_toArray, List.getElem?_cons_zero, List.getElem?_cons_succ]; rfl
        case hQz1 => exact fun _ _ _ h => h
        case hyz1 => exact Or.inl ⟨by rfl, by intro w hSw; (try dsimp only at hSw); go_simp; with_reducible rfl⟩
        try simp only [Act.put, List.setIfInBounds_toArray, List.set_cons_zero, List.set_cons_succ]
        refine wpAnyH_take (i := 1) (oi := ?oiz2) (v := ?vz2) ?hiz2 (by kernel_rfl) (by kernel_rfl) (by kernel_rfl) ?hQz2 ?hyz2 (by assumption) ?restz2
        case hiz2 => simp only [List.getElem?_toArray, List.getElem?_cons_zero, List.getElem?_cons_succ]; rfl
        case hQz2 => exact fun _ _ _ h => h
        case hyz2 => exact Or.inl ⟨by rfl, by intro w hSw; (try dsimp only at hSw); go_simp; with_reducible rfl⟩
        try simp only [Act.put, List.setIfInBounds_toArray, List.set_cons_zero, List.set_cons_succ]
        refine wpAnyH_take (i := 2) (oi := ?oiz3) (v := ?vz3) ?hiz3 (by kernel_rfl) (by kernel_rfl) (by kernel_rfl) ?hQz3 ?hyz3 (by assumption) ?restz3
        case hiz3 => simp only [List.getElem?_toArray, List.getElem?_cons_zero, List.getElem?_cons_succ]; rfl
        case hQz3 => exact fun _ _ _ h => h
        case hyz3 => exact Or.inl ⟨by rfl, by intro w hSw; (try dsimp only at hSw); go_simp; with_reducible rfl⟩
        try simp only [Act.put, List.setIfInBounds_toArray, List.set_cons_zero, List.set_cons_succ]
        refine wpAnyH_ready (rs := [3]) (by kernel_rfl) (by simp) (AllReadyH.cons (o := ?oy43) ?hy43 (fun K hK => ?sy43) AllReadyH.nil)
        case hy43 => simp only [List.getElem?_toArray, List.getElem?_cons_zero, List.getElem?_cons_succ]; rfl
        go_simp
        refine (hen _ (d0 _ hHeld) (d0b _ hHeld)).mono ?_
        rintro e w' ⟨rfl, rfl⟩
        refine hK.out _ _ hHeld (fun _ => ?_)
        clear hK K
        try simp only [Act.put, List.setIfInBounds_toArray, List.set_cons_zero, List.set_cons_succ]
        refine wpAnyH_take (i := 4) (oi := ?oiz5) (v := ?vz5) ?hiz5 (by kernel_rfl) (by kernel_rfl) (by kernel_rfl) ?hQz5 ?hyz5 (by assumption) ?restz5
        case hiz5 => simp only [List.getElem?_toArray, List.getElem?_cons_zero, List.getElem?_cons_succ]; rfl
        case hQz5 => exact fun _ _ _ h => h
        case hyz5 => exact Or.inl ⟨by rfl, by intro w hSw; (try dsimp only at hSw); go_simp; with_reducible rfl⟩
        try simp only [Act.put, List.setIfInBounds_toArray, List.set_cons_zero, List.set_cons_succ]
        refine wpAnyH_take (i := 5) (oi := ?oiz6) (v := ?vz6) ?hiz6 (by kernel_rfl) (by kernel_rfl) (by kernel_rfl) ?hQz6 ?hyz6 (by assumption) ?restz6
        case hiz6 => simp only [List.getElem?_toArray, List.getElem?_cons_zero, List.getElem?_cons_succ]; rfl
        case hQz6 => exact fun _ _ _ h => h
        case hyz6 => exact Or.inl ⟨by rfl, by intro w hSw; (try dsimp only at hSw); go_simp; with_reducible rfl⟩
        try simp only [Act.put, List.setIfInBounds_toArray, List.set_cons_zero, List.set_cons_succ]
        refine wpAnyH_take (i := 6) (oi := ?oiz7) (v := undef) ?hiz7 (by kernel_rfl) (by kernel_rfl) (by kernel_rfl) ?hQz7 ?hyz7 (by assumption) ?restz7
        case hiz7 => simp only [List.getElem?_toArray, List.getElem?_cons_zero, List.getElem?_cons_succ]; rfl
        case hQz7 => exact fun _ _ _ h => h
        case hyz7 => exact Or.inr ⟨by rfl, rfl⟩
        try simp only [Act.put, List.setIfInBounds_toArray, List.set_cons_zero, List.set_cons_succ]
        refine wpAnyH_take (i := 7) (oi := ?oiz8) (v := undef) ?hiz8 (by kernel_rfl) (by kernel_rfl) (by kernel_rfl) ?hQz8 ?hyz8 (by assumption) ?restz8
        case hiz8 => simp only [List.getElem?_toArray, List.getElem?_cons_zero, List.getElem?_cons_succ]; rfl
        case hQz8 => exact fun _ _ _ h => h
        case hyz8 => exact Or.inr ⟨by rfl, rfl⟩
        try simp only [Act.put, List.setIfInBounds_toArray, List.set_cons_zero, List.set_cons_succ]
        refine wpAnyH_take (i := 8) (oi := ?oiz9) (v := undef) ?hiz9 (by kernel_rfl) (by kernel_rfl) (by kernel_rfl) ?hQz9 ?hyz9 (by assumption) ?restz9
        case hiz9 => simp only [List.getElem?_toArray, List.getElem?_cons_zero, List.getElem?_cons_succ]; rfl
        case hQz9 => exact fun _ _ _ h => h
        case hyz9 => exact Or.inr ⟨by rfl, rfl⟩
        try simp only [Act.put, List.setIfInBounds_toArray, List.set_cons_zero, List.set_cons_succ]
        refine wpAnyH_take (i := 9) (oi := ?oiz10) (v := undef) ?hiz10 (by kernel_rfl) (by kernel_rfl) (by kernel_rfl) ?hQz10 ?hyz10 (by assumption) ?restz10
        case hiz10 => simp only [List.getElem?_toArray, List.getElem?_cons_zero, List.getElem?_cons_succ]; rfl
        case hQz10 => exact fun _ _ _ h => h
        case hyz10 => exact Or.inr ⟨by rfl, rfl⟩
        try simp only [Act.put, List.setIfInBounds_toArray, List.set_cons_zero, List.set_cons_succ]
        refine wpAnyH_take (i := 10) (oi := ?oiz11) (v := undef) ?hiz11 (by kernel_rfl) (by kernel_rfl) (by kernel_rfl) ?hQz11 ?hyz11 (by assumption) ?restz11
        case hiz11 => simp only [List.getElem?_toArray, List.getElem?_cons_zero, List.getElem?_cons_succ]; rfl
        case hQz11 => exact fun _ _ _ h => h
        case hyz11 => exact Or.inr ⟨by rfl, rfl⟩
        try simp only [Act.put, List.setIfInBounds_toArray, List.set_cons_zero, List.set_cons_succ]
        refine wpAnyH_take (i := 11) (oi := ?oiz12) (v := undef) ?hiz12 (by kernel_rfl) (by kernel_rfl) (by kernel_rfl) ?hQz12 ?hyz12 (by assumption) ?restz12
        case hiz12 => simp only [List.getElem?_toArray, List.getElem?_cons_zero, List.getElem?_cons_succ]; rfl
        case hQz12 => exact fun _ _ _ h => h
        case hyz12 => exact Or.inr ⟨by rfl, rfl⟩
        try simp only [Act.put, List.setIfInBounds_toArray, List.set_cons_zero, List.set_cons_succ]
        refine wpAnyH_take (i := 12) (oi := ?oiz13) (v := undef) ?hiz13 (by kernel_rfl) (by kernel_rfl) (by kernel_rfl) ?hQz13 ?hyz13 (by assumption) ?restz13
        case hiz13 => simp only [List.getElem?_toArray, List.getElem?_cons_zero, List.getElem?_cons_succ]; rfl
        case hQz13 => exact fun _ _ _ h => h
        case hyz13 => exact Or.inr ⟨by rfl, rfl⟩
        try simp only [Act.put, List.setIfInBounds_toArray, List.set_cons_zero, List.set_cons_succ]
        refine wpAnyH_take (i := 13) (oi := ?oiz14) (v := undef) ?hiz14 (by kernel_rfl) (by kernel_rfl) (by kernel_rfl) ?hQz14 ?hyz14 (by assumption) ?restz14
        case hiz14 => simp only [List.getElem?_toArray, List.getElem?_cons_zero, List.getElem?_cons_succ]; rfl
        case hQz14 => exact fun _ _ _ h => h
        case hyz14 => exact Or.inr ⟨by rfl, rfl⟩
        try simp only [Act.put, List.setIfInBounds_toArray, List.set_cons_zero, List.set_cons_succ]
        refine wpAnyH_take (i := 14) (oi := ?oiz15) (v := undef) ?hiz15 (by kernel_rfl) (by kernel_rfl) (by kernel_rfl) ?hQz15 ?hyz15 (by assumption) ?restz15
        case hiz15 => simp only [List.getElem?_toArray, List.getElem?_cons_zero, List.getElem?_cons_succ]; rfl
        case hQz15 => exact fun _ _ _ h => h
        case hyz15 => exact Or.inr ⟨by rfl, rfl⟩
        try simp only [Act.put, List.setIfInBounds_toArray, List.set_cons_zero, List.set_cons_succ]
        refine wpAnyH_take (i := 15) (oi := ?oiz16) (v := undef) ?hiz16 (by kernel_rfl) (by kernel_rfl) (by kernel_rfl) ?hQz16 ?hyz16 (by assumption) ?restz16
        case hiz16 => simp only [List.getElem?_toArray, List.getElem?_cons_zero, List.getElem?_cons_succ]; rfl
        case hQz16 => exact fun _ _ _ h => h
        case hyz16 => exact Or.inr ⟨by rfl, rfl⟩
        try simp only [Act.put, List.setIfInBounds_toArray, List.set_cons_zero, List.set_cons_succ]
        refine wpAnyH_take (i := 16) (oi := ?oiz17) (v := undef) ?hiz17 (by kernel_rfl) (by kernel_rfl) (by kernel_rfl) ?hQz17 ?hyz17 (by assumption) ?restz17
        case hiz17 => simp only [List.getElem?_toArray, List.getElem?_cons_zero, List.getElem?_cons_succ]; rfl
        case hQz17 => exact fun _ _ _ h => h
        case hyz17 => exact Or.inr ⟨by rfl, rfl⟩
        try simp only [Act.put, List.setIfInBounds_toArray, List.set_cons_zero, List.set_cons_succ]
        refine wpAnyH_take (i := 17) (oi := ?oiz18) (v := undef) ?hiz18 (by kernel_rfl) (by kernel_rfl) (by kernel_rfl) ?hQz18 ?hyz18 (by assumption) ?restz18
        case hiz18 => simp only [List.getElem?_toArray, List.getElem?_cons_zero, List.getElem?_cons_succ]; rfl
        case hQz18 => exact fun _ _ _ h => h
        case hyz18 => exact Or.inr ⟨by rfl, rfl⟩
        try simp only [Act.put, List.setIfInBounds_toArray, List.set_cons_zero, List.set_cons_succ]
        refine wpAnyH_take (i := 18) (oi := ?oiz19) (v := undef) ?hiz19 (by kernel_rfl) (by kernel_rfl) (by kernel_rfl) ?hQz19 ?hyz19 (by assumption) ?restz19
        case hiz19 => simp only [List.getElem?_toArray, List.getElem?_cons_zero, List.getElem?_cons_succ]; rfl
        case hQz19 => exact fun _ _ _ h => h
        case hyz19 => exact Or.inr ⟨by rfl, rfl⟩
        try simp only [Act.put, List.setIfInBounds_toArray, List.set_cons_zero, List.set_cons_succ]
        refine wpAnyH_take (i := 19) (oi := ?oiz20) (v := undef) ?hiz20 (by kernel_rfl) (by kernel_rfl) (by kernel_rfl) ?hQz20 ?hyz20 (by assumption) ?restz20
        case hiz20 => simp only [List.getElem?_toArray, List.getElem?_cons_zero, List.getElem?_cons_succ]; rfl
        case hQz20 => exact fun _ _ _ h => h
        case hyz20 => exact Or.inr ⟨by rfl, rfl⟩
        try simp only [Act.put, List.setIfInBounds_toArray, List.set_cons_zero, List.set_cons_succ]
        refine wpAnyH_take (i := 20) (oi := ?oiz21) (v := undef) ?hiz21 (by kernel_rfl) (by kernel_rfl) (by kernel_rfl) ?hQz21 ?hyz21 (by assumption) ?restz21
        case hiz21 => simp only [List.getElem?_toArray, List.getElem?_cons_zero, List.getElem?_cons_succ]; rfl
        case hQz21 => exact fun _ _ _ h => h
        case hyz21 => exact Or.inr ⟨by rfl, rfl⟩
        try simp only [Act.put, List.setIfInBounds_toArray, List.set_cons_zero, List.set_cons_succ]
        refine wpAnyH_take (i := 21) (oi := ?oiz22) (v := undef) ?hiz22 (by kernel_rfl) (by kernel_rfl) (by kernel_rfl) ?hQz22 ?hyz22 (by assumption) ?restz22
        case hiz22 => simp only [List.getElem?_toArray, List.getElem?_cons_zero, List.getElem?_cons_succ]; rfl
        case hQz22 => exact fun _ _ _ h => h
        case hyz22 => exact Or.inr ⟨by rfl, rfl⟩
        try simp only [Act.put, List.setIfInBounds_toArray, List.set_cons_zero, List.set_cons_succ]
        refine wpAnyH_take (i := 22) (oi := ?oiz23) (v := ?vz23) ?hiz23 (by kernel_rfl) (by kernel_rfl) (by kernel_rfl) ?hQz23 ?hyz23 (by assumption) ?restz23
        case hiz23 => simp only [List.getElem?_toArray, List.getElem?_cons_zero, List.getElem?_cons_succ]; rfl
        case hQz23 => exact fun _ _ _ h => h
        case hyz23 => exact Or.inl ⟨by rfl, by intro w hSw; (try dsimp only at hSw); go_simp; with_reducible rfl⟩
        try simp only [Act.put, List.setIfInBounds_toArray, List.set_cons_zero, List.set_cons_succ]
        refine wpAnyH_done (by kernel_rfl) ?_ _
        have HX2 := Lib.hid (HX.out.trans hHeld)
        clear hHeld
        go_wp2
        go_ret
        exact ⟨by rw [HE.out, HB.out]; rfl, HX2.out⟩
      | true =>
        have HBk := Lib.hid hb
        simp only [hb] at hen
        clear hb
        rcases k with _ | j
        · simp only [Int.cast_ofNat_Int] at hi2 ⊢
          go_wp2_with fail
          refine wp_region_held_drew (S := fun W => Ext wr W) (by kernel_rfl) (Ext.refl _).drew (fun hHeld => ?_)
          refine wpAnyH_take (i := 0) (oi := ?oiz24) (v := ?vz24) ?hiz24 (by kernel_rfl) (by kernel_rfl) (by kernel_rfl) ?hQz24 ?hyz24 (by assumption) ?restz24
          case hiz24 => simp only [List.getElem?_toArray, List.getElem?_cons_zero, List.getElem?_cons_succ]; rfl
          case hQz24 => exact fun _ _ _ h => h
          case hyz24 => exact Or.inl ⟨by rfl, by intro w hSw; (try dsimp only at hSw); go_simp; with_reducible rfl⟩
          try simp only [Act.put, List.setIfInBounds_toArray, List.set_cons_zero, List.set_cons_succ]
          refine wpAnyH_take (i := 1) (oi := ?oiz25) (v := ?vz25) ?hiz25 (by kernel_rfl) (by kernel_rfl) (by kernel_rfl) ?hQz25 ?hyz25 (by assumption) ?restz25
          case hiz25 => simp only [List.getElem?_toArray, List.getElem?_cons_zero, List.getElem?_cons_succ]; rfl
          case hQz25 => exact fun _ _ _ h => h
          case hyz25 => exact Or.inl ⟨by rfl, by intro w hSw; (try dsimp only at hSw); go_simp; with_reducible rfl⟩
          try simp only [Act.put, List.setIfInBounds_toArray, List.set_cons_zero, List.set_cons_succ]
          refine wpAnyH_take (i := 2) (oi := ?oiz26) (v := ?vz26) ?hiz26 (by kernel_rfl) (by kernel_rfl) (by kernel_rfl) ?hQz26 ?hyz26 (by assumption) ?restz26
          case hiz26 => simp only [List.getElem?_toArray, List.getElem?_cons_zero, List.getElem?_cons_succ]; rfl
          case hQz26 => exact fun _ _ _ h => h
          case hyz26 => exact Or.inl ⟨by rfl, by intro w hSw; (try dsimp only at hSw); go_simp; with_reducible rfl⟩
          try simp only [Act.put, List.setIfInBounds_toArray, List.set_cons_zero, List.set_cons_succ]
          refine wpAnyH_ready (rs := [3]) (by kernel_rfl) (by simp) (AllReadyH.cons (o := ?oy273) ?hy273 (fun K hK => ?sy273) AllReadyH.nil)
          case hy273 => simp only [List.getElem?_toArray, List.getElem?_cons_zero, List.getElem?_cons_succ]; rfl
          go_simp
          refine (hen _ (d0 _ hHeld) (d0b _ hHeld)).mono ?_
          rintro e w' ⟨rfl, rfl⟩
          refine hK.out _ _ hHeld (fun _ => ?_)
          clear hK K
          try simp only [Act.put, List.setIfInBounds_toArray, List.set_cons_zero, List.set_cons_succ]
          refine wpAnyH_take (i := 4) (oi := ?oiz28) (v := ?vz28) ?hiz28 (by kernel_rfl) (by kernel_rfl) (by kernel_rfl) ?hQz28 ?hyz28 (by assumption) ?restz28
          case hiz28 => simp only [List.getElem?_toArray, List.getElem?_cons_zero, List.getElem?_cons_succ]; rfl
          case hQz28 => exact fun _ _ _ h => h
          case hyz28 => exact Or.inl ⟨by rfl, by intro w hSw; (try dsimp only at hSw); go_simp; with_reducible rfl⟩
          try simp only [Act.put, List.setIfInBounds_toArray, List.set_cons_zero, List.set_cons_succ]
          refine wpAnyH_take (i := 5) (oi := ?oiz29) (v := ?vz29) ?hiz29 (by kernel_rfl) (by kernel_rfl) (by kernel_rfl) ?hQz29 ?hyz29 (by assumption) ?restz29
          case hiz29 => simp only [List.getElem?_toArray, List.getElem?_cons_zero, List.getElem?_cons_succ]; rfl
          case hQz29 => exact fun _ _ _ h => h
          case hyz29 => exact Or.inl ⟨by rfl, by intro w hSw; (try dsimp only at hSw); go_simp; with_reducible rfl⟩
          try simp only [Act.put, List.setIfInBounds_toArray, List.set_cons_zero, List.set_cons_succ]
          refine wpAnyH_take (i := 6) (oi := ?oiz30) (v := ?vz30) ?hiz30 (by kernel_rfl) (by kernel_rfl) (by kernel_rfl) ?hQz30 ?hyz30 (by assumption) ?restz30
          case hiz30 => simp only [List.getElem?_toArray, List.getElem?_cons_zero, List.getElem?_cons_succ]; rfl
          case hQz30 => exact fun _ _ _ h => h
          case hyz30 => exact Or.inl ⟨by rfl, by intro w hSw; (try dsimp only at hSw); go_simp; with_reducible rfl⟩
          try simp only [Act.put, List.setIfInBounds_toArray, List.set_cons_zero, List.set_cons_succ]
          refine wpAnyH_take (i := 7) (oi := ?oiz31) (v := ?vz31) ?hiz31 (by kernel_rfl) (by kernel_rfl) (by kernel_rfl) ?hQz31 ?hyz31 (by assumption) ?restz31
          case hiz31 => simp only [List.getElem?_toArray, List.getElem?_cons_zero, List.getElem?_cons_succ]; rfl
          case hQz31 => exact fun _ _ _ h => h
          case hyz31 => exact Or.inl ⟨by rfl, by intro w hSw; (try dsimp only at hSw); go_simp; with_reducible rfl⟩
          try simp only [Act.put, List.setIfInBounds_toArray, List.set_cons_zero, List.set_cons_succ]
          refine wpAnyH_take (i := 8) (oi := ?oiz32) (v := ?vz32) ?hiz32 (by kernel_rfl) (by kernel_rfl) (by kernel_rfl) ?hQz32 ?hyz32 (by assumption) ?restz32
          case hiz32 => simp only [List.getElem?_toArray, List.getElem?_cons_zero, List.getElem?_cons_succ]; rfl
          case hQz32 => exact fun _ _ _ h => h
          case hyz32 => exact Or.inl ⟨by rfl, by intro w hSw; (try dsimp only at hSw); go_simp; with_reducible rfl⟩
          try simp only [Act.put, List.setIfInBounds_toArray, List.set_cons_zero, List.set_cons_succ]
          refine wpAnyH_take (i := 9) (oi := ?oiz33) (v := undef) ?hiz33 (by kernel_rfl) (by kernel_rfl) (by kernel_rfl) ?hQz33 ?hyz33 (by assumption) ?restz33
          case hiz33 => simp only [List.getElem?_toArray, List.getElem?_cons_zero, List.getElem?_cons_succ]; rfl
          case hQz33 => exact fun _ _ _ h => h
          case hyz33 => exact Or.inr ⟨by rfl, rfl⟩
          try simp only [Act.put, List.setIfInBounds_toArray, List.set_cons_zero, List.set_cons_succ]
          refine wpAnyH_take (i := 10) (oi := ?oiz34) (v := undef) ?hiz34 (by kernel_rfl) (by kernel_rfl) (by kernel_rfl) ?hQz34 ?hyz34 (by assumption) ?restz34
          case hiz34 => simp only [List.getElem?_toArray, List.getElem?_cons_zero, List.getElem?_cons_succ]; rfl
          case hQz34 => exact fun _ _ _ h => h
          case hyz34 => exact Or.inr ⟨by rfl, rfl⟩
          try simp only [Act.put, List.setIfInBounds_toArray, List.set_cons_zero, List.set_cons_succ]
          refine wpAnyH_take (i := 11) (oi := ?oiz35) (v := undef) ?hiz35 (by kernel_rfl) (by kernel_rfl) (by kernel_rfl) ?hQz35 ?hyz35 (by assumption) ?restz35
          case hiz35 => simp only [List.getElem?_toArray, List.getElem?_cons_zero, List.getElem?_cons_succ]; rfl
          case hQz35 => exact fun _ _ _ h => h
          case hyz35 => exact Or.inr ⟨by rfl, rfl⟩
          try simp only [Act.put, List.setIfInBounds_toArray, List.set_cons_zero, List.set_cons_succ]
          refine wpAnyH_take (i := 12) (oi := ?oiz36) (v := undef) ?hiz36 (by kernel_rfl) (by kernel_rfl) (by kernel_rfl) ?hQz36 ?hyz36 (by assumption) ?restz36
          case hiz36 => simp only [List.getElem?_toArray, List.getElem?_cons_zero, List.getElem?_cons_succ]; rfl
          case hQz36 => exact fun _ _ _ h => h
          case hyz36 => exact Or.inr ⟨by rfl, rfl⟩
          try simp only [Act.put, List.setIfInBounds_toArray, List.set_cons_zero, List.set_cons_succ]
          refine wpAnyH_take (i := 13) (oi := ?oiz37) (v := undef) ?hiz37 (by kernel_rfl) (by kernel_rfl) (by kernel_rfl) ?hQz37 ?hyz37 (by assumption) ?restz37
          case hiz37 => simp only [List.getElem?_toArray, List.getElem?_cons_zero, List.getElem?_cons_succ]; rfl
          case hQz37 => exact fun _ _ _ h => h
          case hyz37 => exact Or.inr ⟨by rfl, rfl⟩
          try simp only [Act.put, List.setIfInBounds_toArray, List.set_cons_zero, List.set_cons_succ]
          refine wpAnyH_take (i := 14) (oi := ?oiz38) (v := undef) ?hiz38 (by kernel_rfl) (by kernel_rfl) (by kernel_rfl) ?hQz38 ?hyz38 (by assumption) ?restz38
          case hiz38 => simp only [List.getElem?_toArray, List.getElem?_cons_zero, List.getElem?_cons_succ]; rfl
          case hQz38 => exact fun _ _ _ h => h
          case hyz38 => exact Or.inr ⟨by rfl, rfl⟩
          try simp only [Act.put, List.setIfInBounds_toArray, List.set_cons_zero, List.set_cons_succ]
          refine wpAnyH_take (i := 15) (oi := ?oiz39) (v := undef) ?hiz39 (by kernel_rfl) (by kernel_rfl) (by kernel_rfl) ?hQz39 ?hyz39 (by assumption) ?restz39
          case hiz39 => simp only [List.getElem?_toArray, List.getElem?_cons_zero, List.getElem?_cons_succ]; rfl
          case hQz39 => exact fun _ _ _ h => h
          case hyz39 => exact Or.inr ⟨by rfl, rfl⟩
          try simp only [Act.put, List.setIfInBounds_toArray, List.set_cons_zero, List.set_cons_succ]
          refine wpAnyH_take (i := 16) (oi := ?oiz40) (v := undef) ?hiz40 (by kernel_rfl) (by kernel_rfl) (by kernel_rfl) ?hQz40 ?hyz40 (by assumption) ?restz40
          case hiz40 => simp only [List.getElem?_toArray, List.getElem?_cons_zero, List.getElem?_cons_succ]; rfl
          case hQz40 => exact fun _ _ _ h => h
          case hyz40 => exact Or.inr ⟨by rfl, rfl⟩
          try simp only [Act.put, List.setIfInBounds_toArray, List.set_cons_zero, List.set_cons_succ]
          refine wpAnyH_take (i := 17) (oi := ?oiz41) (v := undef) ?hiz41 (by kernel_rfl) (by kernel_rfl) (by kernel_rfl) ?hQz41 ?hyz41 (by assumption) ?restz41
          case hiz41 => simp only [List.getElem?_toArray, List.getElem?_cons_zero, List.getElem?_cons_succ]; rfl
          case hQz41 => exact fun _ _ _ h => h
          case hyz41 => exact Or.inr ⟨by rfl, rfl⟩
          try simp only [Act.put, List.setIfInBounds_toArray, List.set_cons_zero, List.set_cons_succ]
          refine wpAnyH_take (i := 18) (oi := ?oiz42) (v := undef) ?hiz42 (by kernel_rfl) (by kernel_rfl) (by kernel_rfl) ?hQz42 ?hyz42 (by assumption) ?restz42
          case hiz42 => simp only [List.getElem?_toArray, List.getElem?_cons_zero, List.getElem?_cons_succ]; rfl
          case hQz42 => exact fun _ _ _ h => h
          case hyz42 => exact Or.inr ⟨by rfl, rfl⟩
          try simp only [Act.put, List.setIfInBounds_toArray, List.set_cons_zero, List.set_cons_succ]
          refine wpAnyH_take (i := 19) (oi := ?oiz43) (v := undef) ?hiz43 (by kernel_rfl) (by kernel_rfl) (by kernel_rfl) ?hQz43 ?hyz43 (by assumption) ?restz43
          case hiz43 => simp only [List.getElem?_toArray, List.getElem?_cons_zero, List.getElem?_cons_succ]; rfl
          case hQz43 => exact fun _ _ _ h => h
          case hyz43 => exact Or.inr ⟨by rfl, rfl⟩
          try simp only [Act.put, List.setIfInBounds_toArray, List.set_cons_zero, List.set_cons_succ]
          refine wpAnyH_take (i := 20) (oi := ?oiz44) (v := undef) ?hiz44 (by kernel_rfl) (by kernel_rfl) (by kernel_rfl) ?hQz44 ?hyz44 (by assumption) ?restz44
          case hiz44 => simp only [List.getElem?_toArray, List.getElem?_cons_zero, List.getElem?_cons_succ]; rfl
          case hQz44 => exact fun _ _ _ h => h
          case hyz44 => exact Or.inr ⟨by rfl, rfl⟩
          try simp only [Act.put, List.setIfInBounds_toArray, List.set_cons_zero, List.set_cons_succ]
          refine wpAnyH_take (i := 21) (oi := ?oiz45) (v := ?vz45) ?hiz45 (by kernel_rfl) (by kernel_rfl) (by kernel_rfl) ?hQz45 ?hyz45 (by assumption) ?restz45
          case hiz45 => simp only [List.getElem?_toArray, List.getElem?_cons_zero, List.getElem?_cons_succ]; rfl
          case hQz45 => exact fun _ _ _ h => h
          case hyz45 => exact Or.inl ⟨by rfl, by intro w hSw; (try dsimp only at hSw); go_simp; with_reducible rfl⟩
          try simp only [Act.put, List.setIfInBounds_toArray, List.set_cons_zero, List.set_cons_succ]
          refine wpAnyH_take (i := 22) (oi := ?oiz46) (v := ?vz46) ?hiz46 (by kernel_rfl) (by kernel_rfl) (by kernel_rfl) ?hQz46 ?hyz46 (by assumption) ?restz46
          case hiz46 => simp only [List.getElem?_toArray, List.getElem?_cons_zero, List.getElem?_cons_succ]; rfl
          case hQz46 => exact fun _ _ _ h => h
          case hyz46 => exact Or.inl ⟨by rfl, by intro w hSw; (try dsimp only at hSw); go_simp; with_reducible rfl⟩
          try simp only [Act.put, List.setIfInBounds_toArray, List.set_cons_zero, List.set_cons_succ]
          refine wpAnyH_done (by kernel_rfl) ?_ _
          have HX2 := Lib.hid (HX.out.trans hHeld)
          clear hHeld
          go_wp2
          go_roundw
          case rel => exact ⟨1, by omega, rfl, by rw [HSN.out, HS.out, incC, HGk.out, HBk.out]; rfl, HX2.out⟩
          case measure => simp [intOf]; omega
        · obtain ⟨g2, o2, e, hs1, hc⟩ := Hrd.out.elem Hok.out j (by omega)
          injection e with e
          injection e with e1 e2
          subst e1
          subst e2
          have d1 : ∀ W, Ext wr W → W.cell? ⟨g, o + j * 2, none⟩ = some (.string L[j].1) := fun W hW => (HX.out.trans hW).cell (hc 0 _ rfl)
          have HGj := Lib.hid (gE_lt (L := L) (i := j) (by omega))
          have W1 : IntKind.i64.wrap (j : Int) = j := IntWalk.i64_in _ (by omega)
          have hj0 : (0 : Int) ≤ (j : Int) := by omega
          have hj1 : (j : Int) < (L.length : Int) := by omega
          have hj2 : (0 : Int) ≤ (j : Int) + 1 := by omega
          have hj3 : (0 : Int) < (j : Int) + 1 := by omega
          have hj4 : (j : Int) + 1 < (L.length : Int) := by omega
          clear hc
          cases hl : ltB L[j].1 L[j + 1].1 with
          | true =>
            have hl2 : Op.bytesLess L[j].1.toList L[j + 1].1.toList = true := by rw [ltB_eq]; exact hl
            have HLT := Lib.hid hl
            clear hl
            go_wp2_with fail
            refine wp_region_held_drew (S := fun W => Ext wr W) (by kernel_rfl) (Ext.refl _).drew (fun hHeld => ?_)
            refine wpAnyH_take (i := 0) (oi := ?oiz47) (v := ?vz47) ?hiz47 (by kernel_rfl) (by kernel_rfl) (by kernel_rfl) ?hQz47 ?hyz47 (by assumption) ?restz47
            case hiz47 => simp only [List.getElem?_toArray, List.getElem?_cons_zero, List.getElem?_cons_succ]; rfl
            case hQz47 => exact fun _ _ _ h => h
            case hyz47 => exact Or.inl ⟨by rfl, by intro w hSw; (try dsimp only at hSw); go_simp; with_reducible rfl⟩
            try simp only [Act.put, List.setIfInBounds_toArray, List.set_cons_zero, List.set_cons_succ]
            refine wpAnyH_take (i := 1) (oi := ?oiz48) (v := ?vz48) ?hiz48 (by kernel_rfl) (by kernel_rfl) (by kernel_rfl) ?hQz48 ?hyz48 (by assumption) ?restz48
            case hiz48 => simp only [List.getElem?_toArray, List.getElem?_cons_zero, List.getElem?_cons_succ]; rfl
            case hQz48 => exact fun _ _ _ h => h
            case hyz48 => exact Or.inl ⟨by rfl, by intro w hSw; (try dsimp only at hSw); go_simp; with_reducible rfl⟩
            try simp only [Act.put, List.setIfInBounds_toArray, List.set_cons_zero, List.set_cons_succ]
            refine wpAnyH_take (i := 2) (oi := ?oiz49) (v := ?vz49) ?hiz49 (by kernel_rfl) (by kernel_rfl) (by kernel_rfl) ?hQz49 ?hyz49 (by assumption) ?restz49
            case hiz49 => simp only [List.getElem?_toArray, List.getElem?_cons_zero, List.getElem?_cons_succ]; rfl
            case hQz49 => exact fun _ _ _ h => h
            case hyz49 => exact Or.inl ⟨by rfl, by intro w hSw; (try dsimp only at hSw); go_simp; with_reducible rfl⟩
            try simp only [Act.put, List.setIfInBounds_toArray, List.set_cons_zero, List.set_cons_succ]
            refine wpAnyH_ready (rs := [3]) (by kernel_rfl) (by simp) (AllReadyH.cons (o := ?oy503) ?hy503 (fun K hK => ?sy503) AllReadyH.nil)
            case hy503 => simp only [List.getElem?_toArray, List.getElem?_cons_zero, List.getElem?_cons_succ]; rfl
            go_simp
            refine (hen _ (d0 _ hHeld) (d0b _ hHeld)).mono ?_
            rintro e w' ⟨rfl, rfl⟩
            refine hK.out _ _ hHeld (fun _ => ?_)
            clear hK K
            try simp only [Act.put, List.setIfInBounds_toArray, List.set_cons_zero, List.set_cons_succ]
            refine wpAnyH_take (i := 4) (oi := ?oiz51) (v := ?vz51) ?hiz51 (by kernel_rfl) (by kernel_rfl) (by kernel_rfl) ?hQz51 ?hyz51 (by assumption) ?restz51
            case hiz51 => simp only [List.getElem?_toArray, List.getElem?_cons_zero, List.getElem?_cons_succ]; rfl
            case hQz51 => exact fun _ _ _ h => h
            case hyz51 => exact Or.inl ⟨by rfl, by intro w hSw; (try dsimp only at hSw); go_simp; with_reducible rfl⟩
            try simp only [Act.put, List.setIfInBounds_toArray, List.set_cons_zero, List.set_cons_succ]
            refine wpAnyH_take (i := 5) (oi := ?oiz52) (v := ?vz52) ?hiz52 (by kernel_rfl) (by kernel_rfl) (by kernel_rfl) ?hQz52 ?hyz52 (by assumption) ?restz52
            case hiz52 => simp only [List.getElem?_toArray, List.getElem?_cons_zero, List.getElem?_cons_succ]; rfl
            case hQz52 => exact fun _ _ _ h => h
            case hyz52 => exact Or.inl ⟨by rfl, by intro w hSw; (try dsimp only at hSw); go_simp; with_reducible rfl⟩
            try simp only [Act.put, List.setIfInBounds_toArray, List.set_cons_zero, List.set_cons_succ]
            refine wpAnyH_take (i := 6) (oi := ?oiz53) (v := ?vz53) ?hiz53 (by kernel_rfl) (by kernel_rfl) (by kernel_rfl) ?hQz53 ?hyz53 (by assumption) ?restz53
            case hiz53 => simp only [List.getElem?_toArray, List.getElem?_cons_zero, List.getElem?_cons_succ]; rfl
            case hQz53 => exact fun _ _ _ h => h
            case hyz53 => exact Or.inl ⟨by rfl, by intro w hSw; (try dsimp only at hSw); go_simp; with_reducible rfl⟩
            try simp only [Act.put, List.setIfInBounds_toArray, List.set_cons_zero, List.set_cons_succ]
            refine wpAnyH_take (i := 7) (oi := ?oiz54) (v := ?vz54) ?hiz54 (by kernel_rfl) (by kernel_rfl) (by kernel_rfl) ?hQz54 ?hyz54 (by assumption) ?restz54
            case hiz54 => simp only [List.getElem?_toArray, List.getElem?_cons_zero, List.getElem?_cons_succ]; rfl
            case hQz54 => exact fun _ _ _ h => h
            case hyz54 => exact Or.inl ⟨by rfl, by intro w hSw; (try dsimp only at hSw); go_simp; with_reducible rfl⟩
            try simp only [Act.put, List.setIfInBounds_toArray, List.set_cons_zero, List.set_cons_succ]
            refine wpAnyH_take (i := 8) (oi := ?oiz55) (v := ?vz55) ?hiz55 (by kernel_rfl) (by kernel_rfl) (by kernel_rfl) ?hQz55 ?hyz55 (by assumption) ?restz55
            case hiz55 => simp only [List.getElem?_toArray, List.getElem?_cons_zero, List.getElem?_cons_succ]; rfl
            case hQz55 => exact fun _ _ _ h => h
            case hyz55 => exact Or.inl ⟨by rfl, by intro w hSw; (try dsimp only at hSw); go_simp; with_reducible rfl⟩
            try simp only [Act.put, List.setIfInBounds_toArray, List.set_cons_zero, List.set_cons_succ]
            refine wpAnyH_take (i := 9) (oi := ?oiz56) (v := ?vz56) ?hiz56 (by kernel_rfl) (by kernel_rfl) (by kernel_rfl) ?hQz56 ?hyz56 (by assumption) ?restz56
            case hiz56 => simp only [List.getElem?_toArray, List.getElem?_cons_zero, List.getElem?_cons_succ]; rfl
            case hQz56 => exact fun _ _ _ h => h
            case hyz56 => exact Or.inl ⟨by rfl, by intro w hSw; (try dsimp only at hSw); go_simp; with_reducible rfl⟩
            try simp only [Act.put, List.setIfInBounds_toArray, List.set_cons_zero, List.set_cons_succ]
            refine wpAnyH_take (i := 10) (oi := ?oiz57) (v := ?vz57) ?hiz57 (by kernel_rfl) (by kernel_rfl) (by kernel_rfl) ?hQz57 ?hyz57 (by assumption) ?restz57
            case hiz57 => simp only [List.getElem?_toArray, List.getElem?_cons_zero, List.getElem?_cons_succ]; rfl
            case hQz57 => exact fun _ _ _ h => h
            case hyz57 => exact Or.inl ⟨by rfl, by intro w hSw; (try dsimp only at hSw); go_simp; with_reducible rfl⟩
            try simp only [Act.put, List.setIfInBounds_toArray, List.set_cons_zero, List.set_cons_succ]
            refine wpAnyH_take (i := 11) (oi := ?oiz58) (v := ?vz58) ?hiz58 (by kernel_rfl) (by kernel_rfl) (by kernel_rfl) ?hQz58 ?hyz58 (by assumption) ?restz58
            case hiz58 => simp only [List.getElem?_toArray, List.getElem?_cons_zero, List.getElem?_cons_succ]; rfl
            case hQz58 => exact fun _ _ _ h => h
            case hyz58 => exact Or.inl ⟨by rfl, by intro w hSw; (try dsimp only at hSw); go_simp; with_reducible rfl⟩
            try simp only [Act.put, List.setIfInBounds_toArray, List.set_cons_zero, List.set_cons_succ]
            refine wpAnyH_take (i := 12) (oi := ?oiz59) (v := ?vz59) ?hiz59 (by kernel_rfl) (by kernel_rfl) (by kernel_rfl) ?hQz59 ?hyz59 (by assumption) ?restz59
            case hiz59 => simp only [List.getElem?_toArray, List.getElem?_cons_zero, List.getElem?_cons_succ]; rfl
            case hQz59 => exact fun _ _ _ h => h
            case hyz59 => exact Or.inl ⟨by rfl, by intro w hSw; (try dsimp only at hSw); go_simp; with_reducible rfl⟩
            try simp only [Act.put, List.setIfInBounds_toArray, List.set_cons_zero, List.set_cons_succ]
            refine wpAnyH_take (i := 13) (oi := ?oiz60) (v := ?vz60) ?hiz60 (by kernel_rfl) (by kernel_rfl) (by kernel_rfl) ?hQz60 ?hyz60 (by assumption) ?restz60
            case hiz60 => simp only [List.getElem?_toArray, List.getElem?_cons_zero, List.getElem?_cons_succ]; rfl
            case hQz60 => exact fun _ _ _ h => h
            case hyz60 => exact Or.inl ⟨by rfl, by intro w hSw; (try dsimp only at hSw); go_simp; with_reducible rfl⟩
            try simp only [Act.put, List.setIfInBounds_toArray, List.set_cons_zero, List.set_cons_succ]
            refine wpAnyH_take (i := 14) (oi := ?oiz61) (v := ?vz61) ?hiz61 (by kernel_rfl) (by kernel_rfl) (by kernel_rfl) ?hQz61 ?hyz61 (by assumption) ?restz61
            case hiz61 => simp only [List.getElem?_toArray, List.getElem?_cons_zero, List.getElem?_cons_succ]; rfl
            case hQz61 => exact fun _ _ _ h => h
            case hyz61 => exact Or.inl ⟨by rfl, by intro w hSw; (try dsimp only at hSw); go_simp; with_reducible rfl⟩
            try simp only [Act.put, List.setIfInBounds_toArray, List.set_cons_zero, List.set_cons_succ]
            refine wpAnyH_take (i := 15) (oi := ?oiz62) (v := ?vz62) ?hiz62 (by kernel_rfl) (by kernel_rfl) (by kernel_rfl) ?hQz62 ?hyz62 (by assumption) ?restz62
            case hiz62 => simp only [List.getElem?_toArray, List.getElem?_cons_zero, List.getElem?_cons_succ]; rfl
            case hQz62 => exact fun _ _ _ h => h
            case hyz62 => exact Or.inl ⟨by rfl, by intro w hSw; (try dsimp only at hSw); go_simp; with_reducible rfl⟩
            try simp only [Act.put, List.setIfInBounds_toArray, List.set_cons_zero, List.set_cons_succ]
            refine wpAnyH_take (i := 16) (oi := ?oiz63) (v := ?vz63) ?hiz63 (by kernel_rfl) (by kernel_rfl) (by kernel_rfl) ?hQz63 ?hyz63 (by assumption) ?restz63
            case hiz63 => simp only [List.getElem?_toArray, List.getElem?_cons_zero, List.getElem?_cons_succ]; rfl
            case hQz63 => exact fun _ _ _ h => h
            case hyz63 => exact Or.inl ⟨by rfl, by intro w hSw; (try dsimp only at hSw); go_simp; with_reducible rfl⟩
            try simp only [Act.put, List.setIfInBounds_toArray, List.set_cons_zero, List.set_cons_succ]
            refine wpAnyH_take (i := 17) (oi := ?oiz64) (v := ?vz64) ?hiz64 (by kernel_rfl) (by kernel_rfl) (by kernel_rfl) ?hQz64 ?hyz64 (by assumption) ?restz64
            case hiz64 => simp only [List.getElem?_toArray, List.getElem?_cons_zero, List.getElem?_cons_succ]; rfl
            case hQz64 => exact fun _ _ _ h => h
            case hyz64 => exact Or.inl ⟨by rfl, by intro w hSw; (try dsimp only at hSw); go_simp; with_reducible rfl⟩
            try simp only [Act.put, List.setIfInBounds_toArray, List.set_cons_zero, List.set_cons_succ]
            refine wpAnyH_take (i := 18) (oi := ?oiz65) (v := ?vz65) ?hiz65 (by kernel_rfl) (by kernel_rfl) (by kernel_rfl) ?hQz65 ?hyz65 (by assumption) ?restz65
            case hiz65 => simp only [List.getElem?_toArray, List.getElem?_cons_zero, List.getElem?_cons_succ]; rfl
            case hQz65 => exact fun _ _ _ h => h
            case hyz65 => exact Or.inl ⟨by rfl, by intro w hSw; (try dsimp only at hSw); go_simp; with_reducible rfl⟩
            try simp only [Act.put, List.setIfInBounds_toArray, List.set_cons_zero, List.set_cons_succ]
            refine wpAnyH_take (i := 19) (oi := ?oiz66) (v := ?vz66) ?hiz66 (by kernel_rfl) (by kernel_rfl) (by kernel_rfl) ?hQz66 ?hyz66 (by assumption) ?restz66
            case hiz66 => simp only [List.getElem?_toArray, List.getElem?_cons_zero, List.getElem?_cons_succ]; rfl
            case hQz66 => exact fun _ _ _ h => h
            case hyz66 => exact Or.inl ⟨by rfl, by intro w hSw; (try dsimp only at hSw); go_simp; with_reducible rfl⟩
            try simp only [Act.put, List.setIfInBounds_toArray, List.set_cons_zero, List.set_cons_succ]
            refine wpAnyH_take (i := 20) (oi := ?oiz67) (v := ?vz67) ?hiz67 (by kernel_rfl) (by kernel_rfl) (by kernel_rfl) ?hQz67 ?hyz67 (by assumption) ?restz67
            case hiz67 => simp only [List.getElem?_toArray, List.getElem?_cons_zero, List.getElem?_cons_succ]; rfl
            case hQz67 => exact fun _ _ _ h => h
            case hyz67 => exact Or.inl ⟨by rfl, by intro w hSw; (try dsimp only at hSw); go_simp; with_reducible rfl⟩
            try simp only [Act.put, List.setIfInBounds_toArray, List.set_cons_zero, List.set_cons_succ]
            refine wpAnyH_take (i := 21) (oi := ?oiz68) (v := ?vz68) ?hiz68 (by kernel_rfl) (by kernel_rfl) (by kernel_rfl) ?hQz68 ?hyz68 (by assumption) ?restz68
            case hiz68 => simp only [List.getElem?_toArray, List.getElem?_cons_zero, List.getElem?_cons_succ]; rfl
            case hQz68 => exact fun _ _ _ h => h
            case hyz68 => exact Or.inl ⟨by rfl, by intro w hSw; (try dsimp only at hSw); go_simp; with_reducible rfl⟩
            try simp only [Act.put, List.setIfInBounds_toArray, List.set_cons_zero, List.set_cons_succ]
            refine wpAnyH_take (i := 22) (oi := ?oiz69) (v := ?vz69) ?hiz69 (by kernel_rfl) (by kernel_rfl) (by kernel_rfl) ?hQz69 ?hyz69 (by assumption) ?restz69
            case hiz69 => simp only [List.getElem?_toArray, List.getElem?_cons_zero, List.getElem?_cons_succ]; rfl
            case hQz69 => exact fun _ _ _ h => h
            case hyz69 => exact Or.inl ⟨by rfl, by intro w hSw; (try dsimp only at hSw); go_simp; with_reducible rfl⟩
            try simp only [Act.put, List.setIfInBounds_toArray, List.set_cons_zero, List.set_cons_succ]
            refine wpAnyH_done (by kernel_rfl) ?_ _
            have HX2 := Lib.hid (HX.out.trans hHeld)
            clear hHeld
            go_wp2
            go_roundw
            case rel => exact ⟨j + 2, by omega, by go_num, by rw [HSN.out, HS.out, incC, HGk.out, HBk.out, show j + 1 - 1 = j by omega, HGj.out, HLT.out]; rfl, HX2.out⟩
            case measure => simp [intOf]; omega
          | false =>
            have hl2 : Op.bytesLess L[j].1.toList L[j + 1].1.toList = false := by rw [ltB_eq]; exact hl
            have HB := Lib.hid (incs_bad L (j + 1) L.length hlt (by rw [incC, HGk.out, HBk.out, show j + 1 - 1 = j by omega, HGj.out, hl]; rfl))
            clear hl
            go_wp2_with fail
            refine wp_region_held_drew (S := fun W => Ext wr W) (by kernel_rfl) (Ext.refl _).drew (fun hHeld => ?_)
            refine wpAnyH_take (i := 0) (oi := ?oiz70) (v := ?vz70) ?hiz70 (by kernel_rfl) (by kernel_rfl) (by kernel_rfl) ?hQz70 ?hyz70 (by assumption) ?restz70
            case hiz70 => simp only [List.getElem?_toArray, List.getElem?_cons_zero, List.getElem?_cons_succ]; rfl
            case hQz70 => exact fun _ _ _ h => h
            case hyz70 => exact Or.inl ⟨by rfl, by intro w hSw; (try dsimp only at hSw); go_simp; with_reducible rfl⟩
            try simp only [Act.put, List.setIfInBounds_toArray, List.set_cons_zero, List.set_cons_succ]
            refine wpAnyH_take (i := 1) (oi := ?oiz71) (v := ?vz71) ?hiz71 (by kernel_rfl) (by kernel_rfl) (by kernel_rfl) ?hQz71 ?hyz71 (by assumption) ?restz71
            case hiz71 => simp only [List.getElem?_toArray, List.getElem?_cons_zero, List.getElem?_cons_succ]; rfl
            case hQz71 => exact fun _ _ _ h => h
            case hyz71 => exact Or.inl ⟨by rfl, by intro w hSw; (try dsimp only at hSw); go_simp; with_reducible rfl⟩
            try simp only [Act.put, List.setIfInBounds_toArray, List.set_cons_zero, List.set_cons_succ]
            refine wpAnyH_take (i := 2) (oi := ?oiz72) (v := ?vz72) ?hiz72 (by kernel_rfl) (by kernel_rfl) (by kernel_rfl) ?hQz72 ?hyz72 (by assumption) ?restz72
            case hiz72 => simp only [List.getElem?_toArray, List.getElem?_cons_zero, List.getElem?_cons_succ]; rfl
            case hQz72 => exact fun _ _ _ h => h
            case hyz72 => exact Or.inl ⟨by rfl, by intro w hSw; (try dsimp only at hSw); go_simp; with_reducible rfl⟩
            try simp only [Act.put, List.setIfInBounds_toArray, List.set_cons_zero, List.set_cons_succ]
            refine wpAnyH_ready (rs := [3]) (by kernel_rfl) (by simp) (AllReadyH.cons (o := ?oy733) ?hy733 (fun K hK => ?sy733) AllReadyH.nil)
            case hy733 => simp only [List.getElem?_toArray, List.getElem?_cons_zero, List.getElem?_cons_succ]; rfl
            go_simp
            refine (hen _ (d0 _ hHeld) (d0b _ hHeld)).mono ?_
            rintro e w' ⟨rfl, rfl⟩
            refine hK.out _ _ hHeld (fun _ => ?_)
            clear hK K
            try simp only [Act.put, List.setIfInBounds_toArray, List.set_cons_zero, List.set_cons_succ]
            refine wpAnyH_take (i := 4) (oi := ?oiz74) (v := ?vz74) ?hiz74 (by kernel_rfl) (by kernel_rfl) (by kernel_rfl) ?hQz74 ?hyz74 (by assumption) ?restz74
            case hiz74 => simp only [List.getElem?_toArray, List.getElem?_cons_zero, List.getElem?_cons_succ]; rfl
            case hQz74 => exact fun _ _ _ h => h
            case hyz74 => exact Or.inl ⟨by rfl, by intro w hSw; (try dsimp only at hSw); go_simp; with_reducible rfl⟩
            try simp only [Act.put, List.setIfInBounds_toArray, List.set_cons_zero, List.set_cons_succ]
            refine wpAnyH_take (i := 5) (oi := ?oiz75) (v := ?vz75) ?hiz75 (by kernel_rfl) (by kernel_rfl) (by kernel_rfl) ?hQz75 ?hyz75 (by assumption) ?restz75
            case hiz75 => simp only [List.getElem?_toArray, List.getElem?_cons_zero, List.getElem?_cons_succ]; rfl
            case hQz75 => exact fun _ _ _ h => h
            case hyz75 => exact Or.inl ⟨by rfl, by intro w hSw; (try dsimp only at hSw); go_simp; with_reducible rfl⟩
            try simp only [Act.put, List.setIfInBounds_toArray, List.set_cons_zero, List.set_cons_succ]
            refine wpAnyH_take (i := 6) (oi := ?oiz76) (v := ?vz76) ?hiz76 (by kernel_rfl) (by kernel_rfl) (by kernel_rfl) ?hQz76 ?hyz76 (by assumption) ?restz76
            case hiz76 => simp only [List.getElem?_toArray, List.getElem?_cons_zero, List.getElem?_cons_succ]; rfl
            case hQz76 => exact fun _ _ _ h => h
            case hyz76 => exact Or.inl ⟨by rfl, by intro w hSw; (try dsimp only at hSw); go_simp; with_reducible rfl⟩
            try simp only [Act.put, List.setIfInBounds_toArray, List.set_cons_zero, List.set_cons_succ]
            refine wpAnyH_take (i := 7) (oi := ?oiz77) (v := ?vz77) ?hiz77 (by kernel_rfl) (by kernel_rfl) (by kernel_rfl) ?hQz77 ?hyz77 (by assumption) ?restz77
            case hiz77 => simp only [List.getElem?_toArray, List.getElem?_cons_zero, List.getElem?_cons_succ]; rfl
            case hQz77 => exact fun _ _ _ h => h
            case hyz77 => exact Or.inl ⟨by rfl, by intro w hSw; (try dsimp only at hSw); go_simp; with_reducible rfl⟩
            try simp only [Act.put, List.setIfInBounds_toArray, List.set_cons_zero, List.set_cons_succ]
            refine wpAnyH_take (i := 8) (oi := ?oiz78) (v := ?vz78) ?hiz78 (by kernel_rfl) (by kernel_rfl) (by kernel_rfl) ?hQz78 ?hyz78 (by assumption) ?restz78
            case hiz78 => simp only [List.getElem?_toArray, List.getElem?_cons_zero, List.getElem?_cons_succ]; rfl
            case hQz78 => exact fun _ _ _ h => h
            case hyz78 => exact Or.inl ⟨by rfl, by intro w hSw; (try dsimp only at hSw); go_simp; with_reducible rfl⟩
            try simp only [Act.put, List.setIfInBounds_toArray, List.set_cons_zero, List.set_cons_succ]
            refine wpAnyH_take (i := 9) (oi := ?oiz79) (v := ?vz79) ?hiz79 (by kernel_rfl) (by kernel_rfl) (by kernel_rfl) ?hQz79 ?hyz79 (by assumption) ?restz79
            case hiz79 => simp only [List.getElem?_toArray, List.getElem?_cons_zero, List.getElem?_cons_succ]; rfl
            case hQz79 => exact fun _ _ _ h => h
            case hyz79 => exact Or.inl ⟨by rfl, by intro w hSw; (try dsimp only at hSw); go_simp; with_reducible rfl⟩
            try simp only [Act.put, List.setIfInBounds_toArray, List.set_cons_zero, List.set_cons_succ]
            refine wpAnyH_take (i := 10) (oi := ?oiz80) (v := ?vz80) ?hiz80 (by kernel_rfl) (by kernel_rfl) (by kernel_rfl) ?hQz80 ?hyz80 (by assumption) ?restz80
            case hiz80 => simp only [List.getElem?_toArray, List.getElem?_cons_zero, List.getElem?_cons_succ]; rfl
            case hQz80 => exact fun _ _ _ h => h
            case hyz80 => exact Or.inl ⟨by rfl, by intro w hSw; (try dsimp only at hSw); go_simp; with_reducible rfl⟩
            try simp only [Act.put, List.setIfInBounds_toArray, List.set_cons_zero, List.set_cons_succ]
            refine wpAnyH_take (i := 11) (oi := ?oiz81) (v := ?vz81) ?hiz81 (by kernel_rfl) (by kernel_rfl) (by kernel_rfl) ?hQz81 ?hyz81 (by assumption) ?restz81
            case hiz81 => simp only [List.getElem?_toArray, List.getElem?_cons_zero, List.getElem?_cons_succ]; rfl
            case hQz81 => exact fun _ _ _ h => h
            case hyz81 => exact Or.inl ⟨by rfl, by intro w hSw; (try dsimp only at hSw); go_simp; with_reducible rfl⟩
            try simp only [Act.put, List.setIfInBounds_toArray, List.set_cons_zero, List.set_cons_succ]
            refine wpAnyH_take (i := 12) (oi := ?oiz82) (v := ?vz82) ?hiz82 (by kernel_rfl) (by kernel_rfl) (by kernel_rfl) ?hQz82 ?hyz82 (by assumption) ?restz82
            case hiz82 => simp only [List.getElem?_toArray, List.getElem?_cons_zero, List.getElem?_cons_succ]; rfl
            case hQz82 => exact fun _ _ _ h => h
            case hyz82 => exact Or.inl ⟨by rfl, by intro w hSw; (try dsimp only at hSw); go_simp; with_reducible rfl⟩
            try simp only [Act.put, List.setIfInBounds_toArray, List.set_cons_zero, List.set_cons_succ]
            refine wpAnyH_take (i := 13) (oi := ?oiz83) (v := ?vz83) ?hiz83 (by kernel_rfl) (by kernel_rfl) (by kernel_rfl) ?hQz83 ?hyz83 (by assumption) ?restz83
            case hiz83 => simp only [List.getElem?_toArray, List.getElem?_cons_zero, List.getElem?_cons_succ]; rfl
            case hQz83 => exact fun _ _ _ h => h
            case hyz83 => exact Or.inl ⟨by rfl, by intro w hSw; (try dsimp only at hSw); go_simp; with_reducible rfl⟩
            try simp only [Act.put, List.setIfInBounds_toArray, List.set_cons_zero, List.set_cons_succ]
            refine wpAnyH_take (i := 14) (oi := ?oiz84) (v := ?vz84) ?hiz84 (by kernel_rfl) (by kernel_rfl) (by kernel_rfl) ?hQz84 ?hyz84 (by assumption) ?restz84
            case hiz84 => simp only [List.getElem?_toArray, List.getElem?_cons_zero, List.getElem?_cons_succ]; rfl
            case hQz84 => exact fun _ _ _ h => h
            case hyz84 => exact Or.inl ⟨by rfl, by intro w hSw; (try dsimp only at hSw); go_simp; with_reducible rfl⟩
            try simp only [Act.put, List.setIfInBounds_toArray, List.set_cons_zero, List.set_cons_succ]
            refine wpAnyH_take (i := 15) (oi := ?oiz85) (v := ?vz85) ?hiz85 (by kernel_rfl) (by kernel_rfl) (by kernel_rfl) ?hQz85 ?hyz85 (by assumption) ?restz85
            case hiz85 => simp only [List.getElem?_toArray, List.getElem?_cons_zero, List.getElem?_cons_succ]; rfl
            case hQz85 => exact fun _ _ _ h => h
            case hyz85 => exact Or.inl ⟨by rfl, by intro w hSw; (try dsimp only at hSw); go_simp; with_reducible rfl⟩
            try simp only [Act.put, List.setIfInBounds_toArray, List.set_cons_zero, List.set_cons_succ]
            refine wpAnyH_take (i := 16) (oi := ?oiz86) (v := ?vz86) ?hiz86 (by kernel_rfl) (by kernel_rfl) (by kernel_rfl) ?hQz86 ?hyz86 (by assumption) ?restz86
            case hiz86 => simp only [List.getElem?_toArray, List.getElem?_cons_zero, List.getElem?_cons_succ]; rfl
            case hQz86 => exact fun _ _ _ h => h
            case hyz86 => exact Or.inl ⟨by rfl, by intro w hSw; (try dsimp only at hSw); go_simp; with_reducible rfl⟩
            try simp only [Act.put, List.setIfInBounds_toArray, List.set_cons_zero, List.set_cons_succ]
            refine wpAnyH_take (i := 17) (oi := ?oiz87) (v := ?vz87) ?hiz87 (by kernel_rfl) (by kernel_rfl) (by kernel_rfl) ?hQz87 ?hyz87 (by assumption) ?restz87
            case hiz87 => simp only [List.getElem?_toArray, List.getElem?_cons_zero, List.getElem?_cons_succ]; rfl
            case hQz87 => exact fun _ _ _ h => h
            case hyz87 => exact Or.inl ⟨by rfl, by intro w hSw; (try dsimp only at hSw); go_simp; with_reducible rfl⟩
            try simp only [Act.put, List.setIfInBounds_toArray, List.set_cons_zero, List.set_cons_succ]
            refine wpAnyH_take (i := 18) (oi := ?oiz88) (v := ?vz88) ?hiz88 (by kernel_rfl) (by kernel_rfl) (by kernel_rfl) ?hQz88 ?hyz88 (by assumption) ?restz88
            case hiz88 => simp only [List.getElem?_toArray, List.getElem?_cons_zero, List.getElem?_cons_succ]; rfl
            case hQz88 => exact fun _ _ _ h => h
            case hyz88 => exact Or.inl ⟨by rfl, by intro w hSw; (try dsimp only at hSw); go_simp; with_reducible rfl⟩
            try simp only [Act.put, List.setIfInBounds_toArray, List.set_cons_zero, List.set_cons_succ]
            refine wpAnyH_take (i := 19) (oi := ?oiz89) (v := ?vz89) ?hiz89 (by kernel_rfl) (by kernel_rfl) (by kernel_rfl) ?hQz89 ?hyz89 (by assumption) ?restz89
            case hiz89 => simp only [List.getElem?_toArray, List.getElem?_cons_zero, List.getElem?_cons_succ]; rfl
            case hQz89 => exact fun _ _ _ h => h
            case hyz89 => exact Or.inl ⟨by rfl, by intro w hSw; (try dsimp only at hSw); go_simp; with_reducible rfl⟩
            try simp only [Act.put, List.setIfInBounds_toArray, List.set_cons_zero, List.set_cons_succ]
            refine wpAnyH_take (i := 20) (oi := ?oiz90) (v := ?vz90) ?hiz90 (by kernel_rfl) (by kernel_rfl) (by kernel_rfl) ?hQz90 ?hyz90 (by assumption) ?restz90
            case hiz90 => simp only [List.getElem?_toArray, List.getElem?_cons_zero, List.getElem?_cons_succ]; rfl
            case hQz90 => exact fun _ _ _ h => h
            case hyz90 => exact Or.inl ⟨by rfl, by intro w hSw; (try dsimp only at hSw); go_simp; with_reducible rfl⟩
            try simp only [Act.put, List.setIfInBounds_toArray, List.set_cons_zero, List.set_cons_succ]
            refine wpAnyH_take (i := 21) (oi := ?oiz91) (v := ?vz91) ?hiz91 (by kernel_rfl) (by kernel_rfl) (by kernel_rfl) ?hQz91 ?hyz91 (by assumption) ?restz91
            case hiz91 => simp only [List.getElem?_toArray, List.getElem?_cons_zero, List.getElem?_cons_succ]; rfl
            case hQz91 => exact fun _ _ _ h => h
            case hyz91 => exact Or.inl ⟨by rfl, by intro w hSw; (try dsimp only at hSw); go_simp; with_reducible rfl⟩
            try simp only [Act.put, List.setIfInBounds_toArray, List.set_cons_zero, List.set_cons_succ]
            refine wpAnyH_take (i := 22) (oi := ?oiz92) (v := ?vz92) ?hiz92 (by kernel_rfl) (by kernel_rfl) (by kernel_rfl) ?hQz92 ?hyz92 (by assumption) ?restz92
            case hiz92 => simp only [List.getElem?_toArray, List.getElem?_cons_zero, List.getElem?_cons_succ]; rfl
            case hQz92 => exact fun _ _ _ h => h
            case hyz92 => exact Or.inl ⟨by rfl, by intro w hSw; (try dsimp only at hSw); go_simp; with_reducible rfl⟩
            try simp only [Act.put, List.setIfInBounds_toArray, List.set_cons_zero, List.set_cons_succ]
            refine wpAnyH_done (by kernel_rfl) ?_ _
            have HX2 := Lib.hid (HX.out.trans hHeld)
            clear hHeld
            go_wp2
            go_ret
            exact ⟨by rw [HE.out, HB.out]; rfl, HX2.out⟩
    · obtain rfl : k = L.length := by omega
      go_wp2
      go_ret
      exact ⟨by rw [HE.out, HS.out, Bool.true_and]; exact ret_bool (by simp; omega), HX.out⟩

set_option maxHeartbeats 1000000 in
set_option maxRecDepth 100000 in
theorem validEntries_any (v : Value) (L : List En) (w : World) (S : Nat → Prop) (h : RdL tEnt w S v L) :
    Calls Try.prog 51 #[v] w fun e w' => e = .returned (.bool (okE L)) ∧ Ext w w' := by
  obtain ⟨A, cap, rfl, hcap, hlen, hrd, hok⟩ := h
  have Hrd := Lib.hid hrd
  have Hok := Lib.hid hok
  have HE := Lib.hid (okE_eq L)
  have HZ := Lib.hid (incs_zero L)
  clear hrd hok
  go_enter Try.func51, Try.ntmps51
  go_wp2
  go_loopw [7] (fun i wr => ∃ k : Nat, k ≤ L.length ∧ i = .int .i64 k ∧ incs L k = true ∧ Ext w wr) (fun i _ => L.length - (intOf i).toNat)
  case atStart => exact ⟨0, by omega, rfl, HZ.out, Ext.refl _⟩
  case round =>
    obtain ⟨k, hk, rfl, hs, hx⟩ := hrel
    have HS := Lib.hid hs
    have HX := Lib.hid hx
    clear hs hx HZ
    by_cases hlt : k < L.length
    · obtain ⟨g, o, rfl, hs0, hc⟩ := Hrd.out.elem Hok.out k hlt
      have HO := Lib.hid (show tEnt.ok L[k] from Hok.out _ (List.getElem_mem hlt))
      have HD := Lib.hid (show ∀ j u, (tEnt.enc L[k])[j]? = some u → wr.cell? ⟨g, o + k * 2 + j, none⟩ = some u from fun j u hu => HX.out.cell (hc j u hu))
      have HST := Lib.hid (show St 2 (tEnt.enc L[k]).toArray from stEnt _ _)
      have HB2 := Lib.hid (Blk.new wr 58 (tEnt.enc L[k]).toArray)
      have E2 := Lib.hid (ext_alloc wr (.cells (tEnt.enc L[k]).toArray 58))
      have HXW := Lib.hid (HX.out.trans E2.out)
      have d0 : ∀ W, Ext (wr.alloc (.cells (tEnt.enc L[k]).toArray 58)) W → W.cell? ⟨wr.heap.size, 0, none⟩ = some (.string L[k].1) := fun W hW => (HB2.out.ext hW).at_ 0 rfl
      have hen := fun W => validEntry_any L[k].1 L[k].2 HO.out.1 HO.out.2 W
      have HSN := Lib.hid (incs_succ L k)
      have HGk := Lib.hid (gE_lt hlt)
      have hi : (0 : Int) ≤ (k : Int) := by omega
      have hi2 : (k : Int) < (L.length : Int) := by omega
      clear hc
      cases hb : entB L[k].1 L[k].2 with
      | false =>
        have HB := Lib.hid (incs_bad L k L.length hlt (by rw [incC, HGk.out, hb]; rfl))
        simp only [hb] at hen
        clear hb
        go_wp2_with (first
          | (refine wpl_load ⟨g, o + k * 2, none⟩ (tEnt.enc L[k]) aggEntryI rfl _ rfl rfl (fun j u hu => by rw [Addr.add_lit]; exact HD.out j u hu) ?_)
          | (refine wpl_storeNewB aggEntryI HST.out rfl rfl _ _ rfl rfl rfl rfl ?_))
        generalize World.alloc wr (.cells (tEnt.enc L[k]).toArray 58) = w2 at HB2 E2 d0 HXW ⊢
        have R2 := Ext.refl w2
        refine wp_region_held_drew (S := fun W => Ext w2 W) (by kernel_rfl) (Ext.refl _).drew (fun hHeld => ?_)
        refine wpAnyH_take (i := 0) (oi := ?oiz93) (v := (.agg (tEnt.enc L[k]).toArray)) ?hiz93 (by kernel_rfl) (by kernel_rfl) (by kernel_rfl) ?hQz93 ?hyz93 (by assumption) ?restz93
        case hiz93 => simp only [List.getElem?_toArray, List.getElem?_cons_zero, List.getElem?_cons_succ]; rfl
        case hQz93 => exact fun _ _ _ h => h
        case hyz93 => refine yields_loadB HB2.out aggEntryI rfl ?_ _ rfl rfl; rfl
        try simp only [Act.put, List.setIfInBounds_toArray, List.set_cons_zero, List.set_cons_succ]
        refine wpAnyH_ready (rs := [1]) (by kernel_rfl) (by simp) (AllReadyH.cons (o := ?oy941) ?hy941 (fun K hK => ?sy941) AllReadyH.nil)
        case hy941 => simp only [List.getElem?_toArray, List.getElem?_cons_zero, List.getElem?_cons_succ]; rfl
        go_simp
        refine (hen _).mono ?_
        rintro e w3 ⟨rfl, hx⟩
        have hH2 := hHeld.trans hx
        refine hK.out _ _ hH2 (fun _ => ?_)
        clear hHeld hK K
        have hHeld := hH2
        clear hH2
        try simp only [Act.put, List.setIfInBounds_toArray, List.set_cons_zero, List.set_cons_succ]
        refine wpAnyH_take (i := 2) (oi := ?oiz95) (v := ?vz95) ?hiz95 (by kernel_rfl) (by kernel_rfl) (by kernel_rfl) ?hQz95 ?hyz95 (by assumption) ?restz95
        case hiz95 => simp only [List.getElem?_toArray, List.getElem?_cons_zero, List.getElem?_cons_succ]; rfl
        case hQz95 => exact fun _ _ _ h => h
        case hyz95 => exact Or.inl ⟨by rfl, by intro w hSw; (try dsimp only at hSw); go_simp; with_reducible rfl⟩
        try simp only [Act.put, List.setIfInBounds_toArray, List.set_cons_zero, List.set_cons_succ]
        refine wpAnyH_take (i := 3) (oi := ?oiz96) (v := ?vz96) ?hiz96 (by kernel_rfl) (by kernel_rfl) (by kernel_rfl) ?hQz96 ?hyz96 (by assumption) ?restz96
        case hiz96 => simp only [List.getElem?_toArray, List.getElem?_cons_zero, List.getElem?_cons_succ]; rfl
        case hQz96 => exact fun _ _ _ h => h
        case hyz96 => exact Or.inl ⟨by rfl, by intro w hSw; (try dsimp only at hSw); go_simp; with_reducible rfl⟩
        try simp only [Act.put, List.setIfInBounds_toArray, List.set_cons_zero, List.set_cons_succ]
        refine wpAnyH_take (i := 4) (oi := ?oiz97) (v := undef) ?hiz97 (by kernel_rfl) (by kernel_rfl) (by kernel_rfl) ?hQz97 ?hyz97 (by assumption) ?restz97
        case hiz97 => simp only [List.getElem?_toArray, List.getElem?_cons_zero, List.getElem?_cons_succ]; rfl
        case hQz97 => exact fun _ _ _ h => h
        case hyz97 => exact Or.inr ⟨by rfl, rfl⟩
        try simp only [Act.put, List.setIfInBounds_toArray, List.set_cons_zero, List.set_cons_succ]
        refine wpAnyH_take (i := 5) (oi := ?oiz98) (v := undef) ?hiz98 (by kernel_rfl) (by kernel_rfl) (by kernel_rfl) ?hQz98 ?hyz98 (by assumption) ?restz98
        case hiz98 => simp only [List.getElem?_toArray, List.getElem?_cons_zero, List.getElem?_cons_succ]; rfl
        case hQz98 => exact fun _ _ _ h => h
        case hyz98 => exact Or.inr ⟨by rfl, rfl⟩
        try simp only [Act.put, List.setIfInBounds_toArray, List.set_cons_zero, List.set_cons_succ]
        refine wpAnyH_take (i := 6) (oi := ?oiz99) (v := undef) ?hiz99 (by kernel_rfl) (by kernel_rfl) (by kernel_rfl) ?hQz99 ?hyz99 (by assumption) ?restz99
        case hiz99 => simp only [List.getElem?_toArray, List.getElem?_cons_zero, List.getElem?_cons_succ]; rfl
        case hQz99 => exact fun _ _ _ h => h
        case hyz99 => exact Or.inr ⟨by rfl, rfl⟩
        try simp only [Act.put, List.setIfInBounds_toArray, List.set_cons_zero, List.set_cons_succ]
        refine wpAnyH_take (i := 7) (oi := ?oiz100) (v := undef) ?hiz100 (by kernel_rfl) (by kernel_rfl) (by kernel_rfl) ?hQz100 ?hyz100 (by assumption) ?restz100
        case hiz100 => simp only [List.getElem?_toArray, List.getElem?_cons_zero, List.getElem?_cons_succ]; rfl
        case hQz100 => exact fun _ _ _ h => h
        case hyz100 => exact Or.inr ⟨by rfl, rfl⟩
        try simp only [Act.put, List.setIfInBounds_toArray, List.set_cons_zero, List.set_cons_succ]
        refine wpAnyH_take (i := 8) (oi := ?oiz101) (v := undef) ?hiz101 (by kernel_rfl) (by kernel_rfl) (by kernel_rfl) ?hQz101 ?hyz101 (by assumption) ?restz101
        case hiz101 => simp only [List.getElem?_toArray, List.getElem?_cons_zero, List.getElem?_cons_succ]; rfl
        case hQz101 => exact fun _ _ _ h => h
        case hyz101 => exact Or.inr ⟨by rfl, rfl⟩
        try simp only [Act.put, List.setIfInBounds_toArray, List.set_cons_zero, List.set_cons_succ]
        refine wpAnyH_take (i := 9) (oi := ?oiz102) (v := undef) ?hiz102 (by kernel_rfl) (by kernel_rfl) (by kernel_rfl) ?hQz102 ?hyz102 (by assumption) ?restz102
        case hiz102 => simp only [List.getElem?_toArray, List.getElem?_cons_zero, List.getElem?_cons_succ]; rfl
        case hQz102 => exact fun _ _ _ h => h
        case hyz102 => exact Or.inr ⟨by rfl, rfl⟩
        try simp only [Act.put, List.setIfInBounds_toArray, List.set_cons_zero, List.set_cons_succ]
        refine wpAnyH_take (i := 10) (oi := ?oiz103) (v := undef) ?hiz103 (by kernel_rfl) (by kernel_rfl) (by kernel_rfl) ?hQz103 ?hyz103 (by assumption) ?restz103
        case hiz103 => simp only [List.getElem?_toArray, List.getElem?_cons_zero, List.getElem?_cons_succ]; rfl
        case hQz103 => exact fun _ _ _ h => h
        case hyz103 => exact Or.inr ⟨by rfl, rfl⟩
        try simp only [Act.put, List.setIfInBounds_toArray, List.set_cons_zero, List.set_cons_succ]
        refine wpAnyH_take (i := 11) (oi := ?oiz104) (v := undef) ?hiz104 (by kernel_rfl) (by kernel_rfl) (by kernel_rfl) ?hQz104 ?hyz104 (by assumption) ?restz104
        case hiz104 => simp only [List.getElem?_toArray, List.getElem?_cons_zero, List.getElem?_cons_succ]; rfl
        case hQz104 => exact fun _ _ _ h => h
        case hyz104 => exact Or.inr ⟨by rfl, rfl⟩
        try simp only [Act.put, List.setIfInBounds_toArray, List.set_cons_zero, List.set_cons_succ]
        refine wpAnyH_take (i := 12) (oi := ?oiz105) (v := undef) ?hiz105 (by kernel_rfl) (by kernel_rfl) (by kernel_rfl) ?hQz105 ?hyz105 (by assumption) ?restz105
        case hiz105 => simp only [List.getElem?_toArray, List.getElem?_cons_zero, List.getElem?_cons_succ]; rfl
        case hQz105 => exact fun _ _ _ h => h
        case hyz105 => exact Or.inr ⟨by rfl, rfl⟩
        try simp only [Act.put, List.setIfInBounds_toArray, List.set_cons_zero, List.set_cons_succ]
        refine wpAnyH_take (i := 13) (oi := ?oiz106) (v := undef) ?hiz106 (by kernel_rfl) (by kernel_rfl) (by kernel_rfl) ?hQz106 ?hyz106 (by assumption) ?restz106
        case hiz106 => simp only [List.getElem?_toArray, List.getElem?_cons_zero, List.getElem?_cons_succ]; rfl
        case hQz106 => exact fun _ _ _ h => h
        case hyz106 => exact Or.inr ⟨by rfl, rfl⟩
        try simp only [Act.put, List.setIfInBounds_toArray, List.set_cons_zero, List.set_cons_succ]
        refine wpAnyH_take (i := 14) (oi := ?oiz107) (v := undef) ?hiz107 (by kernel_rfl) (by kernel_rfl) (by kernel_rfl) ?hQz107 ?hyz107 (by assumption) ?restz107
        case hiz107 => simp only [List.getElem?_toArray, List.getElem?_cons_zero, List.getElem?_cons_succ]; rfl
        case hQz107 => exact fun _ _ _ h => h
        case hyz107 => exact Or.inr ⟨by rfl, rfl⟩
        try simp only [Act.put, List.setIfInBounds_toArray, List.set_cons_zero, List.set_cons_succ]
        refine wpAnyH_take (i := 15) (oi := ?oiz108) (v := undef) ?hiz108 (by kernel_rfl) (by kernel_rfl) (by kernel_rfl) ?hQz108 ?hyz108 (by assumption) ?restz108
        case hiz108 => simp only [List.getElem?_toArray, List.getElem?_cons_zero, List.getElem?_cons_succ]; rfl
        case hQz108 => exact fun _ _ _ h => h
        case hyz108 => exact Or.inr ⟨by rfl, rfl⟩
        try simp only [Act.put, List.setIfInBounds_toArray, List.set_cons_zero, List.set_cons_succ]
        refine wpAnyH_take (i := 16) (oi := ?oiz109) (v := undef) ?hiz109 (by kernel_rfl) (by kernel_rfl) (by kernel_rfl) ?hQz109 ?hyz109 (by assumption) ?restz109
        case hiz109 => simp only [List.getElem?_toArray, List.getElem?_cons_zero, List.getElem?_cons_succ]; rfl
        case hQz109 => exact fun _ _ _ h => h
        case hyz109 => exact Or.inr ⟨by rfl, rfl⟩
        try simp only [Act.put, List.setIfInBounds_toArray, List.set_cons_zero, List.set_cons_succ]
        refine wpAnyH_take (i := 17) (oi := ?oiz110) (v := ?vz110) ?hiz110 (by kernel_rfl) (by kernel_rfl) (by kernel_rfl) ?hQz110 ?hyz110 (by assumption) ?restz110
        case hiz110 => simp only [List.getElem?_toArray, List.getElem?_cons_zero, List.getElem?_cons_succ]; rfl
        case hQz110 => exact fun _ _ _ h => h
        case hyz110 => exact Or.inl ⟨by rfl, by intro w hSw; (try dsimp only at hSw); go_simp; with_reducible rfl⟩
        try simp only [Act.put, List.setIfInBounds_toArray, List.set_cons_zero, List.set_cons_succ]
        refine wpAnyH_done (by kernel_rfl) ?_ _
        have HX2 := Lib.hid (HXW.out.trans hHeld)
        clear hHeld
        go_wp2
        go_ret
        exact ⟨by rw [HE.out, HB.out]; rfl, HX2.out⟩
      | true =>
        have HBk := Lib.hid hb
        simp only [hb] at hen
        clear hb
        rcases k with _ | j
        · simp only [Int.cast_ofNat_Int] at hi2 ⊢
          go_wp2_with (first
            | (refine wpl_load ⟨g, o + 0 * 2, none⟩ (tEnt.enc L[0]) aggEntryI rfl _ rfl rfl (fun j u hu => by rw [Addr.add_lit]; exact HD.out j u hu) ?_)
            | (refine wpl_storeNewB aggEntryI HST.out rfl rfl _ _ rfl rfl rfl rfl ?_))
          generalize World.alloc wr (.cells (tEnt.enc L[0]).toArray 58) = w2 at HB2 E2 d0 HXW ⊢
          have R2 := Ext.refl w2
          refine wp_region_held_drew (S := fun W => Ext w2 W) (by kernel_rfl) (Ext.refl _).drew (fun hHeld => ?_)
          refine wpAnyH_take (i := 0) (oi := ?oiz111) (v := (.agg (tEnt.enc L[0]).toArray)) ?hiz111 (by kernel_rfl) (by kernel_rfl) (by kernel_rfl) ?hQz111 ?hyz111 (by assumption) ?restz111
          case hiz111 => simp only [List.getElem?_toArray, List.getElem?_cons_zero, List.getElem?_cons_succ]; rfl
          case hQz111 => exact fun _ _ _ h => h
          case hyz111 => refine yields_loadB HB2.out aggEntryI rfl ?_ _ rfl rfl; rfl
          try simp only [Act.put, List.setIfInBounds_toArray, List.set_cons_zero, List.set_cons_succ]
          refine wpAnyH_ready (rs := [1]) (by kernel_rfl) (by simp) (AllReadyH.cons (o := ?oy1121) ?hy1121 (fun K hK => ?sy1121) AllReadyH.nil)
          case hy1121 => simp only [List.getElem?_toArray, List.getElem?_cons_zero, List.getElem?_cons_succ]; rfl
          go_simp
          refine (hen _).mono ?_
          rintro e w3 ⟨rfl, hx⟩
          have hH2 := hHeld.trans hx
          refine hK.out _ _ hH2 (fun _ => ?_)
          clear hHeld hK K
          have hHeld := hH2
          clear hH2
          try simp only [Act.put, List.setIfInBounds_toArray, List.set_cons_zero, List.set_cons_succ]
          refine wpAnyH_take (i := 2) (oi := ?oiz113) (v := ?vz113) ?hiz113 (by kernel_rfl) (by kernel_rfl) (by kernel_rfl) ?hQz113 ?hyz113 (by assumption) ?restz113
          case hiz113 => simp only [List.getElem?_toArray, List.getElem?_cons_zero, List.getElem?_cons_succ]; rfl
          case hQz113 => exact fun _ _ _ h => h
          case hyz113 => exact Or.inl ⟨by rfl, by intro w hSw; (try dsimp only at hSw); go_simp; with_reducible rfl⟩
          try simp only [Act.put, List.setIfInBounds_toArray, List.set_cons_zero, List.set_cons_succ]
          refine wpAnyH_take (i := 3) (oi := ?oiz114) (v := ?vz114) ?hiz114 (by kernel_rfl) (by kernel_rfl) (by kernel_rfl) ?hQz114 ?hyz114 (by assumption) ?restz114
          case hiz114 => simp only [List.getElem?_toArray, List.getElem?_cons_zero, List.getElem?_cons_succ]; rfl
          case hQz114 => exact fun _ _ _ h => h
          case hyz114 => exact Or.inl ⟨by rfl, by intro w hSw; (try dsimp only at hSw); go_simp; with_reducible rfl⟩
          try simp only [Act.put, List.setIfInBounds_toArray, List.set_cons_zero, List.set_cons_succ]
          refine wpAnyH_take (i := 4) (oi := ?oiz115) (v := ?vz115) ?hiz115 (by kernel_rfl) (by kernel_rfl) (by kernel_rfl) ?hQz115 ?hyz115 (by assumption) ?restz115
          case hiz115 => simp only [List.getElem?_toArray, List.getElem?_cons_zero, List.getElem?_cons_succ]; rfl
          case hQz115 => exact fun _ _ _ h => h
          case hyz115 => exact Or.inl ⟨by rfl, by intro w hSw; (try dsimp only at hSw); go_simp; with_reducible rfl⟩
          try simp only [Act.put, List.setIfInBounds_toArray, List.set_cons_zero, List.set_cons_succ]
          refine wpAnyH_take (i := 5) (oi := ?oiz116) (v := ?vz116) ?hiz116 (by kernel_rfl) (by kernel_rfl) (by kernel_rfl) ?hQz116 ?hyz116 (by assumption) ?restz116
          case hiz116 => simp only [List.getElem?_toArray, List.getElem?_cons_zero, List.getElem?_cons_succ]; rfl
          case hQz116 => exact fun _ _ _ h => h
          case hyz116 => exact Or.inl ⟨by rfl, by intro w hSw; (try dsimp only at hSw); go_simp; with_reducible rfl⟩
          try simp only [Act.put, List.setIfInBounds_toArray, List.set_cons_zero, List.set_cons_succ]
          refine wpAnyH_take (i := 6) (oi := ?oiz117) (v := ?vz117) ?hiz117 (by kernel_rfl) (by kernel_rfl) (by kernel_rfl) ?hQz117 ?hyz117 (by assumption) ?restz117
          case hiz117 => simp only [List.getElem?_toArray, List.getElem?_cons_zero, List.getElem?_cons_succ]; rfl
          case hQz117 => exact fun _ _ _ h => h
          case hyz117 => exact Or.inl ⟨by rfl, by intro w hSw; (try dsimp only at hSw); go_simp; with_reducible rfl⟩
          try simp only [Act.put, List.setIfInBounds_toArray, List.set_cons_zero, List.set_cons_succ]
          refine wpAnyH_take (i := 7) (oi := ?oiz118) (v := undef) ?hiz118 (by kernel_rfl) (by kernel_rfl) (by kernel_rfl) ?hQz118 ?hyz118 (by assumption) ?restz118
          case hiz118 => simp only [List.getElem?_toArray, List.getElem?_cons_zero, List.getElem?_cons_succ]; rfl
          case hQz118 => exact fun _ _ _ h => h
          case hyz118 => exact Or.inr ⟨by rfl, rfl⟩
          try simp only [Act.put, List.setIfInBounds_toArray, List.set_cons_zero, List.set_cons_succ]
          refine wpAnyH_take (i := 8) (oi := ?oiz119) (v := undef) ?hiz119 (by kernel_rfl) (by kernel_rfl) (by kernel_rfl) ?hQz119 ?hyz119 (by assumption) ?restz119
          case hiz119 => simp only [List.getElem?_toArray, List.getElem?_cons_zero, List.getElem?_cons_succ]; rfl
          case hQz119 => exact fun _ _ _ h => h
          case hyz119 => exact Or.inr ⟨by rfl, rfl⟩
          try simp only [Act.put, List.setIfInBounds_toArray, List.set_cons_zero, List.set_cons_succ]
          refine wpAnyH_take (i := 9) (oi := ?oiz120) (v := undef) ?hiz120 (by kernel_rfl) (by kernel_rfl) (by kernel_rfl) ?hQz120 ?hyz120 (by assumption) ?restz120
          case hiz120 => simp only [List.getElem?_toArray, List.getElem?_cons_zero, List.getElem?_cons_succ]; rfl
          case hQz120 => exact fun _ _ _ h => h
          case hyz120 => exact Or.inr ⟨by rfl, rfl⟩
          try simp only [Act.put, List.setIfInBounds_toArray, List.set_cons_zero, List.set_cons_succ]
          refine wpAnyH_take (i := 10) (oi := ?oiz121) (v := undef) ?hiz121 (by kernel_rfl) (by kernel_rfl) (by kernel_rfl) ?hQz121 ?hyz121 (by assumption) ?restz121
          case hiz121 => simp only [List.getElem?_toArray, List.getElem?_cons_zero, List.getElem?_cons_succ]; rfl
          case hQz121 => exact fun _ _ _ h => h
          case hyz121 => exact Or.inr ⟨by rfl, rfl⟩
          try simp only [Act.put, List.setIfInBounds_toArray, List.set_cons_zero, List.set_cons_succ]
          refine wpAnyH_take (i := 11) (oi := ?oiz122) (v := undef) ?hiz122 (by kernel_rfl) (by kernel_rfl) (by kernel_rfl) ?hQz122 ?hyz122 (by assumption) ?restz122
          case hiz122 => simp only [List.getElem?_toArray, List.getElem?_cons_zero, List.getElem?_cons_succ]; rfl
          case hQz122 => exact fun _ _ _ h => h
          case hyz122 => exact Or.inr ⟨by rfl, rfl⟩
          try simp only [Act.put, List.setIfInBounds_toArray, List.set_cons_zero, List.set_cons_succ]
          refine wpAnyH_take (i := 12) (oi := ?oiz123) (v := undef) ?hiz123 (by kernel_rfl) (by kernel_rfl) (by kernel_rfl) ?hQz123 ?hyz123 (by assumption) ?restz123
          case hiz123 => simp only [List.getElem?_toArray, List.getElem?_cons_zero, List.getElem?_cons_succ]; rfl
          case hQz123 => exact fun _ _ _ h => h
          case hyz123 => exact Or.inr ⟨by rfl, rfl⟩
          try simp only [Act.put, List.setIfInBounds_toArray, List.set_cons_zero, List.set_cons_succ]
          refine wpAnyH_take (i := 13) (oi := ?oiz124) (v := undef) ?hiz124 (by kernel_rfl) (by kernel_rfl) (by kernel_rfl) ?hQz124 ?hyz124 (by assumption) ?restz124
          case hiz124 => simp only [List.getElem?_toArray, List.getElem?_cons_zero, List.getElem?_cons_succ]; rfl
          case hQz124 => exact fun _ _ _ h => h
          case hyz124 => exact Or.inr ⟨by rfl, rfl⟩
          try simp only [Act.put, List.setIfInBounds_toArray, List.set_cons_zero, List.set_cons_succ]
          refine wpAnyH_take (i := 14) (oi := ?oiz125) (v := undef) ?hiz125 (by kernel_rfl) (by kernel_rfl) (by kernel_rfl) ?hQz125 ?hyz125 (by assumption) ?restz125
          case hiz125 => simp only [List.getElem?_toArray, List.getElem?_cons_zero, List.getElem?_cons_succ]; rfl
          case hQz125 => exact fun _ _ _ h => h
          case hyz125 => exact Or.inr ⟨by rfl, rfl⟩
          try simp only [Act.put, List.setIfInBounds_toArray, List.set_cons_zero, List.set_cons_succ]
          refine wpAnyH_take (i := 15) (oi := ?oiz126) (v := undef) ?hiz126 (by kernel_rfl) (by kernel_rfl) (by kernel_rfl) ?hQz126 ?hyz126 (by assumption) ?restz126
          case hiz126 => simp only [List.getElem?_toArray, List.getElem?_cons_zero, List.getElem?_cons_succ]; rfl
          case hQz126 => exact fun _ _ _ h => h
          case hyz126 => exact Or.inr ⟨by rfl, rfl⟩
          try simp only [Act.put, List.setIfInBounds_toArray, List.set_cons_zero, List.set_cons_succ]
          refine wpAnyH_take (i := 16) (oi := ?oiz127) (v := ?vz127) ?hiz127 (by kernel_rfl) (by kernel_rfl) (by kernel_rfl) ?hQz127 ?hyz127 (by assumption) ?restz127
          case hiz127 => simp only [List.getElem?_toArray, List.getElem?_cons_zero, List.getElem?_cons_succ]; rfl
          case hQz127 => exact fun _ _ _ h => h
          case hyz127 => exact Or.inl ⟨by rfl, by intro w hSw; (try dsimp only at hSw); go_simp; with_reducible rfl⟩
          try simp only [Act.put, List.setIfInBounds_toArray, List.set_cons_zero, List.set_cons_succ]
          refine wpAnyH_take (i := 17) (oi := ?oiz128) (v := ?vz128) ?hiz128 (by kernel_rfl) (by kernel_rfl) (by kernel_rfl) ?hQz128 ?hyz128 (by assumption) ?restz128
          case hiz128 => simp only [List.getElem?_toArray, List.getElem?_cons_zero, List.getElem?_cons_succ]; rfl
          case hQz128 => exact fun _ _ _ h => h
          case hyz128 => exact Or.inl ⟨by rfl, by intro w hSw; (try dsimp only at hSw); go_simp; with_reducible rfl⟩
          try simp only [Act.put, List.setIfInBounds_toArray, List.set_cons_zero, List.set_cons_succ]
          refine wpAnyH_done (by kernel_rfl) ?_ _
          have HX2 := Lib.hid (HXW.out.trans hHeld)
          clear hHeld
          go_wp2
          go_roundw
          case rel => exact ⟨1, by omega, rfl, by rw [HSN.out, HS.out, incC, HGk.out, HBk.out]; rfl, HX2.out⟩
          case measure => simp [intOf]; omega
        · obtain ⟨g2, o2, e, hs1, hc⟩ := Hrd.out.elem Hok.out j (by omega)
          injection e with e
          injection e with e1 e2
          subst e1
          subst e2
          have d1' : ∀ W, Ext (wr.alloc (.cells (tEnt.enc L[j + 1]).toArray 58)) W → W.cell? ⟨g, o + j * 2, none⟩ = some (.string L[j].1) := fun W hW => (HXW.out.trans hW).cell (hc 0 _ rfl)
          have D1 := Lib.hid d1'
          have HGj := Lib.hid (gE_lt (L := L) (i := j) (by omega))
          have W1 : IntKind.i64.wrap (j : Int) = j := IntWalk.i64_in _ (by omega)
          have hj0 : (0 : Int) ≤ (j : Int) := by omega
          have hj1 : (j : Int) < (L.length : Int) := by omega
          have hj2 : (0 : Int) ≤ (j : Int) + 1 := by omega
          have hj3 : (0 : Int) < (j : Int) + 1 := by omega
          have hj4 : (j : Int) + 1 < (L.length : Int) := by omega
          clear hc d1'
          cases hl : ltB L[j].1 L[j + 1].1 with
          | true =>
            have hl2 : Op.bytesLess L[j + 1].1.toList L[j].1.toList = false := by rw [ltB_eq]; exact ltB_asymm hl
            have hl3 : (L[j + 1].1.toList == L[j].1.toList) = false := by
              rw [beq_eq_false_iff_ne]
              exact fun e => ltB_ne hl (toList_inj e).symm
            have HLT := Lib.hid hl
            clear hl
            go_wp2_with (first
              | (refine wpl_load ⟨g, o + (j + 1) * 2, none⟩ (tEnt.enc L[j + 1]) aggEntryI rfl _ rfl rfl (fun j u hu => by rw [Addr.add_lit]; exact HD.out j u hu) ?_)
              | (refine wpl_storeNewB aggEntryI HST.out rfl rfl _ _ rfl rfl rfl rfl ?_))
            generalize World.alloc wr (.cells (tEnt.enc L[j + 1]).toArray 58) = w2 at HB2 E2 d0 HXW D1 ⊢
            have R2 := Ext.refl w2
            have d1 := D1.out
            refine wp_region_held_drew (S := fun W => Ext w2 W) (by kernel_rfl) (Ext.refl _).drew (fun hHeld => ?_)
            refine wpAnyH_take (i := 0) (oi := ?oiz129) (v := (.agg (tEnt.enc L[j + 1]).toArray)) ?hiz129 (by kernel_rfl) (by kernel_rfl) (by kernel_rfl) ?hQz129 ?hyz129 (by assumption) ?restz129
            case hiz129 => simp only [List.getElem?_toArray, List.getElem?_cons_zero, List.getElem?_cons_succ]; rfl
            case hQz129 => exact fun _ _ _ h => h
            case hyz129 => refine yields_loadB HB2.out aggEntryI rfl ?_ _ rfl rfl; rfl
            try simp only [Act.put, List.setIfInBounds_toArray, List.set_cons_zero, List.set_cons_succ]
            refine wpAnyH_ready (rs := [1]) (by kernel_rfl) (by simp) (AllReadyH.cons (o := ?oy1301) ?hy1301 (fun K hK => ?sy1301) AllReadyH.nil)
            case hy1301 => simp only [List.getElem?_toArray, List.getElem?_cons_zero, List.getElem?_cons_succ]; rfl
            go_simp
            refine (hen _).mono ?_
            rintro e w3 ⟨rfl, hx⟩
            have hH2 := hHeld.trans hx
            refine hK.out _ _ hH2 (fun _ => ?_)
            clear hHeld hK K
            have hHeld := hH2
            clear hH2
            try simp only [Act.put, List.setIfInBounds_toArray, List.set_cons_zero, List.set_cons_succ]
            refine wpAnyH_take (i := 2) (oi := ?oiz131) (v := ?vz131) ?hiz131 (by kernel_rfl) (by kernel_rfl) (by kernel_rfl) ?hQz131 ?hyz131 (by assumption) ?restz131
            case hiz131 => simp only [List.getElem?_toArray, List.getElem?_cons_zero, List.getElem?_cons_succ]; rfl
            case hQz131 => exact fun _ _ _ h => h
            case hyz131 => exact Or.inl ⟨by rfl, by intro w hSw; (try dsimp only at hSw); go_simp; with_reducible rfl⟩
            try simp only [Act.put, List.setIfInBounds_toArray, List.set_cons_zero, List.set_cons_succ]
            refine wpAnyH_take (i := 3) (oi := ?oiz132) (v := ?vz132) ?hiz132 (by kernel_rfl) (by kernel_rfl) (by kernel_rfl) ?hQz132 ?hyz132 (by assumption) ?restz132
            case hiz132 => simp only [List.getElem?_toArray, List.getElem?_cons_zero, List.getElem?_cons_succ]; rfl
            case hQz132 => exact fun _ _ _ h => h
            case hyz132 => exact Or.inl ⟨by rfl, by intro w hSw; (try dsimp only at hSw); go_simp; with_reducible rfl⟩
            try simp only [Act.put, List.setIfInBounds_toArray, List.set_cons_zero, List.set_cons_succ]
            refine wpAnyH_take (i := 4) (oi := ?oiz133) (v := ?vz133) ?hiz133 (by kernel_rfl) (by kernel_rfl) (by kernel_rfl) ?hQz133 ?hyz133 (by assumption) ?restz133
            case hiz133 => simp only [List.getElem?_toArray, List.getElem?_cons_zero, List.getElem?_cons_succ]; rfl
            case hQz133 => exact fun _ _ _ h => h
            case hyz133 => exact Or.inl ⟨by rfl, by intro w hSw; (try dsimp only at hSw); go_simp; with_reducible rfl⟩
            try simp only [Act.put, List.setIfInBounds_toArray, List.set_cons_zero, List.set_cons_succ]
            refine wpAnyH_take (i := 5) (oi := ?oiz134) (v := ?vz134) ?hiz134 (by kernel_rfl) (by kernel_rfl) (by kernel_rfl) ?hQz134 ?hyz134 (by assumption) ?restz134
            case hiz134 => simp only [List.getElem?_toArray, List.getElem?_cons_zero, List.getElem?_cons_succ]; rfl
            case hQz134 => exact fun _ _ _ h => h
            case hyz134 => exact Or.inl ⟨by rfl, by intro w hSw; (try dsimp only at hSw); go_simp; with_reducible rfl⟩
            try simp only [Act.put, List.setIfInBounds_toArray, List.set_cons_zero, List.set_cons_succ]
            refine wpAnyH_take (i := 6) (oi := ?oiz135) (v := ?vz135) ?hiz135 (by kernel_rfl) (by kernel_rfl) (by kernel_rfl) ?hQz135 ?hyz135 (by assumption) ?restz135
            case hiz135 => simp only [List.getElem?_toArray, List.getElem?_cons_zero, List.getElem?_cons_succ]; rfl
            case hQz135 => exact fun _ _ _ h => h
            case hyz135 => exact Or.inl ⟨by rfl, by intro w hSw; (try dsimp only at hSw); go_simp; with_reducible rfl⟩
            try simp only [Act.put, List.setIfInBounds_toArray, List.set_cons_zero, List.set_cons_succ]
            refine wpAnyH_take (i := 7) (oi := ?oiz136) (v := ?vz136) ?hiz136 (by kernel_rfl) (by kernel_rfl) (by kernel_rfl) ?hQz136 ?hyz136 (by assumption) ?restz136
            case hiz136 => simp only [List.getElem?_toArray, List.getElem?_cons_zero, List.getElem?_cons_succ]; rfl
            case hQz136 => exact fun _ _ _ h => h
            case hyz136 => exact Or.inl ⟨by rfl, by intro w hSw; (try dsimp only at hSw); go_simp; with_reducible rfl⟩
            try simp only [Act.put, List.setIfInBounds_toArray, List.set_cons_zero, List.set_cons_succ]
            refine wpAnyH_take (i := 8) (oi := ?oiz137) (v := ?vz137) ?hiz137 (by kernel_rfl) (by kernel_rfl) (by kernel_rfl) ?hQz137 ?hyz137 (by assumption) ?restz137
            case hiz137 => simp only [List.getElem?_toArray, List.getElem?_cons_zero, List.getElem?_cons_succ]; rfl
            case hQz137 => exact fun _ _ _ h => h
            case hyz137 => exact Or.inl ⟨by rfl, by intro w hSw; (try dsimp only at hSw); go_simp; with_reducible rfl⟩
            try simp only [Act.put, List.setIfInBounds_toArray, List.set_cons_zero, List.set_cons_succ]
            refine wpAnyH_take (i := 9) (oi := ?oiz138) (v := ?vz138) ?hiz138 (by kernel_rfl) (by kernel_rfl) (by kernel_rfl) ?hQz138 ?hyz138 (by assumption) ?restz138
            case hiz138 => simp only [List.getElem?_toArray, List.getElem?_cons_zero, List.getElem?_cons_succ]; rfl
            case hQz138 => exact fun _ _ _ h => h
            case hyz138 => exact Or.inl ⟨by rfl, by intro w hSw; (try dsimp only at hSw); go_simp; with_reducible rfl⟩
            try simp only [Act.put, List.setIfInBounds_toArray, List.set_cons_zero, List.set_cons_succ]
            refine wpAnyH_take (i := 10) (oi := ?oiz139) (v := ?vz139) ?hiz139 (by kernel_rfl) (by kernel_rfl) (by kernel_rfl) ?hQz139 ?hyz139 (by assumption) ?restz139
            case hiz139 => simp only [List.getElem?_toArray, List.getElem?_cons_zero, List.getElem?_cons_succ]; rfl
            case hQz139 => exact fun _ _ _ h => h
            case hyz139 => exact Or.inl ⟨by rfl, by intro w hSw; (try dsimp only at hSw); go_simp; with_reducible rfl⟩
            try simp only [Act.put, List.setIfInBounds_toArray, List.set_cons_zero, List.set_cons_succ]
            refine wpAnyH_take (i := 11) (oi := ?oiz140) (v := ?vz140) ?hiz140 (by kernel_rfl) (by kernel_rfl) (by kernel_rfl) ?hQz140 ?hyz140 (by assumption) ?restz140
            case hiz140 => simp only [List.getElem?_toArray, List.getElem?_cons_zero, List.getElem?_cons_succ]; rfl
            case hQz140 => exact fun _ _ _ h => h
            case hyz140 => exact Or.inl ⟨by rfl, by intro w hSw; (try dsimp only at hSw); go_simp; with_reducible rfl⟩
            try simp only [Act.put, List.setIfInBounds_toArray, List.set_cons_zero, List.set_cons_succ]
            refine wpAnyH_take (i := 12) (oi := ?oiz141) (v := ?vz141) ?hiz141 (by kernel_rfl) (by kernel_rfl) (by kernel_rfl) ?hQz141 ?hyz141 (by assumption) ?restz141
            case hiz141 => simp only [List.getElem?_toArray, List.getElem?_cons_zero, List.getElem?_cons_succ]; rfl
            case hQz141 => exact fun _ _ _ h => h
            case hyz141 => exact Or.inl ⟨by rfl, by intro w hSw; (try dsimp only at hSw); go_simp; with_reducible rfl⟩
            try simp only [Act.put, List.setIfInBounds_toArray, List.set_cons_zero, List.set_cons_succ]
            refine wpAnyH_take (i := 13) (oi := ?oiz142) (v := ?vz142) ?hiz142 (by kernel_rfl) (by kernel_rfl) (by kernel_rfl) ?hQz142 ?hyz142 (by assumption) ?restz142
            case hiz142 => simp only [List.getElem?_toArray, List.getElem?_cons_zero, List.getElem?_cons_succ]; rfl
            case hQz142 => exact fun _ _ _ h => h
            case hyz142 => exact Or.inl ⟨by rfl, by intro w hSw; (try dsimp only at hSw); go_simp; with_reducible rfl⟩
            try simp only [Act.put, List.setIfInBounds_toArray, List.set_cons_zero, List.set_cons_succ]
            refine wpAnyH_take (i := 14) (oi := ?oiz143) (v := ?vz143) ?hiz143 (by kernel_rfl) (by kernel_rfl) (by kernel_rfl) ?hQz143 ?hyz143 (by assumption) ?restz143
            case hiz143 => simp only [List.getElem?_toArray, List.getElem?_cons_zero, List.getElem?_cons_succ]; rfl
            case hQz143 => exact fun _ _ _ h => h
            case hyz143 => exact Or.inl ⟨by rfl, by intro w hSw; (try dsimp only at hSw); go_simp; with_reducible rfl⟩
            try simp only [Act.put, List.setIfInBounds_toArray, List.set_cons_zero, List.set_cons_succ]
            refine wpAnyH_take (i := 15) (oi := ?oiz144) (v := ?vz144) ?hiz144 (by kernel_rfl) (by kernel_rfl) (by kernel_rfl) ?hQz144 ?hyz144 (by assumption) ?restz144
            case hiz144 => simp only [List.getElem?_toArray, List.getElem?_cons_zero, List.getElem?_cons_succ]; rfl
            case hQz144 => exact fun _ _ _ h => h
            case hyz144 => exact Or.inl ⟨by rfl, by intro w hSw; (try dsimp only at hSw); go_simp; with_reducible rfl⟩
            try simp only [Act.put, List.setIfInBounds_toArray, List.set_cons_zero, List.set_cons_succ]
            refine wpAnyH_take (i := 16) (oi := ?oiz145) (v := ?vz145) ?hiz145 (by kernel_rfl) (by kernel_rfl) (by kernel_rfl) ?hQz145 ?hyz145 (by assumption) ?restz145
            case hiz145 => simp only [List.getElem?_toArray, List.getElem?_cons_zero, List.getElem?_cons_succ]; rfl
            case hQz145 => exact fun _ _ _ h => h
            case hyz145 => exact Or.inl ⟨by rfl, by intro w hSw; (try dsimp only at hSw); go_simp; with_reducible rfl⟩
            try simp only [Act.put, List.setIfInBounds_toArray, List.set_cons_zero, List.set_cons_succ]
            refine wpAnyH_take (i := 17) (oi := ?oiz146) (v := ?vz146) ?hiz146 (by kernel_rfl) (by kernel_rfl) (by kernel_rfl) ?hQz146 ?hyz146 (by assumption) ?restz146
            case hiz146 => simp only [List.getElem?_toArray, List.getElem?_cons_zero, List.getElem?_cons_succ]; rfl
            case hQz146 => exact fun _ _ _ h => h
            case hyz146 => exact Or.inl ⟨by rfl, by intro w hSw; (try dsimp only at hSw); go_simp; with_reducible rfl⟩
            try simp only [Act.put, List.setIfInBounds_toArray, List.set_cons_zero, List.set_cons_succ]
            refine wpAnyH_done (by kernel_rfl) ?_ _
            have HX2 := Lib.hid (HXW.out.trans hHeld)
            clear hHeld
            go_wp2
            go_roundw
            case rel => exact ⟨j + 2, by omega, by go_num, by rw [HSN.out, HS.out, incC, HGk.out, HBk.out, show j + 1 - 1 = j by omega, HGj.out, HLT.out]; rfl, HX2.out⟩
            case measure => simp [intOf]; omega
          | false =>
            have HB := Lib.hid (incs_bad L (j + 1) L.length hlt (by rw [incC, HGk.out, HBk.out, show j + 1 - 1 = j by omega, HGj.out, hl]; rfl))
            have hl2 : (Op.bytesLess L[j + 1].1.toList L[j].1.toList || (L[j + 1].1.toList == L[j].1.toList)) = true := by
              rw [ltB_eq]
              cases hm : ltB L[j + 1].1 L[j].1 with
              | true => rfl
              | false => rw [ltB_total hl hm]; simp
            clear hl
            go_wp2_with (first
              | (refine wpl_load ⟨g, o + (j + 1) * 2, none⟩ (tEnt.enc L[j + 1]) aggEntryI rfl _ rfl rfl (fun j u hu => by rw [Addr.add_lit]; exact HD.out j u hu) ?_)
              | (refine wpl_storeNewB aggEntryI HST.out rfl rfl _ _ rfl rfl rfl rfl ?_))
            generalize World.alloc wr (.cells (tEnt.enc L[j + 1]).toArray 58) = w2 at HB2 E2 d0 HXW D1 ⊢
            have R2 := Ext.refl w2
            have d1 := D1.out
            refine wp_region_held_drew (S := fun W => Ext w2 W) (by kernel_rfl) (Ext.refl _).drew (fun hHeld => ?_)
            refine wpAnyH_take (i := 0) (oi := ?oiz147) (v := (.agg (tEnt.enc L[j + 1]).toArray)) ?hiz147 (by kernel_rfl) (by kernel_rfl) (by kernel_rfl) ?hQz147 ?hyz147 (by assumption) ?restz147
            case hiz147 => simp only [List.getElem?_toArray, List.getElem?_cons_zero, List.getElem?_cons_succ]; rfl
            case hQz147 => exact fun _ _ _ h => h
            case hyz147 => refine yields_loadB HB2.out aggEntryI rfl ?_ _ rfl rfl; rfl
            try simp only [Act.put, List.setIfInBounds_toArray, List.set_cons_zero, List.set_cons_succ]
            refine wpAnyH_ready (rs := [1]) (by kernel_rfl) (by simp) (AllReadyH.cons (o := ?oy1481) ?hy1481 (fun K hK => ?sy1481) AllReadyH.nil)
            case hy1481 => simp only [List.getElem?_toArray, List.getElem?_cons_zero, List.getElem?_cons_succ]; rfl
            go_simp
            refine (hen _).mono ?_
            rintro e w3 ⟨rfl, hx⟩
            have hH2 := hHeld.trans hx
            refine hK.out _ _ hH2 (fun _ => ?_)
            clear hHeld hK K
            have hHeld := hH2
            clear hH2
            try simp only [Act.put, List.setIfInBounds_toArray, List.set_cons_zero, List.set_cons_succ]
            refine wpAnyH_take (i := 2) (oi := ?oiz149) (v := ?vz149) ?hiz149 (by kernel_rfl) (by kernel_rfl) (by kernel_rfl) ?hQz149 ?hyz149 (by assumption) ?restz149
            case hiz149 => simp only [List.getElem?_toArray, List.getElem?_cons_zero, List.getElem?_cons_succ]; rfl
            case hQz149 => exact fun _ _ _ h => h
            case hyz149 => exact Or.inl ⟨by rfl, by intro w hSw; (try dsimp only at hSw); go_simp; with_reducible rfl⟩
            try simp only [Act.put, List.setIfInBounds_toArray, List.set_cons_zero, List.set_cons_succ]
            refine wpAnyH_take (i := 3) (oi := ?oiz150) (v := ?vz150) ?hiz150 (by kernel_rfl) (by kernel_rfl) (by kernel_rfl) ?hQz150 ?hyz150 (by assumption) ?restz150
            case hiz150 => simp only [List.getElem?_toArray, List.getElem?_cons_zero, List.getElem?_cons_succ]; rfl
            case hQz150 => exact fun _ _ _ h => h
            case hyz150 => exact Or.inl ⟨by rfl, by intro w hSw; (try dsimp only at hSw); go_simp; with_reducible rfl⟩
            try simp only [Act.put, List.setIfInBounds_toArray, List.set_cons_zero, List.set_cons_succ]
            refine wpAnyH_take (i := 4) (oi := ?oiz151) (v := ?vz151) ?hiz151 (by kernel_rfl) (by kernel_rfl) (by kernel_rfl) ?hQz151 ?hyz151 (by assumption) ?restz151
            case hiz151 => simp only [List.getElem?_toArray, List.getElem?_cons_zero, List.getElem?_cons_succ]; rfl
            case hQz151 => exact fun _ _ _ h => h
            case hyz151 => exact Or.inl ⟨by rfl, by intro w hSw; (try dsimp only at hSw); go_simp; with_reducible rfl⟩
            try simp only [Act.put, List.setIfInBounds_toArray, List.set_cons_zero, List.set_cons_succ]
            refine wpAnyH_take (i := 5) (oi := ?oiz152) (v := ?vz152) ?hiz152 (by kernel_rfl) (by kernel_rfl) (by kernel_rfl) ?hQz152 ?hyz152 (by assumption) ?restz152
            case hiz152 => simp only [List.getElem?_toArray, List.getElem?_cons_zero, List.getElem?_cons_succ]; rfl
            case hQz152 => exact fun _ _ _ h => h
            case hyz152 => exact Or.inl ⟨by rfl, by intro w hSw; (try dsimp only at hSw); go_simp; with_reducible rfl⟩
            try simp only [Act.put, List.setIfInBounds_toArray, List.set_cons_zero, List.set_cons_succ]
            refine wpAnyH_take (i := 6) (oi := ?oiz153) (v := ?vz153) ?hiz153 (by kernel_rfl) (by kernel_rfl) (by kernel_rfl) ?hQz153 ?hyz153 (by assumption) ?restz153
            case hiz153 => simp only [List.getElem?_toArray, List.getElem?_cons_zero, List.getElem?_cons_succ]; rfl
            case hQz153 => exact fun _ _ _ h => h
            case hyz153 => exact Or.inl ⟨by rfl, by intro w hSw; (try dsimp only at hSw); go_simp; with_reducible rfl⟩
            try simp only [Act.put, List.setIfInBounds_toArray, List.set_cons_zero, List.set_cons_succ]
            refine wpAnyH_take (i := 7) (oi := ?oiz154) (v := ?vz154) ?hiz154 (by kernel_rfl) (by kernel_rfl) (by kernel_rfl) ?hQz154 ?hyz154 (by assumption) ?restz154
            case hiz154 => simp only [List.getElem?_toArray, List.getElem?_cons_zero, List.getElem?_cons_succ]; rfl
            case hQz154 => exact fun _ _ _ h => h
            case hyz154 => exact Or.inl ⟨by rfl, by intro w hSw; (try dsimp only at hSw); go_simp; with_reducible rfl⟩
            try simp only [Act.put, List.setIfInBounds_toArray, List.set_cons_zero, List.set_cons_succ]
            refine wpAnyH_take (i := 8) (oi := ?oiz155) (v := ?vz155) ?hiz155 (by kernel_rfl) (by kernel_rfl) (by kernel_rfl) ?hQz155 ?hyz155 (by assumption) ?restz155
            case hiz155 => simp only [List.getElem?_toArray, List.getElem?_cons_zero, List.getElem?_cons_succ]; rfl
            case hQz155 => exact fun _ _ _ h => h
            case hyz155 => exact Or.inl ⟨by rfl, by intro w hSw; (try dsimp only at hSw); go_simp; with_reducible rfl⟩
            try simp only [Act.put, List.setIfInBounds_toArray, List.set_cons_zero, List.set_cons_succ]
            refine wpAnyH_take (i := 9) (oi := ?oiz156) (v := ?vz156) ?hiz156 (by kernel_rfl) (by kernel_rfl) (by kernel_rfl) ?hQz156 ?hyz156 (by assumption) ?restz156
            case hiz156 => simp only [List.getElem?_toArray, List.getElem?_cons_zero, List.getElem?_cons_succ]; rfl
            case hQz156 => exact fun _ _ _ h => h
            case hyz156 => exact Or.inl ⟨by rfl, by intro w hSw; (try dsimp only at hSw); go_simp; with_reducible rfl⟩
            try simp only [Act.put, List.setIfInBounds_toArray, List.set_cons_zero, List.set_cons_succ]
            refine wpAnyH_take (i := 10) (oi := ?oiz157) (v := ?vz157) ?hiz157 (by kernel_rfl) (by kernel_rfl) (by kernel_rfl) ?hQz157 ?hyz157 (by assumption) ?restz157
            case hiz157 => simp only [List.getElem?_toArray, List.getElem?_cons_zero, List.getElem?_cons_succ]; rfl
            case hQz157 => exact fun _ _ _ h => h
            case hyz157 => exact Or.inl ⟨by rfl, by intro w hSw; (try dsimp only at hSw); go_simp; with_reducible rfl⟩
            try simp only [Act.put, List.setIfInBounds_toArray, List.set_cons_zero, List.set_cons_succ]
            refine wpAnyH_take (i := 11) (oi := ?oiz158) (v := ?vz158) ?hiz158 (by kernel_rfl) (by kernel_rfl) (by kernel_rfl) ?hQz158 ?hyz158 (by assumption) ?restz158
            case hiz158 => simp only [List.getElem?_toArray, List.getElem?_cons_zero, List.getElem?_cons_succ]; rfl
            case hQz158 => exact fun _ _ _ h => h
            case hyz158 => exact Or.inl ⟨by rfl, by intro w hSw; (try dsimp only at hSw); go_simp; with_reducible rfl⟩
            try simp only [Act.put, List.setIfInBounds_toArray, List.set_cons_zero, List.set_cons_succ]
            refine wpAnyH_take (i := 12) (oi := ?oiz159) (v := ?vz159) ?hiz159 (by kernel_rfl) (by kernel_rfl) (by kernel_rfl) ?hQz159 ?hyz159 (by assumption) ?restz159
            case hiz159 => simp only [List.getElem?_toArray, List.getElem?_cons_zero, List.getElem?_cons_succ]; rfl
            case hQz159 => exact fun _ _ _ h => h
            case hyz159 => exact Or.inl ⟨by rfl, by intro w hSw; (try dsimp only at hSw); go_simp; with_reducible rfl⟩
            try simp only [Act.put, List.setIfInBounds_toArray, List.set_cons_zero, List.set_cons_succ]
            refine wpAnyH_take (i := 13) (oi := ?oiz160) (v := ?vz160) ?hiz160 (by kernel_rfl) (by kernel_rfl) (by kernel_rfl) ?hQz160 ?hyz160 (by assumption) ?restz160
            case hiz160 => simp only [List.getElem?_toArray, List.getElem?_cons_zero, List.getElem?_cons_succ]; rfl
            case hQz160 => exact fun _ _ _ h => h
            case hyz160 => exact Or.inl ⟨by rfl, by intro w hSw; (try dsimp only at hSw); go_simp; with_reducible rfl⟩
            try simp only [Act.put, List.setIfInBounds_toArray, List.set_cons_zero, List.set_cons_succ]
            refine wpAnyH_take (i := 14) (oi := ?oiz161) (v := ?vz161) ?hiz161 (by kernel_rfl) (by kernel_rfl) (by kernel_rfl) ?hQz161 ?hyz161 (by assumption) ?restz161
            case hiz161 => simp only [List.getElem?_toArray, List.getElem?_cons_zero, List.getElem?_cons_succ]; rfl
            case hQz161 => exact fun _ _ _ h => h
            case hyz161 => exact Or.inl ⟨by rfl, by intro w hSw; (try dsimp only at hSw); go_simp; with_reducible rfl⟩
            try simp only [Act.put, List.setIfInBounds_toArray, List.set_cons_zero, List.set_cons_succ]
            refine wpAnyH_take (i := 15) (oi := ?oiz162) (v := ?vz162) ?hiz162 (by kernel_rfl) (by kernel_rfl) (by kernel_rfl) ?hQz162 ?hyz162 (by assumption) ?restz162
            case hiz162 => simp only [List.getElem?_toArray, List.getElem?_cons_zero, List.getElem?_cons_succ]; rfl
            case hQz162 => exact fun _ _ _ h => h
            case hyz162 => exact Or.inl ⟨by rfl, by intro w hSw; (try dsimp only at hSw); go_simp; with_reducible rfl⟩
            try simp only [Act.put, List.setIfInBounds_toArray, List.set_cons_zero, List.set_cons_succ]
            refine wpAnyH_take (i := 16) (oi := ?oiz163) (v := ?vz163) ?hiz163 (by kernel_rfl) (by kernel_rfl) (by kernel_rfl) ?hQz163 ?hyz163 (by assumption) ?restz163
            case hiz163 => simp only [List.getElem?_toArray, List.getElem?_cons_zero, List.getElem?_cons_succ]; rfl
            case hQz163 => exact fun _ _ _ h => h
            case hyz163 => exact Or.inl ⟨by rfl, by intro w hSw; (try dsimp only at hSw); go_simp; with_reducible rfl⟩
            try simp only [Act.put, List.setIfInBounds_toArray, List.set_cons_zero, List.set_cons_succ]
            refine wpAnyH_take (i := 17) (oi := ?oiz164) (v := ?vz164) ?hiz164 (by kernel_rfl) (by kernel_rfl) (by kernel_rfl) ?hQz164 ?hyz164 (by assumption) ?restz164
            case hiz164 => simp only [List.getElem?_toArray, List.getElem?_cons_zero, List.getElem?_cons_succ]; rfl
            case hQz164 => exact fun _ _ _ h => h
            case hyz164 => exact Or.inl ⟨by rfl, by intro w hSw; (try dsimp only at hSw); go_simp; with_reducible rfl⟩
            try simp only [Act.put, List.setIfInBounds_toArray, List.set_cons_zero, List.set_cons_succ]
            refine wpAnyH_done (by kernel_rfl) ?_ _
            have HX2 := Lib.hid (HXW.out.trans hHeld)
            clear hHeld
            go_wp2
            go_ret
            exact ⟨by rw [HE.out, HB.out]; rfl, HX2.out⟩
    · obtain rfl : k = L.length := by omega
      go_wp2
      go_ret
      exact ⟨by rw [HE.out, HS.out, Bool.true_and]; exact ret_bool (by simp; omega), HX.out⟩

end Go.Proofs.Ytikpakhccmdmcaa
/- The tree of a map, plainly. No condition. -/
namespace Go.Proofs.Ytikpakhccmdmcaa
open Go.RowKit
set_option linter.unusedVariables false
set_option linter.unusedSimpArgs false

inductive Tr where
  | leaf : Tr
  | node : Nd → Tr → Tr → Tr
def Tr.key : Tr → List Int
  | .leaf => emptyL
  | .node x _ _ => hashL 5 (nodeL x)
def Tr.all : Tr → List Nd
  | .leaf => []
  | .node x l r => x :: (l.all ++ r.all)
def Tr.ok : Tr → Prop
  | .leaf => True
  | .node x l r => x.ok ∧ entB x.n x.v = true ∧ x.l = l.key ∧ x.r = r.key ∧ l.ok ∧ r.ok
theorem Tr.key_ok (T : Tr) : K32 T.key := by
  cases T with
  | leaf => exact emptyL_ok
  | node x l r => exact hashL_ok _ _
theorem Tr.all_ok (T : Tr) (h : T.ok) : ∀ x ∈ T.all, x.ok ∧ entB x.n x.v = true := by
  induction T with
  | leaf => intro x hx; simp [Tr.all] at hx
  | node y l r il ir =>
    obtain ⟨h1, h2, _, _, h5, h6⟩ := h
    intro x hx
    simp only [Tr.all, List.mem_cons, List.mem_append] at hx
    rcases hx with rfl | hx | hx
    · exact ⟨h1, h2⟩
    · exact il h5 x hx
    · exact ir h6 x hx
/-- the place of the greatest of the first k priorities -/
def gK (ps : List (List Int)) (k : Nat) : List Int := ps.getD k []
theorem gK_lt {ps : List (List Int)} {k : Nat} (h : k < ps.length) : gK ps k = ps[k] := by simp [gK, List.getD_eq_getElem?_getD, h]
def topS (ps : List (List Int)) (k t : Nat) : Nat := if 0 < cmpL (gK ps k) (gK ps t) then k else t
def topI (ps : List (List Int)) : Nat → Nat
  | 0 => 0
  | k + 1 => topS ps k (topI ps k)
theorem topI_zero (ps : List (List Int)) : topI ps 0 = 0 := rfl
theorem topI_succ (ps : List (List Int)) (k : Nat) : topI ps (k + 1) = if 0 < cmpL (gK ps k) (gK ps (topI ps k)) then k else topI ps k := rfl
attribute [irreducible] topI
theorem topI_one (ps : List (List Int)) : topI ps 1 = 0 := by rw [topI_succ, topI_zero, cmpL_self]; simp
theorem topI_lt (ps : List (List Int)) (k : Nat) (h : 0 < k) : topI ps k < k := by
  induction k with
  | zero => omega
  | succ k ih =>
    rw [topI_succ]
    split
    · omega
    · rcases Nat.eq_zero_or_pos k with rfl | hk
      · rw [topI_zero]; omega
      · have := ih hk; omega
def prios (L : List En) : List (List Int) := L.map fun e => prioL e.1
theorem prios_length (L : List En) : (prios L).length = L.length := by simp [prios]
theorem prios_at (L : List En) (k : Nat) (h : k < L.length) : gK (prios L) k = prioL L[k].1 := by rw [gK_lt (by rw [prios_length]; exact h)]; simp [prios]
theorem prios_ok (L : List En) : ∀ p ∈ prios L, K32 p := by
  intro p hp
  simp only [prios, List.mem_map] at hp
  obtain ⟨e, _, rfl⟩ := hp
  exact prioL_ok _
theorem prios_take (L : List En) (k : Nat) : prios (L.take k) = (prios L).take k := by simp [prios]
theorem prios_drop (L : List En) (k : Nat) : prios (L.drop k) = (prios L).drop k := by simp [prios]
def topE (L : List En) : Nat := topI (prios L) L.length
theorem topE_lt {L : List En} (h : 0 < L.length) : topE L < L.length := topI_lt _ _ h
/-- the tree -/
def trS (L : List En) (l r : Tr) : Tr := if L.length = 0 then .leaf else .node ⟨l.key, r.key, (gE L (topE L)).1, (gE L (topE L)).2⟩ l r
def trF : Nat → List En → Tr
  | 0, _ => .leaf
  | f + 1, L => trS L (trF f (L.take (topE L))) (trF f (L.drop (topE L + 1)))
theorem trF_zero (L : List En) : trF 0 L = .leaf := rfl
theorem trF_succ (f : Nat) (L : List En) : trF (f + 1) L = trS L (trF f (L.take (topE L))) (trF f (L.drop (topE L + 1))) := rfl
attribute [irreducible] trF
theorem trF_nil (f : Nat) (L : List En) (h : L.length = 0) : trF f L = .leaf := by
  cases f with
  | zero => rw [trF_zero]
  | succ f => rw [trF_succ, trS, if_pos h]
theorem trF_cons (f : Nat) (L : List En) (h : ¬ L.length = 0) : trF (f + 1) L = .node ⟨(trF f (L.take (topE L))).key, (trF f (L.drop (topE L + 1))).key, (gE L (topE L)).1, (gE L (topE L)).2⟩ (trF f (L.take (topE L))) (trF f (L.drop (topE L + 1))) := by rw [trF_succ, trS, if_neg h]
/-- entries that a map may hold -/
def good (L : List En) : Prop := ∀ e ∈ L, tEnt.ok e ∧ entB e.1 e.2 = true
theorem good_of {L : List En} (h : okE L = true) (hok : ∀ e ∈ L, tEnt.ok e) : good L := by
  intro e he
  refine ⟨hok e he, ?_⟩
  rw [okE_eq, Bool.and_eq_true, incs, List.all_eq_true] at h
  obtain ⟨i, hi, rfl⟩ := List.getElem_of_mem he
  have := h.1 i (List.mem_range.2 hi)
  simp only [incC, Bool.and_eq_true] at this
  rw [gE_lt hi] at this
  exact this.1
theorem good.take {L : List En} (h : good L) (k : Nat) : good (L.take k) := fun e he => h e (List.mem_of_mem_take he)
theorem good.drop {L : List En} (h : good L) (k : Nat) : good (L.drop k) := fun e he => h e (List.mem_of_mem_drop he)
theorem good.at_ {L : List En} (h : good L) {k : Nat} (hk : k < L.length) : tEnt.ok (gE L k) ∧ entB (gE L k).1 (gE L k).2 = true := by rw [gE_lt hk]; exact h _ (List.getElem_mem hk)
theorem trF_ok (f : Nat) (L : List En) (h : good L) : (trF f L).ok := by
  induction f generalizing L with
  | zero => rw [trF_zero]; trivial
  | succ f ih =>
    by_cases h0 : L.length = 0
    · rw [trF_nil _ _ h0]; trivial
    · rw [trF_cons _ _ h0]
      have hg := h.at_ (topE_lt (L := L) (by omega))
      exact ⟨⟨Tr.key_ok _, Tr.key_ok _, hg.1.1, hg.1.2⟩, hg.2, rfl, rfl, ih _ (h.take _), ih _ (h.drop _)⟩
theorem trF_len (f : Nat) (L : List En) : (trF f L).all.length ≤ L.length := by
  induction f generalizing L with
  | zero => rw [trF_zero]; simp [Tr.all]
  | succ f ih =>
    by_cases h0 : L.length = 0
    · rw [trF_nil _ _ h0]; simp [Tr.all]
    · rw [trF_cons _ _ h0]
      have h1 := ih (L.take (topE L))
      have h2 := ih (L.drop (topE L + 1))
      have h3 := topE_lt (L := L) (by omega)
      simp only [Tr.all, List.length_cons, List.length_append]
      rw [List.length_take] at h1
      rw [List.length_drop] at h2
      omega
def tNd : Ty Nd := ⟨66, Nd.enc, Nd.ok, fun _ h => Nd.enc_length h, fun x => Nd.enc_one x⟩
theorem Rd.cutL {α : Type} {T : Ty α} {w : World} {S : Nat → Prop} {A : Option Addr} {xs : List α} (h : Rd w S T.sz A xs.length (xs.flatMap T.enc)) (hok : ∀ x ∈ xs, T.ok x) {k cap : Nat} (hk : k ≤ xs.length) (hc : xs.length ≤ cap) :
    Rd w S T.sz (if cap = k then A else A.map (·.add (k * T.sz))) (xs.drop k).length ((xs.drop k).flatMap T.enc) := by
  have h1 := h.cut hk hc
  have e : (xs.flatMap T.enc).drop (k * T.sz) = (xs.drop k).flatMap T.enc := by
    conv => lhs; rw [← List.take_append_drop k xs, List.flatMap_append]
    rw [List.drop_append_of_le_length (by rw [flat_length T _ (fun x hx => hok x (List.mem_of_mem_take hx)), List.length_take, Nat.min_eq_left hk]; exact Nat.le_refl _), List.drop_eq_nil_of_le (by rw [flat_length T _ (fun x hx => hok x (List.mem_of_mem_take hx)), List.length_take, Nat.min_eq_left hk]; exact Nat.le_refl _), List.nil_append]
  rw [e, ← List.length_drop] at h1
  exact h1
theorem Rd.headL {α : Type} {T : Ty α} {w : World} {S : Nat → Prop} {A : Option Addr} {xs : List α} (h : Rd w S T.sz A xs.length (xs.flatMap T.enc)) (hok : ∀ x ∈ xs, T.ok x) {k : Nat} (hk : k ≤ xs.length) :
    Rd w S T.sz A (xs.take k).length ((xs.take k).flatMap T.enc) := by
  have h1 := h.head hk
  have e : (xs.flatMap T.enc).take (k * T.sz) = (xs.take k).flatMap T.enc := by
    conv => lhs; rw [← List.take_append_drop k xs, List.flatMap_append]
    rw [List.take_append_of_le_length (by rw [flat_length T _ (fun x hx => hok x (List.mem_of_mem_take hx)), List.length_take, Nat.min_eq_left hk]; exact Nat.le_refl _), List.take_of_length_le (by rw [flat_length T _ (fun x hx => hok x (List.mem_of_mem_take hx)), List.length_take, Nat.min_eq_left hk]; exact Nat.le_refl _)]
  have hl : (xs.take k).length = k := by rw [List.length_take]; omega
  rw [e] at h1
  rw [hl]
  exact h1
/-- the first k of a list that is read -/
theorem RdL.head {α : Type} {T : Ty α} {w : World} {S : Nat → Prop} {A : Option Addr} {xs : List α} {cap : Nat} (h : RdL T w S (.slice A xs.length cap) xs) {k : Nat} (hk : k ≤ xs.length) : RdL T w S (.slice A k cap) (xs.take k) := by
  obtain ⟨A', cap', e, h1, h2, h3, h4⟩ := h
  injection e with e1 _ e3
  subst e1 e3
  have hl : (xs.take k).length = k := by rw [List.length_take]; omega
  exact ⟨A, cap, by rw [hl], by omega, by omega, h3.headL h4 hk, fun x hx => h4 x (List.mem_of_mem_take hx)⟩
theorem RdL.cut {α : Type} {T : Ty α} {w : World} {S : Nat → Prop} {A : Option Addr} {xs : List α} {cap : Nat} (h : RdL T w S (.slice A xs.length cap) xs) {k : Nat} (hk : k ≤ xs.length) :
    RdL T w S (.slice (if cap = k then A else A.map (·.add (k * T.sz))) (xs.length - k) (cap - k)) (xs.drop k) := by
  obtain ⟨A', cap', e, h1, h2, h3, h4⟩ := h
  injection e with e1 _ e3
  subst e1 e3
  exact ⟨_, cap - k, by rw [List.length_drop], by rw [List.length_drop]; omega, by rw [List.length_drop]; omega, h3.cutL h4 hk h1, fun x hx => h4 x (List.mem_of_mem_drop hx)⟩
end Go.Proofs.Ytikpakhccmdmcaa
/- A name's place in a map: the reference and the program. No condition. -/
namespace Go.Proofs.Ytikpakhccmdmcaa
open Go.RowKit
set_option linter.unusedVariables false
set_option linter.unusedSimpArgs false

theorem incs_get {L : List En} {n : Nat} (h : incs L n = true) (k : Nat) (hk : k < n) : incC L k = true := by
  rw [incs, List.all_eq_true] at h
  exact h k (List.mem_range.2 hk)
theorem incs_lt {L : List En} {n : Nat} (h : incs L n = true) (p q : Nat) (hpq : p < q) (hq : q < n) : ltB (gE L p).1 (gE L q).1 = true := by
  induction q with
  | zero => omega
  | succ q ih =>
    have h1 := incs_get h (q + 1) hq
    rw [incC] at h1
    simp only [Bool.and_eq_true, Bool.or_eq_true, Nat.add_sub_cancel] at h1
    have h2 : ltB (gE L q).1 (gE L (q + 1)).1 = true := by
      rcases h1.2 with h | h
      · simp at h
      · exact h
    by_cases e : p = q
    · subst e; exact h2
    · exact ltB_trans (ih (by omega) (by omega)) h2
/-- how many names come ahead -/
@[irreducible] def posE (L : List En) (s : ByteArray) : Nat := (L.takeWhile fun e => ltB e.1 s).length
theorem posE_eq (L : List En) (s : ByteArray) (i : Nat) (hi : i ≤ L.length) (h1 : ∀ p, p < i → ltB (gE L p).1 s = true) (h2 : i < L.length → ltB (gE L i).1 s = false) : posE L s = i := by
  rw [posE]
  induction L generalizing i with
  | nil => simp at hi; simp [hi]
  | cons e r ih =>
    cases i with
    | zero =>
      have := h2 (by simp)
      simp only [gE, List.getD_cons_zero] at this
      simp [List.takeWhile_cons, this]
    | succ i =>
      have h0 := h1 0 (by omega)
      simp only [gE, List.getD_cons_zero] at h0
      rw [List.takeWhile_cons, if_pos h0, List.length_cons, ih i (by simpa using hi) (fun p hp => by have := h1 (p + 1) (by omega); simpa [gE] using this) (fun h => by have := h2 (by simpa using h); simpa [gE] using this)]
theorem posE_of {L : List En} {s : ByteArray} (h : incs L L.length = true) (i : Nat) (hi : i ≤ L.length) (h1 : i = 0 ∨ ltB (gE L (i - 1)).1 s = true) (h2 : i = L.length ∨ ltB (gE L i).1 s = false) : posE L s = i := by
  refine posE_eq L s i hi (fun p hp => ?_) (fun hlt => ?_)
  · rcases h1 with rfl | h1
    · omega
    · by_cases e : p = i - 1
      · rw [e]; exact h1
      · exact ltB_trans (incs_lt h p (i - 1) (by omega) (by omega)) h1
  · rcases h2 with rfl | h2
    · omega
    · exact h2
theorem posE_hit {L : List En} {s : ByteArray} (h : incs L L.length = true) (k : Nat) (hk : k < L.length) (e : (gE L k).1 = s) : posE L s = k := by
  refine posE_eq L s k (by omega) (fun p hp => ?_) (fun _ => by rw [e]; exact ltB_irrefl s)
  rw [← e]
  exact incs_lt h p k hp hk
/-- is the name there? -/
@[irreducible] def hasE (L : List En) (s : ByteArray) : Bool := decide (posE L s < L.length ∧ (gE L (posE L s)).1 = s)
theorem hasE_eq (L : List En) (s : ByteArray) : hasE L s = decide (posE L s < L.length ∧ (gE L (posE L s)).1 = s) := by rw [hasE]
@[irreducible] def findI (L : List En) (s : ByteArray) : Int := if hasE L s then posE L s else -1
theorem findI_eq (L : List En) (s : ByteArray) : findI L s = if hasE L s then (posE L s : Int) else -1 := by rw [findI]
theorem findI_hit {L : List En} {s : ByteArray} (h : incs L L.length = true) (k : Nat) (hk : k < L.length) (e : (gE L k).1 = s) : findI L s = k := by
  have hp := posE_hit h k hk e
  rw [findI, hasE_eq, hp, decide_eq_true ⟨hk, e⟩]; rfl
theorem findI_miss {L : List En} {s : ByteArray} (h : ∀ p, p < L.length → (gE L p).1 ≠ s) : findI L s = -1 := by
  rw [findI, hasE_eq, decide_eq_false (fun q => h _ q.1 q.2)]; rfl
set_option maxHeartbeats 1000000 in
set_option maxRecDepth 100000 in
theorem l04Find_any (v : Value) (L : List En) (hs : incs L L.length = true) (s : ByteArray) (w : World) (S : Nat → Prop) (h : RdL tEnt w S v L) :
    Calls Try.prog 43 #[v, .string s] w fun e w' => e = .returned (.int .i64 (findI L s)) ∧ w = w' := by
  obtain ⟨A, cap, rfl, hcap, hlen, hrd, hok⟩ := h
  have Hrd := Lib.hid hrd
  have Hok := Lib.hid hok
  have HS := Lib.hid hs
  clear hrd hok hs
  go_enter Try.func43, Try.ntmps43
  go_wp2
  go_loop [5] (fun i => ∃ k : Nat, k ≤ L.length ∧ i = .int .i64 k ∧ ∀ p, p < k → (gE L p).1 ≠ s) (fun i => L.length - (intOf i).toNat)
  case atStart => exact ⟨0, by omega, rfl, fun p hp => by omega⟩
  case round =>
    obtain ⟨k, hk, rfl, hm⟩ := hrel
    have HM := Lib.hid hm
    clear hm
    by_cases hlt : k < L.length
    · obtain ⟨g, o, rfl, hs0, hc⟩ := Hrd.out.elem Hok.out k hlt
      have d0 : w.cell? ⟨g, o + k * 2, none⟩ = some (.string L[k].1) := hc 0 _ rfl
      have HG := Lib.hid (gE_lt hlt)
      have hi : (0 : Int) ≤ (k : Int) := by omega
      have hi2 : (k : Int) < (L.length : Int) := by omega
      clear hc
      by_cases he : L[k].1 = s
      · have he2 : (L[k].1.toList == s.toList) = true := by rw [he, beq_self_eq_true]
        have HE := Lib.hid (findI_hit (s := s) HS.out k hlt (by rw [HG.out]; exact he))
        clear he
        go_wp2
        go_ret
        exact ⟨by rw [HE.out]; rfl, rfl⟩
      · have he2 : (L[k].1.toList == s.toList) = false := by rw [beq_eq_false_iff_ne]; exact fun e => he (toList_inj e)
        have HE := Lib.hid he
        clear he
        go_wp2
        go_round
        case rel => exact ⟨k + 1, by omega, by go_num, fun p hp => by
          by_cases e : p = k
          · subst e; rw [HG.out]; exact HE.out
          · exact HM.out p (by omega)⟩
        case measure => simp [intOf]; omega
    · obtain rfl : k = L.length := by omega
      have HE := Lib.hid (findI_miss HM.out)
      go_wp2
      go_ret
      exact ⟨by rw [HE.out]; rfl, rfl⟩
set_option maxHeartbeats 1000000 in
set_option maxRecDepth 100000 in
theorem findFn_any (e : En) (s : ByteArray) (w : World) :
    Calls Try.prog 104 #[.agg (tEnt.enc e).toArray, .string s] w fun q w' => q = .returned (.int .i64 (cmpS e.1 s)) ∧ Ext w w' := by
  show Calls Try.prog 104 #[.agg #[.string e.1, .string e.2], .string s] w _
  go_enter Try.func104, Try.ntmps104
  go_wp2_with fail
  refine (cmpS_any e.1 s _).mono ?_
  rintro q w' ⟨rfl, rfl⟩
  go_wp2
  go_ret
  exact ⟨rfl, ext_alloc _ _⟩
set_option maxHeartbeats 1000000 in
set_option maxRecDepth 100000 in
theorem binSearch_any (v : Value) (L : List En) (hs : incs L L.length = true) (s : ByteArray) (w : World) (S : Nat → Prop) (h : RdL tEnt w S v L) :
    Calls Try.prog 103 #[v, .string s, .func (.func 104) #[] #[]] w fun e w' => e = .returned (.tuple #[.int .i64 (posE L s), .bool (hasE L s)]) ∧ Ext w w' := by
  obtain ⟨A, cap, rfl, hcap, hlen, hrd, hok⟩ := h
  have Hrd := Lib.hid hrd
  have Hok := Lib.hid hok
  have HS := Lib.hid hs
  clear hrd hok hs
  go_enter Try.func103, Try.ntmps103
  go_wp2
  go_loopw [9, 10] (fun i j wr => ∃ p q : Nat, p ≤ q ∧ q ≤ L.length ∧ i = .int .i64 p ∧ j = .int .i64 q ∧ (p = 0 ∨ ltB (gE L (p - 1)).1 s = true) ∧ (q = L.length ∨ ltB (gE L q).1 s = false) ∧ Ext w wr) (fun i j _ => (intOf j).toNat - (intOf i).toNat)
  case atStart => exact ⟨0, L.length, by omega, Nat.le_refl _, rfl, rfl, .inl rfl, .inl rfl, Ext.refl _⟩
  case round =>
    obtain ⟨p, q, hpq, hq, rfl, rfl, h1, h2, hx⟩ := hrel
    have HX := Lib.hid hx
    have H1 := Lib.hid h1
    have H2 := Lib.hid h2
    clear hx h1 h2
    by_cases hlt : p < q
    · obtain ⟨m, hm⟩ : ∃ m, (p + q) / 2 = m := ⟨_, rfl⟩
      have hml : m < L.length := by omega
      obtain ⟨g, o, rfl, hs0, hc⟩ := Hrd.out.elem Hok.out m hml
      have HD := Lib.hid (show ∀ j u, (tEnt.enc L[m])[j]? = some u → wr.cell? ⟨g, o + m * 2 + j, none⟩ = some u from fun j u hu => HX.out.cell (hc j u hu))
      have HG := Lib.hid (gE_lt hml)
      have W1 : IntKind.u64.wrap ((p : Int) + q) = (p : Int) + q := wraps_u64 _ (by omega) (by omega)
      have W2 : ((p : Int) + q) / 2 = m := by omega
      have W3 : IntKind.i64.wrap (m : Int) = m := IntWalk.i64_in _ (by omega)
      have hi : (0 : Int) ≤ (m : Int) := by omega
      have hi2 : (m : Int) < (L.length : Int) := by omega
      have hp2 : p ≤ m := by omega
      have hp3 : m < q := by omega
      have HP := Lib.hid hm
      clear hc hm
      cases hl : ltB L[m].1 s with
      | true =>
        have hneg : cmpS L[m].1 s < 0 := (cmpS_lt _ _).2 hl
        have HL := Lib.hid hl
        clear hl
        go_wp2_with (refine wpl_load ⟨g, o + m * 2, none⟩ (tEnt.enc L[m]) aggEntryI rfl _ rfl rfl (fun j u hu => by rw [Addr.add_lit]; exact HD.out j u hu) ?_)
        refine (findFn_any L[m] s _).mono ?_
        rintro e w1 ⟨rfl, hx⟩
        have HX2 := Lib.hid (HX.out.trans hx)
        clear hx W1 W2
        go_wp2
        go_roundw
        case rel => exact ⟨m + 1, q, by omega, hq, by go_num, rfl, .inr (by rw [Nat.add_sub_cancel, HG.out]; exact HL.out), H2.out, HX2.out⟩
        case measure => simp [intOf]; omega
      | false =>
        have hneg : ¬ cmpS L[m].1 s < 0 := fun h => by rw [(cmpS_lt _ _).1 h] at hl; cases hl
        have HL := Lib.hid hl
        clear hl
        go_wp2_with (refine wpl_load ⟨g, o + m * 2, none⟩ (tEnt.enc L[m]) aggEntryI rfl _ rfl rfl (fun j u hu => by rw [Addr.add_lit]; exact HD.out j u hu) ?_)
        refine (findFn_any L[m] s _).mono ?_
        rintro e w1 ⟨rfl, hx⟩
        have HX2 := Lib.hid (HX.out.trans hx)
        clear hx W1 W2
        go_wp2
        go_roundw
        case rel => exact ⟨p, m, hp2, by omega, rfl, rfl, H1.out, .inr (by rw [HG.out]; exact HL.out), HX2.out⟩
        case measure => simp [intOf]; omega
    · obtain rfl : p = q := by omega
      have HPOS := Lib.hid (posE_of HS.out p hq H1.out H2.out)
      have HH := Lib.hid (hasE_eq L s)
      clear H1 H2
      by_cases hpl : p < L.length
      · obtain ⟨g, o, rfl, hs0, hc⟩ := Hrd.out.elem Hok.out p hpl
        have HD := Lib.hid (show ∀ j u, (tEnt.enc L[p])[j]? = some u → wr.cell? ⟨g, o + p * 2 + j, none⟩ = some u from fun j u hu => HX.out.cell (hc j u hu))
        have HG := Lib.hid (gE_lt hpl)
        have hi : (0 : Int) ≤ (p : Int) := by omega
        have hi2 : (p : Int) < (L.length : Int) := by omega
        clear hc
        have hcf := findFn_any L[p] s
        have d0 : wr.cell? ⟨g, o + p * 2, none⟩ = some (.string L[p].1) := HD.out 0 _ rfl
        have d1 : wr.cell? ⟨g, o + p * 2 + 1, none⟩ = some (.string L[p].2) := HD.out 1 _ rfl
        by_cases he : L[p].1 = s
        · have hz : cmpS L[p].1 s = 0 := (cmpS_zero _ _).2 he
          simp only [hz] at hcf
          have HE := Lib.hid he
          clear he hz
          go_wp2_with fail
          refine (hcf _).mono ?_
          rintro e w1 ⟨rfl, hx⟩
          have HX2 := Lib.hid (HX.out.trans hx)
          clear hx
          go_wp2
          go_ret2
          exact ⟨by rw [HH.out, HPOS.out, decide_eq_true ⟨hpl, by rw [HG.out]; exact HE.out⟩]; rfl, HX2.out⟩
        · have hz : (cmpS L[p].1 s == 0) = false := by rw [beq_eq_false_iff_ne]; exact fun h => he ((cmpS_zero _ _).1 h)
          have HE := Lib.hid he
          clear he
          go_wp2_with fail
          refine (hcf _).mono ?_
          rintro e w1 ⟨rfl, hx⟩
          have HX2 := Lib.hid (HX.out.trans hx)
          clear hx
          go_wp2
          go_ret2
          exact ⟨by rw [HH.out, HPOS.out, decide_eq_false (fun h => HE.out (by rw [← HG.out]; exact h.2))]; rfl, HX2.out⟩
      · go_wp2
        go_ret2
        exact ⟨by rw [HH.out, HPOS.out, decide_eq_false (fun h => hpl h.1)]; rfl, HX.out⟩
set_option maxHeartbeats 1000000 in
set_option maxRecDepth 100000 in
theorem find_any (v : Value) (L : List En) (hs : incs L L.length = true) (s : ByteArray) (w : World) (S : Nat → Prop) (h : RdL tEnt w S v L) :
    Calls Try.prog 75 #[v, .string s] w fun e w' => e = .returned (.tuple #[.int .i64 (posE L s), .bool (hasE L s)]) ∧ Ext w w' := by
  have H := Lib.hid (binSearch_any v L hs s w S h)
  obtain ⟨A, cap, rfl, _⟩ := h
  go_enter Try.func75, Try.ntmps75
  go_wp2_with fail
  refine H.out.mono ?_
  rintro e w1 ⟨rfl, hx⟩
  have HX := Lib.hid hx
  clear hx
  go_wp2
  go_ret2
  exact ⟨rfl, HX.out⟩

end Go.Proofs.Ytikpakhccmdmcaa
/- The entries of a range: the reference. No condition. -/
namespace Go.Proofs.Ytikpakhccmdmcaa
open Go.RowKit
set_option linter.unusedVariables false
set_option linter.unusedSimpArgs false

theorem rowEnt : Row Try.prog tEnt 26 58 32 := Row.mk' Try.underlying26 (.agg #[.string ⟨#[]⟩, .string ⟨#[]⟩]) (by kernel_rfl) rfl (by decide) (by decide)
@[irreducible] def inR (lo hi : ByteArray) (e : En) : Bool := !ltB e.1 lo && ltB e.1 hi
theorem inR_eq (lo hi : ByteArray) (e : En) : inR lo hi e = (!ltB e.1 lo && ltB e.1 hi) := by rw [inR]
def rangeR (L : List En) (lo hi : ByteArray) : List En × Int := if okE L then (L.filter (inR lo hi), 0) else ([], 1)
theorem okE_incs' {L : List En} (h : okE L = true) : incs L L.length = true ∧ L.length ≤ 64 := by
  rw [okE_eq] at h
  simpa using h
theorem rd_ent (w : World) (e : En) (t : TypeId) : Rd (w.alloc (.cells #[.string e.1, .string e.2] t)) (fun g => g = w.heap.size) tEnt.sz (some ⟨w.heap.size, 0, none⟩) [e].length ([e].flatMap tEnt.enc) := by
  refine ⟨rfl, fun _ => ⟨_, 0, rfl, rfl, fun j u hu => ?_⟩⟩
  rw [Nat.zero_add, (Blk.new w t _).cell]
  simpa [tEnt] using hu
theorem filter_next (p : En → Bool) (L : List En) (k : Nat) (h : k < L.length) : (L.take (k + 1)).filter p = (L.take k).filter p ++ (if p L[k] then [L[k]] else []) := by
  rw [List.take_succ_eq_append_getElem h, List.filter_append]
  cases hp : p L[k] <;> simp [hp]
end Go.Proofs.Ytikpakhccmdmcaa
/- Rows of entries, entry by entry: read out of an owned row, written, shut again. No condition. -/
namespace Go.Proofs.Ytikpakhccmdmcaa
open Go.RowKit
set_option linter.unusedVariables false
set_option linter.unusedSimpArgs false

def AtE (cur : Array Value) (i : Nat) (e : En) : Prop := cur[i * 2]? = some (.string e.1) ∧ cur[i * 2 + 1]? = some (.string e.2)
theorem flat_ent (xs : List En) (i : Nat) (hi : i < xs.length) : (xs.flatMap tEnt.enc)[i * 2]? = some (.string xs[i].1) ∧ (xs.flatMap tEnt.enc)[i * 2 + 1]? = some (.string xs[i].2) := by
  induction xs generalizing i with
  | nil => simp at hi
  | cons x r ih =>
    cases i with
    | zero => exact ⟨rfl, rfl⟩
    | succ i =>
      simp only [List.length_cons] at hi
      have := ih i (by omega)
      rw [show (i + 1) * 2 = i * 2 + 1 + 1 by omega]
      exact this
theorem flat_len (xs : List En) : (xs.flatMap tEnt.enc).length = xs.length * 2 := by
  induction xs with
  | nil => rfl
  | cons x r ih => rw [List.flatMap_cons, List.length_append, ih, List.length_cons]; show 2 + _ = _; omega
theorem own_of_at {w : World} {g t cap base : Nat} {cur : Array Value} {xs : List En} (hb : Blk w g t cur) (hg : base ≤ g) (hs : cur.size = cap * 2) (hn : xs.length ≤ cap) (hc : cap ≤ maxLen) (hl : xs.length ≤ 140737488355328) (hok : ∀ x ∈ xs, tEnt.ok x) (hat : ∀ i (hi : i < xs.length), AtE cur i xs[i]) :
    Own tEnt t w base (.slice (some ⟨g, 0, none⟩) xs.length cap) xs := by
  refine ⟨⟨flat_len xs, .inr ⟨g, cap, cur, rfl, hg, hb, hn, hc, hs, ?_⟩⟩, hl, hok⟩
  apply List.ext_getElem?
  intro q
  show (List.take (xs.length * 2) cur.toList)[q]? = _
  by_cases hq : q < xs.length * 2
  · rw [List.getElem?_take_of_lt hq, Array.getElem?_toList]
    have hi : q / 2 < xs.length := by omega
    have h1 := hat _ hi
    have h2 := flat_ent xs _ hi
    rcases Nat.mod_two_eq_zero_or_one q with h0 | h0
    · rw [show q = q / 2 * 2 by omega, h1.1, h2.1]
    · rw [show q = q / 2 * 2 + 1 by omega, h1.2, h2.2]
  · rw [List.getElem?_eq_none (by simp; omega), List.getElem?_eq_none (by rw [flat_len]; omega)]
theorem at_of_own {w : World} {t base : Nat} {v : Value} {xs : List En} (h : Own tEnt t w base v xs) (h0 : 0 < xs.length) :
    ∃ g cap cur, v = .slice (some ⟨g, 0, none⟩) xs.length cap ∧ base ≤ g ∧ g < w.heap.size ∧ Blk w g t cur ∧ cur.size = cap * 2 ∧ xs.length ≤ cap ∧ cap ≤ maxLen ∧ ∀ i (hi : i < xs.length), AtE cur i xs[i] := by
  have hbl := h.base_le
  obtain ⟨⟨hl, hx⟩, h2, h3⟩ := h
  rcases hx with ⟨rfl, hz⟩ | ⟨g, cap, cur, rfl, hb, hg, hc, hm, hs, ht⟩
  · omega
  · refine ⟨g, cap, cur, rfl, hb, (hbl g rfl).2, hg, hs, hc, hm, fun i hi => ?_⟩
    have h2 := flat_ent xs i hi
    rw [← ht] at h2
    have hz : i * 2 + 1 < xs.length * tEnt.sz := by show i * 2 + 1 < xs.length * 2; omega
    rw [List.getElem?_take_of_lt (by omega), List.getElem?_take_of_lt hz, Array.getElem?_toList, Array.getElem?_toList] at h2
    exact h2
theorem splice_size (cur : Array Value) (o : Nat) (vs : List Value) (h : o + vs.length ≤ cur.size) : (splice cur o vs).size = cur.size := by
  unfold splice
  simp
  omega
theorem splice_out (cur : Array Value) (o : Nat) (vs : List Value) (h : o + vs.length ≤ cur.size) (q : Nat) (hq : q < o ∨ o + vs.length ≤ q) : (splice cur o vs)[q]? = cur[q]? := by
  unfold splice
  rw [List.getElem?_toArray, List.append_assoc]
  rcases hq with hq | hq
  · rw [List.getElem?_append_left (by simp; omega), List.getElem?_take_of_lt hq, Array.getElem?_toList]
  · rw [List.getElem?_append_right (by simp; omega), List.getElem?_append_right (by simp; omega), List.getElem?_drop, Array.getElem?_toList]
    congr 1
    simp
    omega
theorem splice_in (cur : Array Value) (o : Nat) (vs : List Value) (h : o + vs.length ≤ cur.size) (q : Nat) (hq : q < vs.length) : (splice cur o vs)[o + q]? = vs[q]? := by
  unfold splice
  rw [List.getElem?_toArray, List.append_assoc, List.getElem?_append_right (by simp; omega), List.getElem?_append_left (by simp; omega)]
  congr 1
  simp
  omega
theorem at_put (cur : Array Value) (i : Nat) (e : En) (h : i * 2 + 2 ≤ cur.size) : AtE (splice cur (i * 2) [.string e.1, .string e.2]) i e :=
  ⟨splice_in cur (i * 2) [.string e.1, .string e.2] h 0 (by simp), splice_in cur (i * 2) [.string e.1, .string e.2] h 1 (by simp)⟩
theorem at_far {cur : Array Value} {i p : Nat} {e f : En} (h : i * 2 + 2 ≤ cur.size) (hp : p ≠ i) (ha : AtE cur p f) : AtE (splice cur (i * 2) [.string e.1, .string e.2]) p f :=
  ⟨by rw [splice_out _ _ _ h _ (by simp; omega)]; exact ha.1, by rw [splice_out _ _ _ h _ (by simp; omega)]; exact ha.2⟩
theorem grown_row {w w' : World} {g : Nat} (h : w.grownBy w' (some g)) (cs : Array Value) : w.grownBy (w'.setRow g cs) (some g) :=
  grown_trans h ⟨rfl, rfl, rfl, by simp, fun k hk hne => setRow_other w' g k cs (fun e => hne (by rw [e]))⟩
theorem grown_cell {w w' : World} {g p : Nat} {u : Value} (h : w.grownBy w' (some g)) (hp : p ≠ g) (hc : w.cell? ⟨p, 0, none⟩ = some u) : w'.cell? ⟨p, 0, none⟩ = some u := by
  rw [← hc]
  exact World.cell?_of_block (h.block p (World.block_lt_of_cell? w _ hc) (fun e => hp (Option.some.inj e)))
/-- entries of one's own are made empty -/
theorem run_clearE {w : World} {g off n : Nat} {cur : Array Value} {t : TypeId} (hn : 0 < n) (hb : Blk w g t cur) (h : off + n * 2 ≤ cur.size) :
    ∃ cs, cs.size = cur.size ∧ (∀ q, q < off → cs[q]? = cur[q]?) ∧ ∀ ty c, (Builtin.clear_ #[26] ty #[.slice (some ⟨g, off, none⟩) n c]).run Try.prog w = .ok (.tuple #[]) (w.setRow g cs) := by
  have hz : ∀ W : World, (zeroValue 58).run Try.prog W = .ok (.agg #[.string ⟨#[]⟩, .string ⟨#[]⟩]) W := by
    intro W
    have hi : (Try.prog.info? 58).map (·.zero) = some (some (.agg #[.string ⟨#[]⟩, .string ⟨#[]⟩])) := by kernel_rfl
    cases hq : Try.prog.info? 58 with
    | none => simp [hq] at hi
    | some i =>
      have hz : i.zero = some (.agg #[.string ⟨#[]⟩, .string ⟨#[]⟩]) := by simpa [hq] using hi
      simp [zeroValue, typeInfo, hq, hz]
  obtain ⟨m, rfl⟩ : ∃ m, n = m + 1 := ⟨n - 1, by omega⟩
  have hl : (Builtin.zeroCells #[.string ⟨#[]⟩, .string ⟨#[]⟩] (m + 1)).toList.length = (m + 1) * 2 := by simp [size_zeroCells]
  have h1 : ∀ u ∈ (Builtin.zeroCells #[.string ⟨#[]⟩, .string ⟨#[]⟩] (m + 1)).toList, u.oneCell' = true := by
    intro u hu
    simp only [Builtin.zeroCells, Array.toList_map, List.mem_map] at hu
    obtain ⟨i, _, rfl⟩ := hu
    rcases Nat.mod_two_eq_zero_or_one i with h0 | h0
    · simp only [List.size_toArray, List.length_cons, List.length_nil, h0]; rfl
    · simp only [List.size_toArray, List.length_cons, List.length_nil, h0]; rfl
  have hst := run_storeCells_at Try.prog g off t (Builtin.zeroCells #[.string ⟨#[]⟩, .string ⟨#[]⟩] (m + 1)).toList 0 cur w hb (by rw [hl]; omega) h1
  simp only [Nat.add_zero] at hst
  refine ⟨splice cur off (Builtin.zeroCells #[.string ⟨#[]⟩, .string ⟨#[]⟩] (m + 1)).toList, splice_size _ _ _ (by rw [hl]; omega), fun q hq => splice_out _ _ _ (by rw [hl]; omega) _ (.inl hq), fun ty c => ?_⟩
  simp [Builtin.clear_, run_underlying Try.underlying26, hz, Value.cells, hst, splice]
end Go.Proofs.Ytikpakhccmdmcaa
/- Steps of regions that make and fill variables; structs built of parts. No condition. -/
namespace Go.Proofs.Ytikpakhccmdmcaa
open Go.RowKit
set_option linter.unusedVariables false
set_option linter.unusedSimpArgs false

section
variable {P : Program} {ops : Array Oper} {o : Oper} {a : Act} {w : World} {K : Act → World → Prop} {Q : Exit → Act → World → Prop} {E : Prop}
/-- a new variable: one step of a region -/
theorem stp_alloc {t : TypeId} (z : Array Value) (hz : (P.info? t).map (·.zero) = some (some (.agg z))) (hgd : o.guard = none) (ho : o.op = .alloc t)
    (h : K (a.put o.dst (.pointer (some ⟨w.heap.size, 0, none⟩))) (w.alloc (.cells z t))) : if Region.wanted o (yielded ops a.tmps) = true then Oper.wp P o a w K Q else E := by
  have hw : Region.wanted o (yielded ops a.tmps) = true := by simp [Region.wanted, hgd]
  rw [if_pos hw]
  cases hq : P.info? t with
  | none => simp [hq] at hz
  | some i =>
    have hz' : i.zero = some (.agg z) := by simpa [hq] using hz
    have hrun : (Instr.alloc t true (.tuple #[])).run P w = .ok (.pointer (some ⟨w.heap.size, 0, none⟩)) (w.alloc (.cells z t)) := by
      simp [Instr.alloc, zeroValue, typeInfo, hq, hz', newVar, newRow, Value.cells]
    unfold Oper.wp execOp
    simp only [ho, Sem.run_bind, hrun, Result.andThen_ok, Sem.run_pure]
    exact h
/-- a variable of a struct's type, made full: one step of a region -/
theorem stp_box {t : TypeId} {cs : Array Value} (hgd : o.guard = none) (x : Operand) (ho : o.op = .box t x) (hx : a.eval x = .agg cs)
    (h : K (a.put o.dst (.pointer (some ⟨w.heap.size, 0, none⟩))) (w.alloc (.cells cs t))) : if Region.wanted o (yielded ops a.tmps) = true then Oper.wp P o a w K Q else E := by
  have hw : Region.wanted o (yielded ops a.tmps) = true := by simp [Region.wanted, hgd]
  rw [if_pos hw]
  have hrun : (Instr.box t (.agg cs)).run P w = .ok (.pointer (some ⟨w.heap.size, 0, none⟩)) (w.alloc (.cells cs t)) := by
    simp [Instr.box, newVar, newRow, Value.cells]
  unfold Oper.wp execOp
  simp only [ho, hx, Sem.run_bind, hrun, Result.andThen_ok, Sem.run_pure]
  exact h
/-- a struct is stored: one step of a region -/
theorem stp_storeP {t g e n off : Nat} {cs cur : Array Value} (hb : Blk w g e cur) (ht : Agg P t n) (hs : St n cs) (hl : off + n ≤ cur.size) (hgd : o.guard = none) (x y : Operand) (ho : o.op = .store t x y)
    (hx : a.eval x = .pointer (some ⟨g, off, none⟩)) (hy : a.eval y = .agg cs) (hd : o.dst = none) (h : K a (w.setRow g (splice cur off cs.toList))) :
    if Region.wanted o (yielded ops a.tmps) = true then Oper.wp P o a w K Q else E := by
  have hw : Region.wanted o (yielded ops a.tmps) = true := by simp [Region.wanted, hgd]
  rw [if_pos hw]
  have hsz : cs.toList.length = n := by rw [Array.length_toList, hs.size]
  have hrun := run_storeCells_at P g off e cs.toList 0 cur w hb (by rw [hsz]; simpa using hl) hs.one
  simp only [Nat.add_zero] at hrun
  have ht2 := ht.2
  cases hq : P.info? t with
  | none => simp [hq] at ht2
  | some i =>
    have hs' : i.size = cs.toList.length := by rw [hsz]; simpa [hq] using ht2
    unfold Oper.wp execOp
    simp only [ho, hx, hy, Instr.storeAt, Instr.sureAddr, Sem.run_bind, Sem.run_pure, Result.andThen_ok]
    have hst : (storeVar t ⟨g, off, none⟩ (.agg cs)).run P w = .ok () (w.setRow g (splice cur off cs.toList)) := by
      simp only [storeVar, Sem.run_bind, sizeOf, typeInfo]
      simp only [Array.length_toList] at hs'
      simp [hq, hs', Value.cells, hrun, splice]
    rw [hst]
    simp only [Result.andThen_ok, Sem.run_pure]
    simpa [hd, Act.put, Oper.upon] using h
theorem yields_build {S : World → Prop} {t : TypeId} {parts : Array (Nat × Operand)} {cells : Array Value} (hw : Region.wanted o (yielded ops a.tmps) = true) (ho : o.op = .build t parts)
    (hb : P.built t (parts.toList.map fun p => (p.1, a.eval p.2)) = some cells) : YieldsIf P ops S o (.agg cells) a := Or.inl ⟨hw, fun W hW => by
  replace hb : P.built t (parts.map fun (i, x) => (i, a.eval x)).toList = some cells := by rw [Array.toList_map]; exact hb
  unfold execOp
  simp only [ho, Sem.run_bind, run_build (P := P) W t _ cells hb, Result.andThen_ok, Sem.run_pure]⟩
theorem wpl_buildN {rest : List Oper} {t : TypeId} {parts : Array (Nat × Operand)} {cells : Array Value} (hgd : o.guard = none) (ho : o.op = .build t parts)
    (hb : P.built t (parts.toList.map fun p => (p.1, a.eval p.2)) = some cells) (h : wpList P ops Q rest (a.put o.dst (.agg cells)) w) : wpList P ops Q (o :: rest) a w := by
  replace hb : P.built t (parts.map fun (i, x) => (i, a.eval x)).toList = some cells := by rw [Array.toList_map]; exact hb
  refine wpList_plain hgd fun K hK => ?_
  refine wp_build t parts ho (by rw [hb]; rfl) ?_
  rw [hb]
  exact hK _ _ h
end
theorem fill_at (l : List Value) (n off : Nat) (Z : Array Value) (h : off + n + l.length ≤ Z.size) : ((l.zipIdx n).foldl (fun cs x => cs.setIfInBounds (off + x.2) x.1) Z) = splice Z (off + n) l := by
  induction l generalizing n Z with
  | nil =>
    simp only [List.zipIdx_nil, List.foldl_nil, splice, List.length_nil, Nat.add_zero, List.append_nil, List.take_append_drop, Array.toArray_toList]
  | cons x r ih =>
    simp only [List.length_cons] at h
    simp only [List.zipIdx_cons, List.foldl_cons]
    rw [ih (n + 1) _ (by simp; omega)]
    have e := list_seg_step Z.toList (off + n) x r (by simp; omega)
    unfold splice
    rw [Array.toList_setIfInBounds, List.length_cons]
    rw [show off + (n + 1) = off + n + 1 by omega, e]
theorem fill_one (place : Nat → Option (Nat × Nat)) (Z : Array Value) (i off n : Nat) (v : Value) (rest : List (Nat × Value)) (hp : place i = some (off, n)) (hv : v.cells.size = n) (hl : off + n ≤ Z.size) :
    Instr.fill place Z ((i, v) :: rest) = Instr.fill place (splice Z off v.cells.toList) rest := by
  have hf := fill_at v.cells.toList 0 off Z (by rw [Array.length_toList, hv]; omega)
  have hz : v.cells.zipIdx.foldl (fun cs x => cs.setIfInBounds (off + x.2) x.1) Z = splice Z off v.cells.toList := by
    rw [← Array.foldl_toList, Array.toList_zipIdx]
    simpa using hf
  rw [Instr.fill, hp]
  simp only [hv]
  rw [if_neg (by simp; omega)]
  exact congrArg (fun z => Instr.fill place z rest) hz
def zNd : List Value := List.replicate 64 (Value.int .u8 0) ++ [Value.string ⟨#[]⟩, Value.string ⟨#[]⟩]
theorem fold_fillA (cs Z : Array Value) (n : Nat) (hn : cs.size = n) (h : Z.size = n) : Array.foldl (fun cs x => cs.setIfInBounds x.2 x.1) Z cs.zipIdx 0 n = cs := by
  subst hn
  have e := fold_fill cs.toList Z (by simpa using h)
  rw [← Array.toList_zipIdx, Array.foldl_toList] at e
  simpa using e
/-- a node, built of its parts -/
theorem built_node (x : Nd) (hx : x.ok) : Try.prog.built 60 [(0, .agg (numsA .u8 x.l)), (1, .agg (numsA .u8 x.r)), (2, .agg #[.string x.n, .string x.v])] = some x.enc.toArray := by
  have hb : ∀ parts, Try.prog.built 60 parts = Instr.fill (fun i => #[(0, 32), (32, 32), (64, 2)][i]?) zNd.toArray parts := fun parts => by kernel_rfl
  have hnl : (nums .u8 x.l).length = 32 := by rw [nums_length, hx.1.1]
  have hnr : (nums .u8 x.r).length = 32 := by rw [nums_length, hx.2.1.1]
  have e1 : splice zNd.toArray 0 (nums .u8 x.l) = (nums .u8 x.l ++ zNd.drop 32).toArray := by
    have := splice_next [] zNd (nums .u8 x.l) (o := 0) rfl
    rw [hnl] at this
    simpa using this
  have e2 : splice (nums .u8 x.l ++ zNd.drop 32).toArray 32 (nums .u8 x.r) = (nums .u8 x.l ++ nums .u8 x.r ++ zNd.drop 64).toArray := by
    have := splice_next (nums .u8 x.l) (zNd.drop 32) (nums .u8 x.r) (o := 32) hnl
    rw [hnr, List.drop_drop] at this
    exact this
  have e3 : splice (nums .u8 x.l ++ nums .u8 x.r ++ zNd.drop 64).toArray 64 [.string x.n, .string x.v] = x.enc.toArray := by
    have := splice_next (nums .u8 x.l ++ nums .u8 x.r) (zNd.drop 64) [.string x.n, .string x.v] (o := 64) (by rw [List.length_append, hnl, hnr])
    rw [show (zNd.drop 64).drop ([Value.string x.n, Value.string x.v]).length = [] from rfl, List.append_nil] at this
    exact this
  have c1 : (Value.agg (numsA .u8 x.l)).cells.toList = nums .u8 x.l := rfl
  have c2 : (Value.agg (numsA .u8 x.r)).cells.toList = nums .u8 x.r := rfl
  have c3 : (Value.agg #[.string x.n, .string x.v]).cells.toList = [.string x.n, .string x.v] := rfl
  have z1 : zNd.length = 66 := rfl
  rw [hb, fill_one _ _ 0 0 32 _ _ rfl (by rw [← Array.length_toList, c1, hnl]) (by rw [List.size_toArray, z1]; decide), c1, e1,
    fill_one _ _ 1 32 32 _ _ rfl (by rw [← Array.length_toList, c2, hnr]) (by rw [List.size_toArray, List.length_append, hnl]; decide), c2, e2,
    fill_one _ _ 2 64 2 _ _ rfl rfl (by rw [List.size_toArray, List.length_append, List.length_append, hnl, hnr]; decide), c3, e3, Instr.fill]
/-- a number and a whole array in a variable are the results -/
theorem results_tb {P : Program} {w : World} {fn : Func} {c d : Tmp} {t g e n : Nat} {cs : Array Value} (hr : fn.results = #[.tmp d, .cell c t]) (tmps : Array Value) (hp : tmps.getD c undef = .pointer (some ⟨g, 0, none⟩)) (ht : Agg P t n) (hn : cs.size = n) (hb : Blk w g e cs) {v : Value} (hv : tmps.getD d undef = v) :
    (results fn tmps).run P w = .ok (.tuple #[v, .agg cs]) w := by
  have hl := run_loadB (P := P) hb ht hn
  have hp' : tmps[c]?.getD undef = .pointer (some ⟨g, 0, none⟩) := by simpa using hp
  have hv' : tmps[d]?.getD undef = v := by simpa using hv
  simp [results, hr, hp', hv', asAddr, hl]
theorem rowNd : Row Try.prog tNd 30 60 96 := Row.mk' Try.underlying30 (.agg zNd.toArray) (by kernel_rfl) rfl (by decide) (by decide)
theorem rd_nd {w : World} {S : Nat → Prop} {A : Option Addr} {c n : Nat} {xs : List Nd} (h : RdL tNd w S (.slice A n c) xs) : Rd w S tNd.sz A xs.length (xs.flatMap tNd.enc) := by
  obtain ⟨A', cap, e, h1, h2, h3, h4⟩ := h
  injection e with e1 e2 e3
  subst e1
  exact h3
theorem ok_nd {w : World} {S : Nat → Prop} {v : Value} {xs : List Nd} (h : RdL tNd w S v xs) : ∀ y ∈ xs, tNd.ok y := by
  obtain ⟨A', cap, e, h1, h2, h3, h4⟩ := h
  exact h4
end Go.Proofs.Ytikpakhccmdmcaa
/- The place of the greatest priority: the reference. No condition. -/
namespace Go.Proofs.Ytikpakhccmdmcaa
open Go.RowKit
set_option linter.unusedVariables false
set_option linter.unusedSimpArgs false

set_option maxHeartbeats 1000000 in
set_option maxRecDepth 100000 in
theorem l04Top_any (v : Value) (L : List En) (h0 : 0 < L.length) (hg : good L) (w : World) (S : Nat → Prop) (h : RdL tEnt w S v L) :
    Calls Try.prog 86 #[v] w fun e w' => e = .returned (.int .i64 (topE L)) ∧ Ext w w' := by
  obtain ⟨A, cap, rfl, hcap, hlen, hrd, hok⟩ := h
  have Hrd := Lib.hid hrd
  have Hok := Lib.hid hok
  have HG := Lib.hid hg
  clear hrd hok hg
  have hsz : ∀ k (hk : k < L.length), L[k].1.size ≤ 1048576 := fun k hk => by have := entB_le (HG.out _ (List.getElem_mem hk)).2; omega
  have HSZ := Lib.hid hsz
  obtain ⟨g, o, rfl, hs0, hc⟩ := Hrd.out.elem Hok.out 0 h0
  have d0 : w.cell? ⟨g, o, none⟩ = some (.string L[0].1) := by have := hc 0 _ rfl; simpa using this
  have i0 : (0 : Int) < (L.length : Int) := by omega
  have hT := topE
  have HTE := Lib.hid (show topE L = topI (prios L) L.length from rfl)
  have HT1 := Lib.hid (topI_one (prios L))
  have HP0 := Lib.hid (prios_at L 0 h0)
  clear hc hsz hT
  go_enter Try.func86, Try.ntmps86
  go_wp2_with fail
  refine (l04Priority_any L[0].1 (HSZ.out 0 h0) _).mono ?_
  rintro e w1 ⟨rfl, hx⟩
  have HX1 := Lib.hid hx
  have HK := Lib.hid (fun k => (prioL_ok k).1)
  clear hx d0
  go_wp2_with (refine wpl_storeNew aggKey (HK.out _) rfl rfl _ _ rfl rfl rfl rfl ?_)
  go_loopw [3, 5] (fun b i wr => ∃ k : Nat, 1 ≤ k ∧ k ≤ L.length ∧ i = .int .i64 k ∧ b = .int .i64 (topI (prios L) k) ∧ Blk wr w1.heap.size 45 (numsA .u8 (gK (prios L) (topI (prios L) k))) ∧ Ext w wr) (fun _ i _ => L.length - (intOf i).toNat)
  case atStart => exact ⟨1, Nat.le_refl _, h0, rfl, by rw [HT1.out]; rfl, by rw [HT1.out, HP0.out]; exact Blk.new w1 _ _, HX1.out.alloc _⟩
  case round =>
    obtain ⟨k, hk1, hk, rfl, rfl, hB, hx⟩ := hrel
    have HX := Lib.hid hx
    have HB := Lib.hid hB
    have HTL := Lib.hid (topI_lt (prios L) k (by omega))
    have HSC := Lib.hid (topI_succ (prios L) k)
    clear hx hB
    obtain ⟨t, ht⟩ : ∃ t, topI (prios L) k = t := ⟨_, rfl⟩
    rw [ht] at HB HTL HSC ⊢
    have HT := Lib.hid ht
    clear ht
    by_cases hlt : k < L.length
    · obtain ⟨g2, o2, e2, hs2, hc⟩ := Hrd.out.elem Hok.out k hlt
      injection e2 with e2
      injection e2 with e3 e4
      subst e3 e4
      have d0 : wr.cell? ⟨g, o + k * 2, none⟩ = some (.string L[k].1) := HX.out.cell (hc 0 _ rfl)
      have HPK := Lib.hid (prios_at L k hlt)
      have HKT := Lib.hid (show K32 (gK (prios L) t) by rw [gK_lt (by rw [prios_length]; have := HTL.out; omega)]; exact prios_ok L _ (List.getElem_mem _))
      have hi : (0 : Int) ≤ (k : Int) := by omega
      have hi2 : (k : Int) < (L.length : Int) := by omega
      clear hc
      go_wp2_with fail
      refine (l04Priority_any L[k].1 (HSZ.out k hlt) _).mono ?_
      rintro e w2 ⟨rfl, hx⟩
      have HX2 := Lib.hid (HX.out.trans hx)
      have HB2 := Lib.hid (HB.out.ext hx)
      clear hx d0 HX HB
      go_wp2_with (first
        | (refine wpl_storeNew aggKey (HK.out _) rfl rfl _ _ rfl rfl rfl rfl ?_)
        | (refine wpl_loadN (Blk.new w2 45 (numsA .u8 (prioL L[k].1))) aggKey (HK.out _) rfl _ rfl rfl ?_)
        | (refine wpl_loadN (HB2.out.alloc _) aggKey HKT.out.1 rfl _ rfl rfl ?_))
      refine (l01Compare_any (prioL L[k].1) (gK (prios L) t) (prioL_ok _) HKT.out _).mono ?_
      rintro e w3 ⟨rfl, hx⟩
      have HB3 := Lib.hid ((HB2.out.alloc (.cells (numsA .u8 (prioL L[k].1)) 45)).ext hx)
      have HN3 := Lib.hid ((Blk.new w2 45 (numsA .u8 (prioL L[k].1))).ext hx)
      have HX3 := Lib.hid ((HX2.out.alloc _).trans hx)
      clear hx
      by_cases hc : 0 < cmpL (prioL L[k].1) (gK (prios L) t)
      · have HC := Lib.hid (show topI (prios L) (k + 1) = k by rw [HSC.out, HPK.out, if_pos hc])
        go_wp2_with (first
          | (refine wpl_loadN HN3.out aggKey (HK.out _) rfl _ rfl rfl ?_)
          | (refine wpl_storeN HB3.out aggKey (HK.out _) (by rw [numsA_size, HKT.out.1]) rfl _ _ rfl rfl rfl rfl ?_))
        go_roundw
        case rel => exact ⟨k + 1, by omega, by omega, by go_num, by rw [HC.out], by rw [HC.out, HPK.out]; exact HB3.out.setRow _, HX3.out.setRow HX1.out.size _⟩
        case measure => simp [intOf]; omega
      · have HC := Lib.hid (show topI (prios L) (k + 1) = t by rw [HSC.out, HPK.out, if_neg hc])
        go_wp2
        go_roundw
        case rel => exact ⟨k + 1, by omega, by omega, by go_num, by rw [HC.out], by rw [HC.out]; exact HB3.out, HX3.out⟩
        case measure => simp [intOf]; omega
    · obtain rfl : k = L.length := by omega
      go_wp2
      go_ret
      exact ⟨by rw [HTE.out, HT.out]; rfl, HX.out⟩
end Go.Proofs.Ytikpakhccmdmcaa
/- The nodes of a map and its key: the reference. No condition. -/
namespace Go.Proofs.Ytikpakhccmdmcaa
open Go.RowKit
set_option linter.unusedVariables false
set_option linter.unusedSimpArgs false

def NodesC (f : Nat) : Prop := ∀ (v : Value) (L : List En), L.length ≤ f → L.length ≤ 64 → good L → ∀ (w : World) (S : Nat → Prop), RdL tEnt w S v L →
    Calls Try.prog 50 #[v] w fun e w' => ∃ v', e = .returned (.tuple #[v', .agg (numsA .u8 (trF f L).key)]) ∧ Own tNd 60 w' w.heap.size v' (trF f L).all ∧ Ext w w'
set_option maxHeartbeats 1000000 in
set_option maxRecDepth 100000 in
theorem nodes_nil (f : Nat) (v : Value) (L : List En) (h0 : L.length = 0) (w : World) (S : Nat → Prop) (h : RdL tEnt w S v L) :
    Calls Try.prog 50 #[v] w fun e w' => ∃ v', e = .returned (.tuple #[v', .agg (numsA .u8 (trF f L).key)]) ∧ Own tNd 60 w' w.heap.size v' (trF f L).all ∧ Ext w w' := by
  rw [trF_nil _ _ h0]
  obtain ⟨A, cap, rfl, hcap, hlen, _⟩ := h
  rw [h0]
  have hk := emptyL_ok.1
  clear h0 hcap hlen
  show Calls Try.prog 50 #[.slice A 0 cap] w fun e w' => ∃ v', e = .returned (.tuple #[v', .agg (numsA .u8 emptyL)]) ∧ Own tNd 60 w' w.heap.size v' [] ∧ Ext w w'
  go_enter Try.func50, Try.ntmps50
  go_wp2_with fail
  refine (l04Empty_any _).mono ?_
  rintro e w1 ⟨rfl, hx⟩
  have B3 := Lib.hid (((Blk.new w 45 _).alloc _).ext hx)
  have OE := Lib.hid ((Own.empty' tNd (g := w.heap.size + 1) (w := w.alloc _) (by simp) 60 w.heap.size (by simp)).ext hx)
  have XW := Lib.hid (((ext_alloc w _).alloc _).trans hx)
  clear hx
  go_wp2_with (refine wpl_storeN B3.out aggKey hk rfl rfl _ _ rfl rfl rfl rfl ?_)
  refine bodyPost_ret (results_tb rfl _ rfl aggKey (sizeN hk) (B3.out.setRow _) rfl) rfl ?_
  exact ⟨_, rfl, OE.out.kept (grown_row (grown_refl _ _) _) (.inr (fun e => absurd (Option.some.inj e) (by show ¬ (w.heap.size + 1 = w.heap.size); omega))), XW.out.setRow (Nat.le_refl _) _⟩
set_option maxHeartbeats 1000000 in
set_option maxRecDepth 100000 in
theorem nodes_cons1 (f : Nat) (ih : NodesC f) (A : Option Addr) (cap : Nat) (L : List En) (h0 : ¬ L.length = 0) (hf : L.length ≤ f + 1) (h64 : L.length ≤ 64) (hg : good L) (hcase : cap = topE L + 1) (w : World) (S : Nat → Prop) (h : RdL tEnt w S (.slice A L.length cap) L) :
    Calls Try.prog 50 #[.slice A L.length cap] w fun e w' => ∃ v', e = .returned (.tuple #[v', .agg (numsA .u8 (trF (f + 1) L).key)]) ∧ Own tNd 60 w' w.heap.size v' (trF (f + 1) L).all ∧ Ext w w' := by
  have hlt := topE_lt (L := L) (by omega)
  have hND := trF_ok (f + 1) L hg
  have hLL := trF_len f (L.take (topE L))
  have hLR := trF_len f (L.drop (topE L + 1))
  have htop := fun W hW => l04Top_any (.slice A L.length cap) L (by omega) hg W S hW
  rw [trF_cons _ _ h0] at hND ⊢
  obtain ⟨k, hk⟩ : ∃ k, topE L = k := ⟨_, rfl⟩
  simp only [hk] at hlt hND hLL hLR htop hcase ⊢
  rw [gE_lt hlt] at hND ⊢
  subst hcase
  have H := Lib.hid h
  obtain ⟨A', cap', e', hcap, hlen, hrd, hok⟩ := h
  injection e' with e1 _ e3
  subst e1 e3
  obtain ⟨g, o, rfl, hs0, hc⟩ := hrd.elem hok k hlt
  have ihl := fun W hW => ih _ (L.take k) (by rw [List.length_take]; omega) (by rw [List.length_take]; omega) (hg.take k) W S (RdL.head (k := k) (show RdL tEnt W S (.slice (some ⟨g, o, none⟩) L.length (k + 1)) L from hW) (by omega))
  have ihr := fun W hW => ih _ (L.drop (k + 1)) (by rw [List.length_drop]; omega) (by rw [List.length_drop]; omega) (hg.drop (k + 1)) W S (RdL.cut (k := k + 1) (show RdL tEnt W S (.slice (some ⟨g, o, none⟩) L.length (k + 1)) L from hW) (by omega))
  simp only [Option.map_some, Addr.add_lit, show tEnt.sz = 2 from rfl, eq_self, if_true, Nat.sub_self] at ihr
  obtain ⟨TL, hTL⟩ : ∃ T, trF f (L.take k) = T := ⟨_, rfl⟩
  obtain ⟨TR, hTR⟩ : ∃ T, trF f (L.drop (k + 1)) = T := ⟨_, rfl⟩
  simp only [hTL] at ihl hLL hND ⊢
  simp only [hTR] at ihr hLR hND ⊢
  rw [List.length_take] at hLL
  rw [List.length_drop] at hLR
  have HND := Lib.hid hND.1
  have HEB := Lib.hid hND.2.1
  have KL := Lib.hid TL.key_ok.1
  have KR := Lib.hid TR.key_ok.1
  have hc0 : ∀ W, Ext w W → ∀ j u, ([Value.string L[k].1, .string L[k].2] : List Value)[j]? = some u → W.cell? ⟨g, o + k * 2 + j, none⟩ = some u := fun W hW j u hu => hW.cell (hc j u hu)
  have HC := Lib.hid hc0
  have hi : (0 : Int) ≤ (k : Int) := by omega
  have hi2 : (k : Int) ≤ (L.length : Int) := by omega
  have hi3 : (k : Int) < (L.length : Int) := by omega
  have hi4 : (k : Int) + 1 ≤ (L.length : Int) := by omega
  have hi5 : (0 : Int) ≤ (k : Int) + 1 := by omega
  have hi6 : (k : Int) ≤ ((k + 1 : Nat) : Int) := by omega
  have hi7 : ((L.length : Int) == 0) = false := by rw [beq_eq_false_iff_ne]; omega
  have hi8 : (L.length : Int) ≤ ((k + 1 : Nat) : Int) := by omega
  have hi9 : (k : Int) + 1 ≤ ((k + 1 : Nat) : Int) := by omega
  have HLL := Lib.hid hLL
  have HLR := Lib.hid hLR
  have HCAP := Lib.hid hcap
  clear hc hrd hok hTL hTR hk hND hc0 hLL hLR hcap
  show Calls Try.prog 50 #[.slice (some ⟨g, o, none⟩) L.length (k + 1)] w fun e w' => ∃ v', e = .returned (.tuple #[v', .agg (numsA .u8 (hashL 5 (nodeL ⟨TL.key, TR.key, L[k].1, L[k].2⟩)))]) ∧ Own tNd 60 w' w.heap.size v' (⟨TL.key, TR.key, L[k].1, L[k].2⟩ :: (TL.all ++ TR.all)) ∧ Ext w w'
  go_enter Try.func50, Try.ntmps50
  go_wp2_with fail
  refine (htop _ (H.out.ext (by decide) (ext_alloc _ _))).mono ?_
  rintro e w1 ⟨rfl, hx⟩
  have B3 := Lib.hid ((Blk.new w 45 _).ext hx)
  have XW := Lib.hid ((ext_alloc w _).trans hx)
  have HN := Lib.hid (show w.heap.size + 1 ≤ w1.heap.size by have := hx.size; simpa using this)
  clear hx htop
  go_wp2_with fail
  refine (ihl _ (H.out.ext (by decide) XW.out)).mono ?_
  rintro e w2 ⟨vl, rfl, ho, hx⟩
  replace B3 := Lib.hid (B3.out.ext hx)
  replace XW := Lib.hid (XW.out.trans hx)
  have HN2 := Lib.hid (show w.heap.size + 1 ≤ w2.heap.size by have := hx.size; have := HN.out; omega)
  obtain ⟨AL, cl, rfl⟩ := ho.shape
  have OL := Lib.hid ho.rd
  clear ho hx ihl
  go_wp2_with (refine wpl_storeNew aggKey KL.out rfl rfl _ _ rfl rfl rfl rfl ?_)
  refine (ihr _ (H.out.ext (by decide) (XW.out.alloc _))).mono ?_
  rintro e w3 ⟨vr, rfl, ho, hx⟩
  replace B3 := Lib.hid ((B3.out.alloc _).ext hx)
  replace XW := Lib.hid ((XW.out.alloc _).trans hx)
  have B6 := Lib.hid (((Blk.new w2 45 (numsA .u8 TL.key)).ext hx).alloc (.cells (numsA .u8 TR.key) 45))
  replace OL := Lib.hid ((OL.out.ext (by decide) (ext_alloc _ _)).ext (by decide) hx)
  obtain ⟨AR, cr, rfl⟩ := ho.shape
  have OR := Lib.hid ho.rd
  replace HN2 := Lib.hid (show w.heap.size + 1 ≤ w3.heap.size by have := hx.size; have := HN2.out; simp only [size_alloc] at *; omega)
  clear ho hx ihr
  have B8 := Lib.hid (Blk.new w3 45 (numsA .u8 TR.key))
  have HD := Lib.hid (HC.out _ (XW.out.alloc (.cells (numsA .u8 TR.key) 45)))
  go_wp2_with (refine wpl_storeNew aggKey KR.out rfl rfl _ _ rfl rfl rfl rfl ?_)
  refine wp_region_held_drew (S := fun W => Ext (w3.alloc (.cells (numsA .u8 TR.key) 45)) W) (by kernel_rfl) (Ext.refl _).drew (fun hHeld => ?_)
  refine wpAnyH_take (i := 0) (oi := ?oiz1) (v := (.agg (numsA .u8 TL.key))) ?hiz1 (by kernel_rfl) (by kernel_rfl) (by kernel_rfl) ?hQz1 ?hyz1 (by assumption) ?restz1
  case hiz1 => simp only [List.getElem?_toArray, List.getElem?_cons_zero, List.getElem?_cons_succ]; rfl
  case hQz1 => exact fun _ _ _ h => h
  case hyz1 => refine yields_loadB B6.out aggKey (sizeN KL.out) ?_ _ rfl rfl; rfl
  try simp only [Act.put, List.setIfInBounds_toArray, List.set_cons_zero, List.set_cons_succ]
  refine wpAnyH_take (i := 1) (oi := ?oiz2) (v := (.agg (numsA .u8 TR.key))) ?hiz2 (by kernel_rfl) (by kernel_rfl) (by kernel_rfl) ?hQz2 ?hyz2 (by assumption) ?restz2
  case hiz2 => simp only [List.getElem?_toArray, List.getElem?_cons_zero, List.getElem?_cons_succ]; rfl
  case hQz2 => exact fun _ _ _ h => h
  case hyz2 => refine yields_loadB B8.out aggKey (sizeN KR.out) ?_ _ rfl rfl; rfl
  try simp only [Act.put, List.setIfInBounds_toArray, List.set_cons_zero, List.set_cons_succ]
  refine wpAnyH_take (i := 2) (oi := ?oiz3) (v := ?vz3) ?hiz3 (by kernel_rfl) (by kernel_rfl) (by kernel_rfl) ?hQz3 ?hyz3 (by assumption) ?restz3
  case hiz3 => simp only [List.getElem?_toArray, List.getElem?_cons_zero, List.getElem?_cons_succ]; rfl
  case hQz3 => exact fun _ _ _ h => h
  case hyz3 => exact Or.inl ⟨by rfl, by intro w hSw; (try dsimp only at hSw); go_simp; with_reducible rfl⟩
  try simp only [Act.put, List.setIfInBounds_toArray, List.set_cons_zero, List.set_cons_succ]
  refine wpAnyH_take (i := 3) (oi := ?oiz4) (v := ?vz4) ?hiz4 (by kernel_rfl) (by kernel_rfl) (by kernel_rfl) ?hQz4 ?hyz4 (by assumption) ?restz4
  case hiz4 => simp only [List.getElem?_toArray, List.getElem?_cons_zero, List.getElem?_cons_succ]; rfl
  case hQz4 => exact fun _ _ _ h => h
  case hyz4 => exact Or.inl ⟨by rfl, by intro w hSw; (try dsimp only at hSw); go_simp; with_reducible rfl⟩
  try simp only [Act.put, List.setIfInBounds_toArray, List.set_cons_zero, List.set_cons_succ]
  refine wpAnyH_take (i := 4) (oi := ?oiz5) (v := ?vz5) ?hiz5 (by kernel_rfl) (by kernel_rfl) (by kernel_rfl) ?hQz5 ?hyz5 (by assumption) ?restz5
  case hiz5 => simp only [List.getElem?_toArray, List.getElem?_cons_zero, List.getElem?_cons_succ]; rfl
  case hQz5 => exact fun _ _ _ h => h
  case hyz5 => exact Or.inl ⟨by rfl, by intro w hSw; (try dsimp only at hSw); go_simp; with_reducible rfl⟩
  try simp only [Act.put, List.setIfInBounds_toArray, List.set_cons_zero, List.set_cons_succ]
  refine wpAnyH_take (i := 5) (oi := ?oiz6) (v := (.agg #[.string L[k].1, .string L[k].2])) ?hiz6 (by kernel_rfl) (by kernel_rfl) (by kernel_rfl) ?hQz6 ?hyz6 (by assumption) ?restz6
  case hiz6 => simp only [List.getElem?_toArray, List.getElem?_cons_zero, List.getElem?_cons_succ]; rfl
  case hQz6 => exact fun _ _ _ h => h
  case hyz6 => refine yields_loadR g (o + k * 2) [.string L[k].1, .string L[k].2] aggEntryI HD.out ?_ _ rfl rfl; rfl
  try simp only [Act.put, List.setIfInBounds_toArray, List.set_cons_zero, List.set_cons_succ]
  refine wpAnyH_take (i := 6) (oi := ?oiz7) (v := (.agg (Nd.enc ⟨TL.key, TR.key, L[k].1, L[k].2⟩).toArray)) ?hiz7 (by kernel_rfl) (by kernel_rfl) (by kernel_rfl) ?hQz7 ?hyz7 (by assumption) ?restz7
  case hiz7 => simp only [List.getElem?_toArray, List.getElem?_cons_zero, List.getElem?_cons_succ]; rfl
  case hQz7 => exact fun _ _ _ h => h
  case hyz7 => refine yields_build ?_ rfl (built_node ⟨TL.key, TR.key, L[k].1, L[k].2⟩ HND.out); rfl
  try simp only [Act.put, List.setIfInBounds_toArray, List.set_cons_zero, List.set_cons_succ]
  have hs9 := hHeld.size
  have HX9 := Lib.hid hHeld
  generalize hw9 : (w3.alloc (.cells (numsA .u8 TR.key) 45)).drew = w9 at hHeld HX9 hs9 ⊢
  clear hw9
  refine wpAnyH_ready (rs := [7]) (by kernel_rfl) (by simp) (AllReadyH.cons (o := ?oy87) ?hy87 (fun K hK => ?sy87) AllReadyH.nil)
  case hy87 => simp only [List.getElem?_toArray, List.getElem?_cons_zero, List.getElem?_cons_succ]; rfl
  refine stp_alloc zNd.toArray (by kernel_rfl) rfl rfl ?_
  have hH2 := hHeld.alloc (.cells zNd.toArray 60)
  refine hK.out _ _ hH2 (fun _ => ?_)
  clear hK K hH2
  try simp only [Act.put, List.setIfInBounds_toArray, List.set_cons_zero, List.set_cons_succ]
  refine wpAnyH_ready (rs := [8]) (by kernel_rfl) (by simp) (AllReadyH.cons (o := ?oy98) ?hy98 (fun K hK => ?sy98) AllReadyH.nil)
  case hy98 => simp only [List.getElem?_toArray, List.getElem?_cons_zero, List.getElem?_cons_succ]; rfl
  refine stp_storeP (Blk.new w9 60 _) aggNodeI (Nd.st HND.out) (by simp [zNd]) rfl _ _ rfl rfl rfl rfl ?_
  have hH3 := hHeld.alloc (.cells (Nd.enc ⟨TL.key, TR.key, L[k].1, L[k].2⟩).toArray 60)
  rw [splice_all _ _ (by rw [Array.length_toList, (Nd.st HND.out).size]; rfl), setRow_alloc, Array.toArray_toList]
  refine hK.out _ _ hH3 (fun _ => ?_)
  clear hK K hH3 hHeld
  try simp only [Act.put, List.setIfInBounds_toArray, List.set_cons_zero, List.set_cons_succ]
  refine wpAnyH_done (by kernel_rfl) ?_ _
  have HW9 := Lib.hid ((XW.out.alloc (.cells (numsA .u8 TR.key) 45)).trans HX9.out)
  have HN9 := Lib.hid (show w.heap.size + 1 ≤ w9.heap.size by have := hs9; have := HN2.out; simp only [size_alloc] at *; omega)
  have B3x := Lib.hid ((B3.out.alloc (.cells (numsA .u8 TR.key) 45)).ext HX9.out)
  have OLx := Lib.hid ((OL.out.ext (by decide) (ext_alloc _ (.cells (numsA .u8 TR.key) 45))).ext (by decide) HX9.out)
  have ORx := Lib.hid ((OR.out.ext (by decide) (ext_alloc _ (.cells (numsA .u8 TR.key) 45))).ext (by decide) HX9.out)
  clear hs9 HX9 B3 B6 B8 OL OR XW HN2
  obtain ⟨x, hx0⟩ : ∃ x : Nd, x = ⟨TL.key, TR.key, L[k].1, L[k].2⟩ := ⟨_, rfl⟩
  have HXO := Lib.hid (show x.ok by rw [hx0]; exact HND.out)
  have HXE := Lib.hid (show entB x.n x.v = true by rw [hx0]; exact HEB.out)
  simp only [← hx0, Array.toArray_toList]
  have HXX := Lib.hid hx0
  clear hx0 HND HEB
  obtain ⟨wa, hwa⟩ : ∃ wa, w9.alloc (.cells x.enc.toArray 60) = wa := ⟨_, rfl⟩
  have HA := Lib.hid (show Ext w9 wa by rw [← hwa]; exact ext_alloc _ _)
  have HNA := Lib.hid (show Blk wa w9.heap.size 60 x.enc.toArray by rw [← hwa]; exact Blk.new w9 _ _)
  have HSA := Lib.hid (show wa.heap.size = w9.heap.size + 1 by rw [← hwa]; simp)
  rw [hwa]
  clear hwa
  have OL2 := Lib.hid ((OLx.out.ext (by decide) HA.out).ext (by decide) (ext_alloc wa (.cells x.enc.toArray 60)))
  have hsz := (Nd.st HXO.out).size
  have henc := Nd.enc_length HXO.out
  have OS := Lib.hid (Own.of_blk tNd (w := wa.alloc (.cells x.enc.toArray 60)) (base := wa.heap.size) (xs := [x]) (by rw [show [x].flatMap tNd.enc = x.enc from by rw [List.flatMap_cons, List.flatMap_nil, List.append_nil]; rfl]; exact Blk.new wa 60 x.enc.toArray) (Nat.le_refl _) (by simp) (by intro y hy; obtain rfl := List.mem_singleton.1 hy; exact HXO.out))
  go_wp2_with (first
    | (refine wpl_loadB HNA.out aggNodeI hsz rfl _ rfl rfl ?_)
    | (at_builtin; rw [fold_fill x.enc _ (by rw [henc]; rfl)]; refine wpl_append rowNd rfl _ _ rfl (v := .slice (some ⟨wa.heap.size, 0, none⟩) 1 1) rfl OS.out _ _ rfl (ys := TL.all) rfl (rd_nd OL2.out) (ok_nd OL2.out) (by have := HLL.out; simp only [List.length_singleton]; omega) (by simp) ?_; intro v5 w5 ho1 hg1 hat1; have HX5 := Lib.hid (OS.out.ext_app (ext_alloc wa _) hg1); obtain ⟨B5, n5, c5, rfl⟩ := ho1.shape3; have HO5 := Lib.hid ho1; clear ho1 hg1 hat1)
    | (at_builtin; refine wpl_append rowNd rfl _ _ rfl (v := .slice B5 n5 c5) rfl HO5.out _ _ rfl (ys := TR.all) rfl (rd_nd ((ORx.out.ext (by decide) HA.out).ext (by decide) HX5.out)) (ok_nd ORx.out) (by have := HLL.out; have := HLR.out; simp only [List.length_append, List.length_singleton]; omega) HX5.out.size ?_; intro v6 w6 ho1 hg1 hat1; have HX6 := Lib.hid (HO5.out.ext_app HX5.out hg1); have HO6 := Lib.hid ho1; clear ho1 hg1 hat1))
  refine (l04NodeKey_any x HXO.out HXE.out w9.heap.size _ (HNA.out.ext HX6.out)).mono ?_
  rintro e w7 ⟨rfl, hx⟩
  have HO7 := Lib.hid (HO6.out.ext hx)
  have B3y := Lib.hid (((B3x.out.ext HA.out).ext HX6.out).ext hx)
  have HX7 := Lib.hid (((HW9.out.trans HA.out).trans HX6.out).trans hx)
  have hkx := (hashL_ok 5 (nodeL x)).1
  have HLT := Lib.hid (show w.heap.size < wa.heap.size by have := HSA.out; have := HN9.out; omega)
  clear hx HO6
  go_wp2_with (refine wpl_storeN B3y.out aggKey hkx rfl rfl _ _ rfl rfl rfl rfl ?_)
  refine bodyPost_ret (results_tb rfl _ rfl aggKey (sizeN hkx) (B3y.out.setRow _) rfl) rfl ?_
  have ho8 := HO7.out
  rw [show [x] ++ TL.all ++ TR.all = x :: (TL.all ++ TR.all) by simp] at ho8
  rw [← HXX.out]
  refine ⟨_, rfl, ?_, HX7.out.setRow (Nat.le_refl _) _⟩
  exact (ho8.kept (grown_row (g := w.heap.size) (grown_refl _ _) _) (.inr (fun e => by have := (ho8.base_le _ e).1; have := HLT.out; omega))).le (Nat.le_of_lt HLT.out)
set_option maxHeartbeats 1000000 in
set_option maxRecDepth 100000 in
theorem nodes_cons2 (f : Nat) (ih : NodesC f) (A : Option Addr) (cap : Nat) (L : List En) (h0 : ¬ L.length = 0) (hf : L.length ≤ f + 1) (h64 : L.length ≤ 64) (hg : good L) (hcase : ¬ cap = topE L + 1) (w : World) (S : Nat → Prop) (h : RdL tEnt w S (.slice A L.length cap) L) :
    Calls Try.prog 50 #[.slice A L.length cap] w fun e w' => ∃ v', e = .returned (.tuple #[v', .agg (numsA .u8 (trF (f + 1) L).key)]) ∧ Own tNd 60 w' w.heap.size v' (trF (f + 1) L).all ∧ Ext w w' := by
  have hlt := topE_lt (L := L) (by omega)
  have hND := trF_ok (f + 1) L hg
  have hLL := trF_len f (L.take (topE L))
  have hLR := trF_len f (L.drop (topE L + 1))
  have htop := fun W hW => l04Top_any (.slice A L.length cap) L (by omega) hg W S hW
  rw [trF_cons _ _ h0] at hND ⊢
  obtain ⟨k, hk⟩ : ∃ k, topE L = k := ⟨_, rfl⟩
  simp only [hk] at hlt hND hLL hLR htop hcase ⊢
  rw [gE_lt hlt] at hND ⊢

  have H := Lib.hid h
  obtain ⟨A', cap', e', hcap, hlen, hrd, hok⟩ := h
  injection e' with e1 _ e3
  subst e1 e3
  obtain ⟨g, o, rfl, hs0, hc⟩ := hrd.elem hok k hlt
  have ihl := fun W hW => ih _ (L.take k) (by rw [List.length_take]; omega) (by rw [List.length_take]; omega) (hg.take k) W S (RdL.head (k := k) (show RdL tEnt W S (.slice (some ⟨g, o, none⟩) L.length cap) L from hW) (by omega))
  have ihr := fun W hW => ih _ (L.drop (k + 1)) (by rw [List.length_drop]; omega) (by rw [List.length_drop]; omega) (hg.drop (k + 1)) W S (RdL.cut (k := k + 1) (show RdL tEnt W S (.slice (some ⟨g, o, none⟩) L.length cap) L from hW) (by omega))
  simp only [Option.map_some, Addr.add_lit, show tEnt.sz = 2 from rfl, if_neg hcase] at ihr
  obtain ⟨TL, hTL⟩ : ∃ T, trF f (L.take k) = T := ⟨_, rfl⟩
  obtain ⟨TR, hTR⟩ : ∃ T, trF f (L.drop (k + 1)) = T := ⟨_, rfl⟩
  simp only [hTL] at ihl hLL hND ⊢
  simp only [hTR] at ihr hLR hND ⊢
  rw [List.length_take] at hLL
  rw [List.length_drop] at hLR
  have HND := Lib.hid hND.1
  have HEB := Lib.hid hND.2.1
  have KL := Lib.hid TL.key_ok.1
  have KR := Lib.hid TR.key_ok.1
  have hc0 : ∀ W, Ext w W → ∀ j u, ([Value.string L[k].1, .string L[k].2] : List Value)[j]? = some u → W.cell? ⟨g, o + k * 2 + j, none⟩ = some u := fun W hW j u hu => hW.cell (hc j u hu)
  have HC := Lib.hid hc0
  have hi : (0 : Int) ≤ (k : Int) := by omega
  have hi2 : (k : Int) ≤ (L.length : Int) := by omega
  have hi3 : (k : Int) < (L.length : Int) := by omega
  have hi4 : (k : Int) + 1 ≤ (L.length : Int) := by omega
  have hi5 : (0 : Int) ≤ (k : Int) + 1 := by omega
  have hi6 : (k : Int) ≤ (cap : Int) := by omega
  have hi7 : ((L.length : Int) == 0) = false := by rw [beq_eq_false_iff_ne]; omega
  have hi8 : (L.length : Int) ≤ (cap : Int) := by omega
  have hi9 : (k : Int) + 1 ≤ (cap : Int) := by omega
  have HLL := Lib.hid hLL
  have HLR := Lib.hid hLR
  have HCAP := Lib.hid hcap
  clear hc hrd hok hTL hTR hk hND hc0 hLL hLR hcap
  show Calls Try.prog 50 #[.slice (some ⟨g, o, none⟩) L.length cap] w fun e w' => ∃ v', e = .returned (.tuple #[v', .agg (numsA .u8 (hashL 5 (nodeL ⟨TL.key, TR.key, L[k].1, L[k].2⟩)))]) ∧ Own tNd 60 w' w.heap.size v' (⟨TL.key, TR.key, L[k].1, L[k].2⟩ :: (TL.all ++ TR.all)) ∧ Ext w w'
  go_enter Try.func50, Try.ntmps50
  go_wp2_with fail
  refine (htop _ (H.out.ext (by decide) (ext_alloc _ _))).mono ?_
  rintro e w1 ⟨rfl, hx⟩
  have B3 := Lib.hid ((Blk.new w 45 _).ext hx)
  have XW := Lib.hid ((ext_alloc w _).trans hx)
  have HN := Lib.hid (show w.heap.size + 1 ≤ w1.heap.size by have := hx.size; simpa using this)
  clear hx htop
  go_wp2_with fail
  refine (ihl _ (H.out.ext (by decide) XW.out)).mono ?_
  rintro e w2 ⟨vl, rfl, ho, hx⟩
  replace B3 := Lib.hid (B3.out.ext hx)
  replace XW := Lib.hid (XW.out.trans hx)
  have HN2 := Lib.hid (show w.heap.size + 1 ≤ w2.heap.size by have := hx.size; have := HN.out; omega)
  obtain ⟨AL, cl, rfl⟩ := ho.shape
  have OL := Lib.hid ho.rd
  clear ho hx ihl
  go_wp2_with (refine wpl_storeNew aggKey KL.out rfl rfl _ _ rfl rfl rfl rfl ?_)
  refine (ihr _ (H.out.ext (by decide) (XW.out.alloc _))).mono ?_
  rintro e w3 ⟨vr, rfl, ho, hx⟩
  replace B3 := Lib.hid ((B3.out.alloc _).ext hx)
  replace XW := Lib.hid ((XW.out.alloc _).trans hx)
  have B6 := Lib.hid (((Blk.new w2 45 (numsA .u8 TL.key)).ext hx).alloc (.cells (numsA .u8 TR.key) 45))
  replace OL := Lib.hid ((OL.out.ext (by decide) (ext_alloc _ _)).ext (by decide) hx)
  obtain ⟨AR, cr, rfl⟩ := ho.shape
  have OR := Lib.hid ho.rd
  replace HN2 := Lib.hid (show w.heap.size + 1 ≤ w3.heap.size by have := hx.size; have := HN2.out; simp only [size_alloc] at *; omega)
  clear ho hx ihr
  have B8 := Lib.hid (Blk.new w3 45 (numsA .u8 TR.key))
  have HD := Lib.hid (HC.out _ (XW.out.alloc (.cells (numsA .u8 TR.key) 45)))
  go_wp2_with (refine wpl_storeNew aggKey KR.out rfl rfl _ _ rfl rfl rfl rfl ?_)
  refine wp_region_held_drew (S := fun W => Ext (w3.alloc (.cells (numsA .u8 TR.key) 45)) W) (by kernel_rfl) (Ext.refl _).drew (fun hHeld => ?_)
  refine wpAnyH_take (i := 0) (oi := ?oiz10) (v := (.agg (numsA .u8 TL.key))) ?hiz10 (by kernel_rfl) (by kernel_rfl) (by kernel_rfl) ?hQz10 ?hyz10 (by assumption) ?restz10
  case hiz10 => simp only [List.getElem?_toArray, List.getElem?_cons_zero, List.getElem?_cons_succ]; rfl
  case hQz10 => exact fun _ _ _ h => h
  case hyz10 => refine yields_loadB B6.out aggKey (sizeN KL.out) ?_ _ rfl rfl; rfl
  try simp only [Act.put, List.setIfInBounds_toArray, List.set_cons_zero, List.set_cons_succ]
  refine wpAnyH_take (i := 1) (oi := ?oiz11) (v := (.agg (numsA .u8 TR.key))) ?hiz11 (by kernel_rfl) (by kernel_rfl) (by kernel_rfl) ?hQz11 ?hyz11 (by assumption) ?restz11
  case hiz11 => simp only [List.getElem?_toArray, List.getElem?_cons_zero, List.getElem?_cons_succ]; rfl
  case hQz11 => exact fun _ _ _ h => h
  case hyz11 => refine yields_loadB B8.out aggKey (sizeN KR.out) ?_ _ rfl rfl; rfl
  try simp only [Act.put, List.setIfInBounds_toArray, List.set_cons_zero, List.set_cons_succ]
  refine wpAnyH_take (i := 2) (oi := ?oiz12) (v := ?vz12) ?hiz12 (by kernel_rfl) (by kernel_rfl) (by kernel_rfl) ?hQz12 ?hyz12 (by assumption) ?restz12
  case hiz12 => simp only [List.getElem?_toArray, List.getElem?_cons_zero, List.getElem?_cons_succ]; rfl
  case hQz12 => exact fun _ _ _ h => h
  case hyz12 => exact Or.inl ⟨by rfl, by intro w hSw; (try dsimp only at hSw); go_simp; with_reducible rfl⟩
  try simp only [Act.put, List.setIfInBounds_toArray, List.set_cons_zero, List.set_cons_succ]
  refine wpAnyH_take (i := 3) (oi := ?oiz13) (v := ?vz13) ?hiz13 (by kernel_rfl) (by kernel_rfl) (by kernel_rfl) ?hQz13 ?hyz13 (by assumption) ?restz13
  case hiz13 => simp only [List.getElem?_toArray, List.getElem?_cons_zero, List.getElem?_cons_succ]; rfl
  case hQz13 => exact fun _ _ _ h => h
  case hyz13 => exact Or.inl ⟨by rfl, by intro w hSw; (try dsimp only at hSw); go_simp; with_reducible rfl⟩
  try simp only [Act.put, List.setIfInBounds_toArray, List.set_cons_zero, List.set_cons_succ]
  refine wpAnyH_take (i := 4) (oi := ?oiz14) (v := ?vz14) ?hiz14 (by kernel_rfl) (by kernel_rfl) (by kernel_rfl) ?hQz14 ?hyz14 (by assumption) ?restz14
  case hiz14 => simp only [List.getElem?_toArray, List.getElem?_cons_zero, List.getElem?_cons_succ]; rfl
  case hQz14 => exact fun _ _ _ h => h
  case hyz14 => exact Or.inl ⟨by rfl, by intro w hSw; (try dsimp only at hSw); go_simp; with_reducible rfl⟩
  try simp only [Act.put, List.setIfInBounds_toArray, List.set_cons_zero, List.set_cons_succ]
  refine wpAnyH_take (i := 5) (oi := ?oiz15) (v := (.agg #[.string L[k].1, .string L[k].2])) ?hiz15 (by kernel_rfl) (by kernel_rfl) (by kernel_rfl) ?hQz15 ?hyz15 (by assumption) ?restz15
  case hiz15 => simp only [List.getElem?_toArray, List.getElem?_cons_zero, List.getElem?_cons_succ]; rfl
  case hQz15 => exact fun _ _ _ h => h
  case hyz15 => refine yields_loadR g (o + k * 2) [.string L[k].1, .string L[k].2] aggEntryI HD.out ?_ _ rfl rfl; rfl
  try simp only [Act.put, List.setIfInBounds_toArray, List.set_cons_zero, List.set_cons_succ]
  refine wpAnyH_take (i := 6) (oi := ?oiz16) (v := (.agg (Nd.enc ⟨TL.key, TR.key, L[k].1, L[k].2⟩).toArray)) ?hiz16 (by kernel_rfl) (by kernel_rfl) (by kernel_rfl) ?hQz16 ?hyz16 (by assumption) ?restz16
  case hiz16 => simp only [List.getElem?_toArray, List.getElem?_cons_zero, List.getElem?_cons_succ]; rfl
  case hQz16 => exact fun _ _ _ h => h
  case hyz16 => refine yields_build ?_ rfl (built_node ⟨TL.key, TR.key, L[k].1, L[k].2⟩ HND.out); rfl
  try simp only [Act.put, List.setIfInBounds_toArray, List.set_cons_zero, List.set_cons_succ]
  have hs9 := hHeld.size
  have HX9 := Lib.hid hHeld
  generalize hw9 : (w3.alloc (.cells (numsA .u8 TR.key) 45)).drew = w9 at hHeld HX9 hs9 ⊢
  clear hw9
  refine wpAnyH_ready (rs := [7]) (by kernel_rfl) (by simp) (AllReadyH.cons (o := ?oy177) ?hy177 (fun K hK => ?sy177) AllReadyH.nil)
  case hy177 => simp only [List.getElem?_toArray, List.getElem?_cons_zero, List.getElem?_cons_succ]; rfl
  refine stp_alloc zNd.toArray (by kernel_rfl) rfl rfl ?_
  have hH2 := hHeld.alloc (.cells zNd.toArray 60)
  refine hK.out _ _ hH2 (fun _ => ?_)
  clear hK K hH2
  try simp only [Act.put, List.setIfInBounds_toArray, List.set_cons_zero, List.set_cons_succ]
  refine wpAnyH_ready (rs := [8]) (by kernel_rfl) (by simp) (AllReadyH.cons (o := ?oy188) ?hy188 (fun K hK => ?sy188) AllReadyH.nil)
  case hy188 => simp only [List.getElem?_toArray, List.getElem?_cons_zero, List.getElem?_cons_succ]; rfl
  refine stp_storeP (Blk.new w9 60 _) aggNodeI (Nd.st HND.out) (by simp [zNd]) rfl _ _ rfl rfl rfl rfl ?_
  have hH3 := hHeld.alloc (.cells (Nd.enc ⟨TL.key, TR.key, L[k].1, L[k].2⟩).toArray 60)
  rw [splice_all _ _ (by rw [Array.length_toList, (Nd.st HND.out).size]; rfl), setRow_alloc, Array.toArray_toList]
  refine hK.out _ _ hH3 (fun _ => ?_)
  clear hK K hH3 hHeld
  try simp only [Act.put, List.setIfInBounds_toArray, List.set_cons_zero, List.set_cons_succ]
  refine wpAnyH_done (by kernel_rfl) ?_ _
  have HW9 := Lib.hid ((XW.out.alloc (.cells (numsA .u8 TR.key) 45)).trans HX9.out)
  have HN9 := Lib.hid (show w.heap.size + 1 ≤ w9.heap.size by have := hs9; have := HN2.out; simp only [size_alloc] at *; omega)
  have B3x := Lib.hid ((B3.out.alloc (.cells (numsA .u8 TR.key) 45)).ext HX9.out)
  have OLx := Lib.hid ((OL.out.ext (by decide) (ext_alloc _ (.cells (numsA .u8 TR.key) 45))).ext (by decide) HX9.out)
  have ORx := Lib.hid ((OR.out.ext (by decide) (ext_alloc _ (.cells (numsA .u8 TR.key) 45))).ext (by decide) HX9.out)
  clear hs9 HX9 B3 B6 B8 OL OR XW HN2
  obtain ⟨x, hx0⟩ : ∃ x : Nd, x = ⟨TL.key, TR.key, L[k].1, L[k].2⟩ := ⟨_, rfl⟩
  have HXO := Lib.hid (show x.ok by rw [hx0]; exact HND.out)
  have HXE := Lib.hid (show entB x.n x.v = true by rw [hx0]; exact HEB.out)
  simp only [← hx0, Array.toArray_toList]
  have HXX := Lib.hid hx0
  clear hx0 HND HEB
  obtain ⟨wa, hwa⟩ : ∃ wa, w9.alloc (.cells x.enc.toArray 60) = wa := ⟨_, rfl⟩
  have HA := Lib.hid (show Ext w9 wa by rw [← hwa]; exact ext_alloc _ _)
  have HNA := Lib.hid (show Blk wa w9.heap.size 60 x.enc.toArray by rw [← hwa]; exact Blk.new w9 _ _)
  have HSA := Lib.hid (show wa.heap.size = w9.heap.size + 1 by rw [← hwa]; simp)
  rw [hwa]
  clear hwa
  have OL2 := Lib.hid ((OLx.out.ext (by decide) HA.out).ext (by decide) (ext_alloc wa (.cells x.enc.toArray 60)))
  have hsz := (Nd.st HXO.out).size
  have henc := Nd.enc_length HXO.out
  have OS := Lib.hid (Own.of_blk tNd (w := wa.alloc (.cells x.enc.toArray 60)) (base := wa.heap.size) (xs := [x]) (by rw [show [x].flatMap tNd.enc = x.enc from by rw [List.flatMap_cons, List.flatMap_nil, List.append_nil]; rfl]; exact Blk.new wa 60 x.enc.toArray) (Nat.le_refl _) (by simp) (by intro y hy; obtain rfl := List.mem_singleton.1 hy; exact HXO.out))
  go_wp2_with (first
    | (refine wpl_loadB HNA.out aggNodeI hsz rfl _ rfl rfl ?_)
    | (at_builtin; rw [fold_fill x.enc _ (by rw [henc]; rfl)]; refine wpl_append rowNd rfl _ _ rfl (v := .slice (some ⟨wa.heap.size, 0, none⟩) 1 1) rfl OS.out _ _ rfl (ys := TL.all) rfl (rd_nd OL2.out) (ok_nd OL2.out) (by have := HLL.out; simp only [List.length_singleton]; omega) (by simp) ?_; intro v5 w5 ho1 hg1 hat1; have HX5 := Lib.hid (OS.out.ext_app (ext_alloc wa _) hg1); obtain ⟨B5, n5, c5, rfl⟩ := ho1.shape3; have HO5 := Lib.hid ho1; clear ho1 hg1 hat1)
    | (at_builtin; refine wpl_append rowNd rfl _ _ rfl (v := .slice B5 n5 c5) rfl HO5.out _ _ rfl (ys := TR.all) rfl (rd_nd ((ORx.out.ext (by decide) HA.out).ext (by decide) HX5.out)) (ok_nd ORx.out) (by have := HLL.out; have := HLR.out; simp only [List.length_append, List.length_singleton]; omega) HX5.out.size ?_; intro v6 w6 ho1 hg1 hat1; have HX6 := Lib.hid (HO5.out.ext_app HX5.out hg1); have HO6 := Lib.hid ho1; clear ho1 hg1 hat1))
  refine (l04NodeKey_any x HXO.out HXE.out w9.heap.size _ (HNA.out.ext HX6.out)).mono ?_
  rintro e w7 ⟨rfl, hx⟩
  have HO7 := Lib.hid (HO6.out.ext hx)
  have B3y := Lib.hid (((B3x.out.ext HA.out).ext HX6.out).ext hx)
  have HX7 := Lib.hid (((HW9.out.trans HA.out).trans HX6.out).trans hx)
  have hkx := (hashL_ok 5 (nodeL x)).1
  have HLT := Lib.hid (show w.heap.size < wa.heap.size by have := HSA.out; have := HN9.out; omega)
  clear hx HO6
  go_wp2_with (refine wpl_storeN B3y.out aggKey hkx rfl rfl _ _ rfl rfl rfl rfl ?_)
  refine bodyPost_ret (results_tb rfl _ rfl aggKey (sizeN hkx) (B3y.out.setRow _) rfl) rfl ?_
  have ho8 := HO7.out
  rw [show [x] ++ TL.all ++ TR.all = x :: (TL.all ++ TR.all) by simp] at ho8
  rw [← HXX.out]
  refine ⟨_, rfl, ?_, HX7.out.setRow (Nat.le_refl _) _⟩
  exact (ho8.kept (grown_row (g := w.heap.size) (grown_refl _ _) _) (.inr (fun e => by have := (ho8.base_le _ e).1; have := HLT.out; omega))).le (Nat.le_of_lt HLT.out)
theorem l04Nodes_any (f : Nat) : NodesC f := by
  induction f with
  | zero => exact fun v L hf h64 hg w S h => nodes_nil 0 v L (by omega) w S h
  | succ f ih =>
    intro v L hf h64 hg w S h
    by_cases h0 : L.length = 0
    · exact nodes_nil (f + 1) v L h0 w S h
    · obtain ⟨A, cap, rfl, _⟩ := id h
      by_cases hc : cap = topE L + 1
      · exact nodes_cons1 f ih A cap L h0 hf h64 hg hc w S h
      · exact nodes_cons2 f ih A cap L h0 hf h64 hg hc w S h
end Go.Proofs.Ytikpakhccmdmcaa
/- The program's key of a node; nodes in the laws' words. No condition. -/
namespace Go.Proofs.Ytikpakhccmdmcaa
open Go.RowKit
set_option linter.unusedVariables false
set_option linter.unusedSimpArgs false

theorem aggMapNodeL : Agg Try.prog 86 66 := aggNodeL
theorem aggMapNodeI : Agg Try.prog 60 66 := aggNodeI
set_option maxHeartbeats 1000000 in
set_option maxRecDepth 100000 in
theorem nodeKey_any (x : Nd) (hok : x.ok) (he : entB x.n x.v = true) (w : World) :
    Calls Try.prog 98 #[.agg x.enc.toArray] w fun e w' => e = .returned (.agg (numsA .u8 (hashL 5 (nodeL x)))) ∧ Ext w w' := by
  have hk := (hashL_ok 5 (nodeL x)).1
  have hle := entB_le he
  have hnl := nodeL_length hok
  have Hnl : Hid ((nodeL x).length ≤ 1000) := Lib.hid (by omega)
  have hsz := (Nd.st hok).size
  clear hle hnl
  go_enter Try.func98, Try.ntmps98
  go_wp2_with (refine wpl_loadB ((Blk.new w _ _).alloc _) aggNodeI hsz rfl _ rfl rfl ?_)
  refine (nodeBytes_any x hok he _).mono ?_
  rintro e w1 ⟨v1, rfl, ho, hx⟩
  obtain ⟨A1, n1, c1, rfl⟩ := ho.shape3
  have B1 := Lib.hid ((Blk.new' (g := w.heap.size + 1) (w := w.alloc _) (by simp) 45 _).ext hx)
  have XW := Lib.hid (((ext_alloc w _).alloc _).trans hx)
  have HO := Lib.hid ho
  clear hx ho
  go_wp2_with fail
  refine (hash_any 5 (by decide) _ (nodeL x) _ _ HO.out.rd (by have := Hnl.out; omega)).mono ?_
  rintro e w2 ⟨rfl, hx⟩
  replace B1 := Lib.hid (B1.out.ext hx)
  replace XW := Lib.hid (XW.out.trans hx)
  clear hx HO
  go_wp2_with (refine wpl_storeN B1.out aggKey hk rfl rfl _ _ rfl rfl rfl rfl ?_)
  refine bodyPost_ret (results_blk rfl _ rfl aggKey hk (B1.out.setRow _)) rfl ?_
  exact ⟨rfl, XW.out.setRow (by omega) _⟩
end Go.Proofs.Ytikpakhccmdmcaa
