/- What the walk of the law FnExactClashOfName needs, part 3 of 8. No condition. -/
import Derived.Test.YtmndkbheehcoaaaPFnExactClashOfName2
/- Which lists of entries are maps: the reference and the program. No condition. -/
namespace Go.Proofs.Ytmndkbheehcoaaa
open Go.RowKit
set_option linter.unusedVariables false
set_option linter.unusedSimpArgs false

def gE (L : List En) (i : Nat) : En := L.getD i (⟨#[]⟩, ⟨#[]⟩)
theorem gE_lt {L : List En} {i : Nat} (h : i < L.length) : gE L i = L[i] := by simp [gE, List.getD_eq_getElem?_getD, h]
def incC (L : List En) (i : Nat) : Bool := entB (gE L i).1 (gE L i).2 && (i == 0 || ltB (gE L (i - 1)).1 (gE L i).1)
/-- the first n are valid and in order -/
@[irreducible] def incs (L : List En) (n : Nat) : Bool := (List.range n).all (incC L)
theorem incs_zero (L : List En) : incs L 0 = true := by rw [incs]; rfl
theorem incs_succ (L : List En) (n : Nat) : incs L (n + 1) = (incs L n && incC L n) := by rw [incs, incs, List.range_succ, List.all_append]; simp
theorem incs_bad (L : List En) (k n : Nat) (h : k < n) (hb : incC L k = false) : incs L n = false := by
  rw [incs, List.all_eq_false]
  exact ⟨k, List.mem_range.2 h, by simp [hb]⟩
/-- a map -/
@[irreducible] def okE (L : List En) : Bool := incs L L.length && decide (L.length ≤ 64)
theorem okE_eq (L : List En) : okE L = (incs L L.length && decide (L.length ≤ 64)) := by rw [okE]
set_option maxHeartbeats 1000000 in
set_option maxRecDepth 100000 in
theorem l04Ok_any (v : Value) (L : List En) (w : World) (S : Nat → Prop) (h : RdL tEnt w S v L) :
    Calls Try.prog 76 #[v] w fun e w' => e = .returned (.bool (okE L)) ∧ Ext w w' := by
  obtain ⟨A, cap, rfl, hcap, hlen, hrd, hok⟩ := h
  have Hrd := Lib.hid hrd
  have Hok := Lib.hid hok
  have HE := Lib.hid (okE_eq L)
  have HZ := Lib.hid (incs_zero L)
  clear hrd hok
  go_enter Try.func76, Try.ntmps76
  go_wp2
  go_loopw [3] (fun i wr => ∃ k : Nat, k ≤ L.length ∧ i = .int .i64 k ∧ incs L k = true ∧ Ext w wr) (fun i _ => L.length - (intOf i).toNat)
  case atStart => exact ⟨0, by omega, rfl, HZ.out, Ext.refl _⟩
  case round =>
    obtain ⟨k, hk, rfl, hs, hx⟩ := hrel
    have HS := Lib.hid hs
    have HX := Lib.hid hx
    clear hs hx HZ
    by_cases hlt : k < L.length
    · obtain ⟨g, o, rfl, hs0, hc⟩ := Hrd.out.elem Hok.out k hlt
      have HO := Lib.hid (show tEnt.ok L[k] from Hok.out _ (List.getElem_mem hlt))
      have d0 : ∀ W, Ext wr W → W.cell? ⟨g, o + k * 2, none⟩ = some (.string L[k].1) := fun W hW => (HX.out.trans hW).cell (hc 0 _ rfl)
      have d0b : ∀ W, Ext wr W → W.cell? ⟨g, o + k * 2 + 1, none⟩ = some (.string L[k].2) := fun W hW => (HX.out.trans hW).cell (hc 1 _ rfl)
      have hen := fun W => l04Entry_any L[k].1 L[k].2 HO.out.1 HO.out.2 g (o + k * 2) W
      have HSN := Lib.hid (incs_succ L k)
      have HGk := Lib.hid (gE_lt hlt)
      have hi : (0 : Int) ≤ (k : Int) := by omega
      have hi2 : (k : Int) < (L.length : Int) := by omega
      clear hc
      cases hb : entB L[k].1 L[k].2 with
      | false =>
        have HB := Lib.hid (incs_bad L k L.length hlt (by rw [incC, HGk.out, hb]; rfl))
        simp only [hb] at hen
        clear hb
        go_wp2_with fail
        refine wp_region_held_drew (S := fun W => Ext wr W) (by kernel_rfl) (Ext.refl _).drew (fun hHeld => ?_)
        refine wpAnyH_take (i := 0) (oi := ?oiz1) (v := ?vz1) ?hiz1 (by kernel_rfl) (by kernel_rfl) (by kernel_rfl) ?hQz1 ?hyz1 (by assumption) ?restz1
        case hiz1 => simp only [List.getElem?_toArray, List.getElem?_cons_zero, List.getElem?_cons_succ]; rfl
        case hQz1 => exact fun _ _ _ h => h
        case hyz1 => exact Or.inl ⟨by rfl, by intro w hSw; (try dsimp only at hSw); go_simp; with_reducible rfl⟩
        try simp only [Act.put, List.setIfInBounds_toArray, List.set_cons_zero, List.set_cons_succ]
        refine wpAnyH_take (i := 1) (oi := ?oiz2) (v := ?vz2) ?hiz2 (by kernel_rfl) (by kernel_rfl) (by kernel_rfl) ?hQz2 ?hyz2 (by assumption) ?restz2
        case hiz2 => simp only [List.getElem?_toArray, List.getElem?_cons_zero, List.getElem?_cons_succ]; rfl
        case hQz2 => exact fun _ _ _ h => h
        case hyz2 => exact Or.inl ⟨by rfl, by intro w hSw; (try dsimp only at hSw); go_simp; with_reducible rfl⟩
        try simp only [Act.put, List.setIfInBounds_toArray, List.set_cons_zero, List.set_cons_succ]
        refine wpAnyH_take (i := 2) (oi := ?oiz3) (v := ?vz3) ?hiz3 (by kernel_rfl) (by kernel_rfl) (by kernel_rfl) ?hQz3 ?hyz3 (by assumption) ?restz3
        case hiz3 => simp only [List.getElem?_toArray, List.getElem?_cons_zero, List.getElem?_cons_succ]; rfl
        case hQz3 => exact fun _ _ _ h => h
        case hyz3 => exact Or.inl ⟨by rfl, by intro w hSw; (try dsimp only at hSw); go_simp; with_reducible rfl⟩
        try simp only [Act.put, List.setIfInBounds_toArray, List.set_cons_zero, List.set_cons_succ]
        refine wpAnyH_ready (rs := [3]) (by kernel_rfl) (by simp) (AllReadyH.cons (o := ?oy43) ?hy43 (fun K hK => ?sy43) AllReadyH.nil)
        case hy43 => simp only [List.getElem?_toArray, List.getElem?_cons_zero, List.getElem?_cons_succ]; rfl
        go_simp
        refine (hen _ (d0 _ hHeld) (d0b _ hHeld)).mono ?_
        rintro e w' ⟨rfl, rfl⟩
        refine hK.out _ _ hHeld (fun _ => ?_)
        clear hK K
        try simp only [Act.put, List.setIfInBounds_toArray, List.set_cons_zero, List.set_cons_succ]
        refine wpAnyH_take (i := 4) (oi := ?oiz5) (v := ?vz5) ?hiz5 (by kernel_rfl) (by kernel_rfl) (by kernel_rfl) ?hQz5 ?hyz5 (by assumption) ?restz5
        case hiz5 => simp only [List.getElem?_toArray, List.getElem?_cons_zero, List.getElem?_cons_succ]; rfl
        case hQz5 => exact fun _ _ _ h => h
        case hyz5 => exact Or.inl ⟨by rfl, by intro w hSw; (try dsimp only at hSw); go_simp; with_reducible rfl⟩
        try simp only [Act.put, List.setIfInBounds_toArray, List.set_cons_zero, List.set_cons_succ]
        refine wpAnyH_take (i := 5) (oi := ?oiz6) (v := ?vz6) ?hiz6 (by kernel_rfl) (by kernel_rfl) (by kernel_rfl) ?hQz6 ?hyz6 (by assumption) ?restz6
        case hiz6 => simp only [List.getElem?_toArray, List.getElem?_cons_zero, List.getElem?_cons_succ]; rfl
        case hQz6 => exact fun _ _ _ h => h
        case hyz6 => exact Or.inl ⟨by rfl, by intro w hSw; (try dsimp only at hSw); go_simp; with_reducible rfl⟩
        try simp only [Act.put, List.setIfInBounds_toArray, List.set_cons_zero, List.set_cons_succ]
        refine wpAnyH_take (i := 6) (oi := ?oiz7) (v := undef) ?hiz7 (by kernel_rfl) (by kernel_rfl) (by kernel_rfl) ?hQz7 ?hyz7 (by assumption) ?restz7
        case hiz7 => simp only [List.getElem?_toArray, List.getElem?_cons_zero, List.getElem?_cons_succ]; rfl
        case hQz7 => exact fun _ _ _ h => h
        case hyz7 => exact Or.inr ⟨by rfl, rfl⟩
        try simp only [Act.put, List.setIfInBounds_toArray, List.set_cons_zero, List.set_cons_succ]
        refine wpAnyH_take (i := 7) (oi := ?oiz8) (v := undef) ?hiz8 (by kernel_rfl) (by kernel_rfl) (by kernel_rfl) ?hQz8 ?hyz8 (by assumption) ?restz8
        case hiz8 => simp only [List.getElem?_toArray, List.getElem?_cons_zero, List.getElem?_cons_succ]; rfl
        case hQz8 => exact fun _ _ _ h => h
        case hyz8 => exact Or.inr ⟨by rfl, rfl⟩
        try simp only [Act.put, List.setIfInBounds_toArray, List.set_cons_zero, List.set_cons_succ]
        refine wpAnyH_take (i := 8) (oi := ?oiz9) (v := undef) ?hiz9 (by kernel_rfl) (by kernel_rfl) (by kernel_rfl) ?hQz9 ?hyz9 (by assumption) ?restz9
        case hiz9 => simp only [List.getElem?_toArray, List.getElem?_cons_zero, List.getElem?_cons_succ]; rfl
        case hQz9 => exact fun _ _ _ h => h
        case hyz9 => exact Or.inr ⟨by rfl, rfl⟩
        try simp only [Act.put, List.setIfInBounds_toArray, List.set_cons_zero, List.set_cons_succ]
        refine wpAnyH_take (i := 9) (oi := ?oiz10) (v := undef) ?hiz10 (by kernel_rfl) (by kernel_rfl) (by kernel_rfl) ?hQz10 ?hyz10 (by assumption) ?restz10
        case hiz10 => simp only [List.getElem?_toArray, List.getElem?_cons_zero, List.getElem?_cons_succ]; rfl
        case hQz10 => exact fun _ _ _ h => h
        case hyz10 => exact Or.inr ⟨by rfl, rfl⟩
        try simp only [Act.put, List.setIfInBounds_toArray, List.set_cons_zero, List.set_cons_succ]
        refine wpAnyH_take (i := 10) (oi := ?oiz11) (v := undef) ?hiz11 (by kernel_rfl) (by kernel_rfl) (by kernel_rfl) ?hQz11 ?hyz11 (by assumption) ?restz11
        case hiz11 => simp only [List.getElem?_toArray, List.getElem?_cons_zero, List.getElem?_cons_succ]; rfl
        case hQz11 => exact fun _ _ _ h => h
        case hyz11 => exact Or.inr ⟨by rfl, rfl⟩
        try simp only [Act.put, List.setIfInBounds_toArray, List.set_cons_zero, List.set_cons_succ]
        refine wpAnyH_take (i := 11) (oi := ?oiz12) (v := undef) ?hiz12 (by kernel_rfl) (by kernel_rfl) (by kernel_rfl) ?hQz12 ?hyz12 (by assumption) ?restz12
        case hiz12 => simp only [List.getElem?_toArray, List.getElem?_cons_zero, List.getElem?_cons_succ]; rfl
        case hQz12 => exact fun _ _ _ h => h
        case hyz12 => exact Or.inr ⟨by rfl, rfl⟩
        try simp only [Act.put, List.setIfInBounds_toArray, List.set_cons_zero, List.set_cons_succ]
        refine wpAnyH_take (i := 12) (oi := ?oiz13) (v := undef) ?hiz13 (by kernel_rfl) (by kernel_rfl) (by kernel_rfl) ?hQz13 ?hyz13 (by assumption) ?restz13
        case hiz13 => simp only [List.getElem?_toArray, List.getElem?_cons_zero, List.getElem?_cons_succ]; rfl
        case hQz13 => exact fun _ _ _ h => h
        case hyz13 => exact Or.inr ⟨by rfl, rfl⟩
        try simp only [Act.put, List.setIfInBounds_toArray, List.set_cons_zero, List.set_cons_succ]
        refine wpAnyH_take (i := 13) (oi := ?oiz14) (v := undef) ?hiz14 (by kernel_rfl) (by kernel_rfl) (by kernel_rfl) ?hQz14 ?hyz14 (by assumption) ?restz14
        case hiz14 => simp only [List.getElem?_toArray, List.getElem?_cons_zero, List.getElem?_cons_succ]; rfl
        case hQz14 => exact fun _ _ _ h => h
        case hyz14 => exact Or.inr ⟨by rfl, rfl⟩
        try simp only [Act.put, List.setIfInBounds_toArray, List.set_cons_zero, List.set_cons_succ]
        refine wpAnyH_take (i := 14) (oi := ?oiz15) (v := undef) ?hiz15 (by kernel_rfl) (by kernel_rfl) (by kernel_rfl) ?hQz15 ?hyz15 (by assumption) ?restz15
        case hiz15 => simp only [List.getElem?_toArray, List.getElem?_cons_zero, List.getElem?_cons_succ]; rfl
        case hQz15 => exact fun _ _ _ h => h
        case hyz15 => exact Or.inr ⟨by rfl, rfl⟩
        try simp only [Act.put, List.setIfInBounds_toArray, List.set_cons_zero, List.set_cons_succ]
        refine wpAnyH_take (i := 15) (oi := ?oiz16) (v := undef) ?hiz16 (by kernel_rfl) (by kernel_rfl) (by kernel_rfl) ?hQz16 ?hyz16 (by assumption) ?restz16
        case hiz16 => simp only [List.getElem?_toArray, List.getElem?_cons_zero, List.getElem?_cons_succ]; rfl
        case hQz16 => exact fun _ _ _ h => h
        case hyz16 => exact Or.inr ⟨by rfl, rfl⟩
        try simp only [Act.put, List.setIfInBounds_toArray, List.set_cons_zero, List.set_cons_succ]
        refine wpAnyH_take (i := 16) (oi := ?oiz17) (v := undef) ?hiz17 (by kernel_rfl) (by kernel_rfl) (by kernel_rfl) ?hQz17 ?hyz17 (by assumption) ?restz17
        case hiz17 => simp only [List.getElem?_toArray, List.getElem?_cons_zero, List.getElem?_cons_succ]; rfl
        case hQz17 => exact fun _ _ _ h => h
        case hyz17 => exact Or.inr ⟨by rfl, rfl⟩
        try simp only [Act.put, List.setIfInBounds_toArray, List.set_cons_zero, List.set_cons_succ]
        refine wpAnyH_take (i := 17) (oi := ?oiz18) (v := undef) ?hiz18 (by kernel_rfl) (by kernel_rfl) (by kernel_rfl) ?hQz18 ?hyz18 (by assumption) ?restz18
        case hiz18 => simp only [List.getElem?_toArray, List.getElem?_cons_zero, List.getElem?_cons_succ]; rfl
        case hQz18 => exact fun _ _ _ h => h
        case hyz18 => exact Or.inr ⟨by rfl, rfl⟩
        try simp only [Act.put, List.setIfInBounds_toArray, List.set_cons_zero, List.set_cons_succ]
        refine wpAnyH_take (i := 18) (oi := ?oiz19) (v := undef) ?hiz19 (by kernel_rfl) (by kernel_rfl) (by kernel_rfl) ?hQz19 ?hyz19 (by assumption) ?restz19
        case hiz19 => simp only [List.getElem?_toArray, List.getElem?_cons_zero, List.getElem?_cons_succ]; rfl
        case hQz19 => exact fun _ _ _ h => h
        case hyz19 => exact Or.inr ⟨by rfl, rfl⟩
        try simp only [Act.put, List.setIfInBounds_toArray, List.set_cons_zero, List.set_cons_succ]
        refine wpAnyH_take (i := 19) (oi := ?oiz20) (v := undef) ?hiz20 (by kernel_rfl) (by kernel_rfl) (by kernel_rfl) ?hQz20 ?hyz20 (by assumption) ?restz20
        case hiz20 => simp only [List.getElem?_toArray, List.getElem?_cons_zero, List.getElem?_cons_succ]; rfl
        case hQz20 => exact fun _ _ _ h => h
        case hyz20 => exact Or.inr ⟨by rfl, rfl⟩
        try simp only [Act.put, List.setIfInBounds_toArray, List.set_cons_zero, List.set_cons_succ]
        refine wpAnyH_take (i := 20) (oi := ?oiz21) (v := undef) ?hiz21 (by kernel_rfl) (by kernel_rfl) (by kernel_rfl) ?hQz21 ?hyz21 (by assumption) ?restz21
        case hiz21 => simp only [List.getElem?_toArray, List.getElem?_cons_zero, List.getElem?_cons_succ]; rfl
        case hQz21 => exact fun _ _ _ h => h
        case hyz21 => exact Or.inr ⟨by rfl, rfl⟩
        try simp only [Act.put, List.setIfInBounds_toArray, List.set_cons_zero, List.set_cons_succ]
        refine wpAnyH_take (i := 21) (oi := ?oiz22) (v := undef) ?hiz22 (by kernel_rfl) (by kernel_rfl) (by kernel_rfl) ?hQz22 ?hyz22 (by assumption) ?restz22
        case hiz22 => simp only [List.getElem?_toArray, List.getElem?_cons_zero, List.getElem?_cons_succ]; rfl
        case hQz22 => exact fun _ _ _ h => h
        case hyz22 => exact Or.inr ⟨by rfl, rfl⟩
        try simp only [Act.put, List.setIfInBounds_toArray, List.set_cons_zero, List.set_cons_succ]
        refine wpAnyH_take (i := 22) (oi := ?oiz23) (v := ?vz23) ?hiz23 (by kernel_rfl) (by kernel_rfl) (by kernel_rfl) ?hQz23 ?hyz23 (by assumption) ?restz23
        case hiz23 => simp only [List.getElem?_toArray, List.getElem?_cons_zero, List.getElem?_cons_succ]; rfl
        case hQz23 => exact fun _ _ _ h => h
        case hyz23 => exact Or.inl ⟨by rfl, by intro w hSw; (try dsimp only at hSw); go_simp; with_reducible rfl⟩
        try simp only [Act.put, List.setIfInBounds_toArray, List.set_cons_zero, List.set_cons_succ]
        refine wpAnyH_done (by kernel_rfl) ?_ _
        have HX2 := Lib.hid (HX.out.trans hHeld)
        clear hHeld
        go_wp2
        go_ret
        exact ⟨by rw [HE.out, HB.out]; rfl, HX2.out⟩
      | true =>
        have HBk := Lib.hid hb
        simp only [hb] at hen
        clear hb
        rcases k with _ | j
        · simp only [Int.cast_ofNat_Int] at hi2 ⊢
          go_wp2_with fail
          refine wp_region_held_drew (S := fun W => Ext wr W) (by kernel_rfl) (Ext.refl _).drew (fun hHeld => ?_)
          refine wpAnyH_take (i := 0) (oi := ?oiz24) (v := ?vz24) ?hiz24 (by kernel_rfl) (by kernel_rfl) (by kernel_rfl) ?hQz24 ?hyz24 (by assumption) ?restz24
          case hiz24 => simp only [List.getElem?_toArray, List.getElem?_cons_zero, List.getElem?_cons_succ]; rfl
          case hQz24 => exact fun _ _ _ h => h
          case hyz24 => exact Or.inl ⟨by rfl, by intro w hSw; (try dsimp only at hSw); go_simp; with_reducible rfl⟩
          try simp only [Act.put, List.setIfInBounds_toArray, List.set_cons_zero, List.set_cons_succ]
          refine wpAnyH_take (i := 1) (oi := ?oiz25) (v := ?vz25) ?hiz25 (by kernel_rfl) (by kernel_rfl) (by kernel_rfl) ?hQz25 ?hyz25 (by assumption) ?restz25
          case hiz25 => simp only [List.getElem?_toArray, List.getElem?_cons_zero, List.getElem?_cons_succ]; rfl
          case hQz25 => exact fun _ _ _ h => h
          case hyz25 => exact Or.inl ⟨by rfl, by intro w hSw; (try dsimp only at hSw); go_simp; with_reducible rfl⟩
          try simp only [Act.put, List.setIfInBounds_toArray, List.set_cons_zero, List.set_cons_succ]
          refine wpAnyH_take (i := 2) (oi := ?oiz26) (v := ?vz26) ?hiz26 (by kernel_rfl) (by kernel_rfl) (by kernel_rfl) ?hQz26 ?hyz26 (by assumption) ?restz26
          case hiz26 => simp only [List.getElem?_toArray, List.getElem?_cons_zero, List.getElem?_cons_succ]; rfl
          case hQz26 => exact fun _ _ _ h => h
          case hyz26 => exact Or.inl ⟨by rfl, by intro w hSw; (try dsimp only at hSw); go_simp; with_reducible rfl⟩
          try simp only [Act.put, List.setIfInBounds_toArray, List.set_cons_zero, List.set_cons_succ]
          refine wpAnyH_ready (rs := [3]) (by kernel_rfl) (by simp) (AllReadyH.cons (o := ?oy273) ?hy273 (fun K hK => ?sy273) AllReadyH.nil)
          case hy273 => simp only [List.getElem?_toArray, List.getElem?_cons_zero, List.getElem?_cons_succ]; rfl
          go_simp
          refine (hen _ (d0 _ hHeld) (d0b _ hHeld)).mono ?_
          rintro e w' ⟨rfl, rfl⟩
          refine hK.out _ _ hHeld (fun _ => ?_)
          clear hK K
          try simp only [Act.put, List.setIfInBounds_toArray, List.set_cons_zero, List.set_cons_succ]
          refine wpAnyH_take (i := 4) (oi := ?oiz28) (v := ?vz28) ?hiz28 (by kernel_rfl) (by kernel_rfl) (by kernel_rfl) ?hQz28 ?hyz28 (by assumption) ?restz28
          case hiz28 => simp only [List.getElem?_toArray, List.getElem?_cons_zero, List.getElem?_cons_succ]; rfl
          case hQz28 => exact fun _ _ _ h => h
          case hyz28 => exact Or.inl ⟨by rfl, by intro w hSw; (try dsimp only at hSw); go_simp; with_reducible rfl⟩
          try simp only [Act.put, List.setIfInBounds_toArray, List.set_cons_zero, List.set_cons_succ]
          refine wpAnyH_take (i := 5) (oi := ?oiz29) (v := ?vz29) ?hiz29 (by kernel_rfl) (by kernel_rfl) (by kernel_rfl) ?hQz29 ?hyz29 (by assumption) ?restz29
          case hiz29 => simp only [List.getElem?_toArray, List.getElem?_cons_zero, List.getElem?_cons_succ]; rfl
          case hQz29 => exact fun _ _ _ h => h
          case hyz29 => exact Or.inl ⟨by rfl, by intro w hSw; (try dsimp only at hSw); go_simp; with_reducible rfl⟩
          try simp only [Act.put, List.setIfInBounds_toArray, List.set_cons_zero, List.set_cons_succ]
          refine wpAnyH_take (i := 6) (oi := ?oiz30) (v := ?vz30) ?hiz30 (by kernel_rfl) (by kernel_rfl) (by kernel_rfl) ?hQz30 ?hyz30 (by assumption) ?restz30
          case hiz30 => simp only [List.getElem?_toArray, List.getElem?_cons_zero, List.getElem?_cons_succ]; rfl
          case hQz30 => exact fun _ _ _ h => h
          case hyz30 => exact Or.inl ⟨by rfl, by intro w hSw; (try dsimp only at hSw); go_simp; with_reducible rfl⟩
          try simp only [Act.put, List.setIfInBounds_toArray, List.set_cons_zero, List.set_cons_succ]
          refine wpAnyH_take (i := 7) (oi := ?oiz31) (v := ?vz31) ?hiz31 (by kernel_rfl) (by kernel_rfl) (by kernel_rfl) ?hQz31 ?hyz31 (by assumption) ?restz31
          case hiz31 => simp only [List.getElem?_toArray, List.getElem?_cons_zero, List.getElem?_cons_succ]; rfl
          case hQz31 => exact fun _ _ _ h => h
          case hyz31 => exact Or.inl ⟨by rfl, by intro w hSw; (try dsimp only at hSw); go_simp; with_reducible rfl⟩
          try simp only [Act.put, List.setIfInBounds_toArray, List.set_cons_zero, List.set_cons_succ]
          refine wpAnyH_take (i := 8) (oi := ?oiz32) (v := ?vz32) ?hiz32 (by kernel_rfl) (by kernel_rfl) (by kernel_rfl) ?hQz32 ?hyz32 (by assumption) ?restz32
          case hiz32 => simp only [List.getElem?_toArray, List.getElem?_cons_zero, List.getElem?_cons_succ]; rfl
          case hQz32 => exact fun _ _ _ h => h
          case hyz32 => exact Or.inl ⟨by rfl, by intro w hSw; (try dsimp only at hSw); go_simp; with_reducible rfl⟩
          try simp only [Act.put, List.setIfInBounds_toArray, List.set_cons_zero, List.set_cons_succ]
          refine wpAnyH_take (i := 9) (oi := ?oiz33) (v := undef) ?hiz33 (by kernel_rfl) (by kernel_rfl) (by kernel_rfl) ?hQz33 ?hyz33 (by assumption) ?restz33
          case hiz33 => simp only [List.getElem?_toArray, List.getElem?_cons_zero, List.getElem?_cons_succ]; rfl
          case hQz33 => exact fun _ _ _ h => h
          case hyz33 => exact Or.inr ⟨by rfl, rfl⟩
          try simp only [Act.put, List.setIfInBounds_toArray, List.set_cons_zero, List.set_cons_succ]
          refine wpAnyH_take (i := 10) (oi := ?oiz34) (v := undef) ?hiz34 (by kernel_rfl) (by kernel_rfl) (by kernel_rfl) ?hQz34 ?hyz34 (by assumption) ?restz34
          case hiz34 => simp only [List.getElem?_toArray, List.getElem?_cons_zero, List.getElem?_cons_succ]; rfl
          case hQz34 => exact fun _ _ _ h => h
          case hyz34 => exact Or.inr ⟨by rfl, rfl⟩
          try simp only [Act.put, List.setIfInBounds_toArray, List.set_cons_zero, List.set_cons_succ]
          refine wpAnyH_take (i := 11) (oi := ?oiz35) (v := undef) ?hiz35 (by kernel_rfl) (by kernel_rfl) (by kernel_rfl) ?hQz35 ?hyz35 (by assumption) ?restz35
          case hiz35 => simp only [List.getElem?_toArray, List.getElem?_cons_zero, List.getElem?_cons_succ]; rfl
          case hQz35 => exact fun _ _ _ h => h
          case hyz35 => exact Or.inr ⟨by rfl, rfl⟩
          try simp only [Act.put, List.setIfInBounds_toArray, List.set_cons_zero, List.set_cons_succ]
          refine wpAnyH_take (i := 12) (oi := ?oiz36) (v := undef) ?hiz36 (by kernel_rfl) (by kernel_rfl) (by kernel_rfl) ?hQz36 ?hyz36 (by assumption) ?restz36
          case hiz36 => simp only [List.getElem?_toArray, List.getElem?_cons_zero, List.getElem?_cons_succ]; rfl
          case hQz36 => exact fun _ _ _ h => h
          case hyz36 => exact Or.inr ⟨by rfl, rfl⟩
          try simp only [Act.put, List.setIfInBounds_toArray, List.set_cons_zero, List.set_cons_succ]
          refine wpAnyH_take (i := 13) (oi := ?oiz37) (v := undef) ?hiz37 (by kernel_rfl) (by kernel_rfl) (by kernel_rfl) ?hQz37 ?hyz37 (by assumption) ?restz37
          case hiz37 => simp only [List.getElem?_toArray, List.getElem?_cons_zero, List.getElem?_cons_succ]; rfl
          case hQz37 => exact fun _ _ _ h => h
          case hyz37 => exact Or.inr ⟨by rfl, rfl⟩
          try simp only [Act.put, List.setIfInBounds_toArray, List.set_cons_zero, List.set_cons_succ]
          refine wpAnyH_take (i := 14) (oi := ?oiz38) (v := undef) ?hiz38 (by kernel_rfl) (by kernel_rfl) (by kernel_rfl) ?hQz38 ?hyz38 (by assumption) ?restz38
          case hiz38 => simp only [List.getElem?_toArray, List.getElem?_cons_zero, List.getElem?_cons_succ]; rfl
          case hQz38 => exact fun _ _ _ h => h
          case hyz38 => exact Or.inr ⟨by rfl, rfl⟩
          try simp only [Act.put, List.setIfInBounds_toArray, List.set_cons_zero, List.set_cons_succ]
          refine wpAnyH_take (i := 15) (oi := ?oiz39) (v := undef) ?hiz39 (by kernel_rfl) (by kernel_rfl) (by kernel_rfl) ?hQz39 ?hyz39 (by assumption) ?restz39
          case hiz39 => simp only [List.getElem?_toArray, List.getElem?_cons_zero, List.getElem?_cons_succ]; rfl
          case hQz39 => exact fun _ _ _ h => h
          case hyz39 => exact Or.inr ⟨by rfl, rfl⟩
          try simp only [Act.put, List.setIfInBounds_toArray, List.set_cons_zero, List.set_cons_succ]
          refine wpAnyH_take (i := 16) (oi := ?oiz40) (v := undef) ?hiz40 (by kernel_rfl) (by kernel_rfl) (by kernel_rfl) ?hQz40 ?hyz40 (by assumption) ?restz40
          case hiz40 => simp only [List.getElem?_toArray, List.getElem?_cons_zero, List.getElem?_cons_succ]; rfl
          case hQz40 => exact fun _ _ _ h => h
          case hyz40 => exact Or.inr ⟨by rfl, rfl⟩
          try simp only [Act.put, List.setIfInBounds_toArray, List.set_cons_zero, List.set_cons_succ]
          refine wpAnyH_take (i := 17) (oi := ?oiz41) (v := undef) ?hiz41 (by kernel_rfl) (by kernel_rfl) (by kernel_rfl) ?hQz41 ?hyz41 (by assumption) ?restz41
          case hiz41 => simp only [List.getElem?_toArray, List.getElem?_cons_zero, List.getElem?_cons_succ]; rfl
          case hQz41 => exact fun _ _ _ h => h
          case hyz41 => exact Or.inr ⟨by rfl, rfl⟩
          try simp only [Act.put, List.setIfInBounds_toArray, List.set_cons_zero, List.set_cons_succ]
          refine wpAnyH_take (i := 18) (oi := ?oiz42) (v := undef) ?hiz42 (by kernel_rfl) (by kernel_rfl) (by kernel_rfl) ?hQz42 ?hyz42 (by assumption) ?restz42
          case hiz42 => simp only [List.getElem?_toArray, List.getElem?_cons_zero, List.getElem?_cons_succ]; rfl
          case hQz42 => exact fun _ _ _ h => h
          case hyz42 => exact Or.inr ⟨by rfl, rfl⟩
          try simp only [Act.put, List.setIfInBounds_toArray, List.set_cons_zero, List.set_cons_succ]
          refine wpAnyH_take (i := 19) (oi := ?oiz43) (v := undef) ?hiz43 (by kernel_rfl) (by kernel_rfl) (by kernel_rfl) ?hQz43 ?hyz43 (by assumption) ?restz43
          case hiz43 => simp only [List.getElem?_toArray, List.getElem?_cons_zero, List.getElem?_cons_succ]; rfl
          case hQz43 => exact fun _ _ _ h => h
          case hyz43 => exact Or.inr ⟨by rfl, rfl⟩
          try simp only [Act.put, List.setIfInBounds_toArray, List.set_cons_zero, List.set_cons_succ]
          refine wpAnyH_take (i := 20) (oi := ?oiz44) (v := undef) ?hiz44 (by kernel_rfl) (by kernel_rfl) (by kernel_rfl) ?hQz44 ?hyz44 (by assumption) ?restz44
          case hiz44 => simp only [List.getElem?_toArray, List.getElem?_cons_zero, List.getElem?_cons_succ]; rfl
          case hQz44 => exact fun _ _ _ h => h
          case hyz44 => exact Or.inr ⟨by rfl, rfl⟩
          try simp only [Act.put, List.setIfInBounds_toArray, List.set_cons_zero, List.set_cons_succ]
          refine wpAnyH_take (i := 21) (oi := ?oiz45) (v := ?vz45) ?hiz45 (by kernel_rfl) (by kernel_rfl) (by kernel_rfl) ?hQz45 ?hyz45 (by assumption) ?restz45
          case hiz45 => simp only [List.getElem?_toArray, List.getElem?_cons_zero, List.getElem?_cons_succ]; rfl
          case hQz45 => exact fun _ _ _ h => h
          case hyz45 => exact Or.inl ⟨by rfl, by intro w hSw; (try dsimp only at hSw); go_simp; with_reducible rfl⟩
          try simp only [Act.put, List.setIfInBounds_toArray, List.set_cons_zero, List.set_cons_succ]
          refine wpAnyH_take (i := 22) (oi := ?oiz46) (v := ?vz46) ?hiz46 (by kernel_rfl) (by kernel_rfl) (by kernel_rfl) ?hQz46 ?hyz46 (by assumption) ?restz46
          case hiz46 => simp only [List.getElem?_toArray, List.getElem?_cons_zero, List.getElem?_cons_succ]; rfl
          case hQz46 => exact fun _ _ _ h => h
          case hyz46 => exact Or.inl ⟨by rfl, by intro w hSw; (try dsimp only at hSw); go_simp; with_reducible rfl⟩
          try simp only [Act.put, List.setIfInBounds_toArray, List.set_cons_zero, List.set_cons_succ]
          refine wpAnyH_done (by kernel_rfl) ?_ _
          have HX2 := Lib.hid (HX.out.trans hHeld)
          clear hHeld
          go_wp2
          go_roundw
          case rel => exact ⟨1, by omega, rfl, by rw [HSN.out, HS.out, incC, HGk.out, HBk.out]; rfl, HX2.out⟩
          case measure => simp [intOf]; omega
        · obtain ⟨g2, o2, e, hs1, hc⟩ := Hrd.out.elem Hok.out j (by omega)
          injection e with e
          injection e with e1 e2
          subst e1
          subst e2
          have d1 : ∀ W, Ext wr W → W.cell? ⟨g, o + j * 2, none⟩ = some (.string L[j].1) := fun W hW => (HX.out.trans hW).cell (hc 0 _ rfl)
          have HGj := Lib.hid (gE_lt (L := L) (i := j) (by omega))
          have W1 : IntKind.i64.wrap (j : Int) = j := IntWalk.i64_in _ (by omega)
          have hj0 : (0 : Int) ≤ (j : Int) := by omega
          have hj1 : (j : Int) < (L.length : Int) := by omega
          have hj2 : (0 : Int) ≤ (j : Int) + 1 := by omega
          have hj3 : (0 : Int) < (j : Int) + 1 := by omega
          have hj4 : (j : Int) + 1 < (L.length : Int) := by omega
          clear hc
          cases hl : ltB L[j].1 L[j + 1].1 with
          | true =>
            have hl2 : Op.bytesLess L[j].1.toList L[j + 1].1.toList = true := by rw [ltB_eq]; exact hl
            have HLT := Lib.hid hl
            clear hl
            go_wp2_with fail
            refine wp_region_held_drew (S := fun W => Ext wr W) (by kernel_rfl) (Ext.refl _).drew (fun hHeld => ?_)
            refine wpAnyH_take (i := 0) (oi := ?oiz47) (v := ?vz47) ?hiz47 (by kernel_rfl) (by kernel_rfl) (by kernel_rfl) ?hQz47 ?hyz47 (by assumption) ?restz47
            case hiz47 => simp only [List.getElem?_toArray, List.getElem?_cons_zero, List.getElem?_cons_succ]; rfl
            case hQz47 => exact fun _ _ _ h => h
            case hyz47 => exact Or.inl ⟨by rfl, by intro w hSw; (try dsimp only at hSw); go_simp; with_reducible rfl⟩
            try simp only [Act.put, List.setIfInBounds_toArray, List.set_cons_zero, List.set_cons_succ]
            refine wpAnyH_take (i := 1) (oi := ?oiz48) (v := ?vz48) ?hiz48 (by kernel_rfl) (by kernel_rfl) (by kernel_rfl) ?hQz48 ?hyz48 (by assumption) ?restz48
            case hiz48 => simp only [List.getElem?_toArray, List.getElem?_cons_zero, List.getElem?_cons_succ]; rfl
            case hQz48 => exact fun _ _ _ h => h
            case hyz48 => exact Or.inl ⟨by rfl, by intro w hSw; (try dsimp only at hSw); go_simp; with_reducible rfl⟩
            try simp only [Act.put, List.setIfInBounds_toArray, List.set_cons_zero, List.set_cons_succ]
            refine wpAnyH_take (i := 2) (oi := ?oiz49) (v := ?vz49) ?hiz49 (by kernel_rfl) (by kernel_rfl) (by kernel_rfl) ?hQz49 ?hyz49 (by assumption) ?restz49
            case hiz49 => simp only [List.getElem?_toArray, List.getElem?_cons_zero, List.getElem?_cons_succ]; rfl
            case hQz49 => exact fun _ _ _ h => h
            case hyz49 => exact Or.inl ⟨by rfl, by intro w hSw; (try dsimp only at hSw); go_simp; with_reducible rfl⟩
            try simp only [Act.put, List.setIfInBounds_toArray, List.set_cons_zero, List.set_cons_succ]
            refine wpAnyH_ready (rs := [3]) (by kernel_rfl) (by simp) (AllReadyH.cons (o := ?oy503) ?hy503 (fun K hK => ?sy503) AllReadyH.nil)
            case hy503 => simp only [List.getElem?_toArray, List.getElem?_cons_zero, List.getElem?_cons_succ]; rfl
            go_simp
            refine (hen _ (d0 _ hHeld) (d0b _ hHeld)).mono ?_
            rintro e w' ⟨rfl, rfl⟩
            refine hK.out _ _ hHeld (fun _ => ?_)
            clear hK K
            try simp only [Act.put, List.setIfInBounds_toArray, List.set_cons_zero, List.set_cons_succ]
            refine wpAnyH_take (i := 4) (oi := ?oiz51) (v := ?vz51) ?hiz51 (by kernel_rfl) (by kernel_rfl) (by kernel_rfl) ?hQz51 ?hyz51 (by assumption) ?restz51
            case hiz51 => simp only [List.getElem?_toArray, List.getElem?_cons_zero, List.getElem?_cons_succ]; rfl
            case hQz51 => exact fun _ _ _ h => h
            case hyz51 => exact Or.inl ⟨by rfl, by intro w hSw; (try dsimp only at hSw); go_simp; with_reducible rfl⟩
            try simp only [Act.put, List.setIfInBounds_toArray, List.set_cons_zero, List.set_cons_succ]
            refine wpAnyH_take (i := 5) (oi := ?oiz52) (v := ?vz52) ?hiz52 (by kernel_rfl) (by kernel_rfl) (by kernel_rfl) ?hQz52 ?hyz52 (by assumption) ?restz52
            case hiz52 => simp only [List.getElem?_toArray, List.getElem?_cons_zero, List.getElem?_cons_succ]; rfl
            case hQz52 => exact fun _ _ _ h => h
            case hyz52 => exact Or.inl ⟨by rfl, by intro w hSw; (try dsimp only at hSw); go_simp; with_reducible rfl⟩
            try simp only [Act.put, List.setIfInBounds_toArray, List.set_cons_zero, List.set_cons_succ]
            refine wpAnyH_take (i := 6) (oi := ?oiz53) (v := ?vz53) ?hiz53 (by kernel_rfl) (by kernel_rfl) (by kernel_rfl) ?hQz53 ?hyz53 (by assumption) ?restz53
            case hiz53 => simp only [List.getElem?_toArray, List.getElem?_cons_zero, List.getElem?_cons_succ]; rfl
            case hQz53 => exact fun _ _ _ h => h
            case hyz53 => exact Or.inl ⟨by rfl, by intro w hSw; (try dsimp only at hSw); go_simp; with_reducible rfl⟩
            try simp only [Act.put, List.setIfInBounds_toArray, List.set_cons_zero, List.set_cons_succ]
            refine wpAnyH_take (i := 7) (oi := ?oiz54) (v := ?vz54) ?hiz54 (by kernel_rfl) (by kernel_rfl) (by kernel_rfl) ?hQz54 ?hyz54 (by assumption) ?restz54
            case hiz54 => simp only [List.getElem?_toArray, List.getElem?_cons_zero, List.getElem?_cons_succ]; rfl
            case hQz54 => exact fun _ _ _ h => h
            case hyz54 => exact Or.inl ⟨by rfl, by intro w hSw; (try dsimp only at hSw); go_simp; with_reducible rfl⟩
            try simp only [Act.put, List.setIfInBounds_toArray, List.set_cons_zero, List.set_cons_succ]
            refine wpAnyH_take (i := 8) (oi := ?oiz55) (v := ?vz55) ?hiz55 (by kernel_rfl) (by kernel_rfl) (by kernel_rfl) ?hQz55 ?hyz55 (by assumption) ?restz55
            case hiz55 => simp only [List.getElem?_toArray, List.getElem?_cons_zero, List.getElem?_cons_succ]; rfl
            case hQz55 => exact fun _ _ _ h => h
            case hyz55 => exact Or.inl ⟨by rfl, by intro w hSw; (try dsimp only at hSw); go_simp; with_reducible rfl⟩
            try simp only [Act.put, List.setIfInBounds_toArray, List.set_cons_zero, List.set_cons_succ]
            refine wpAnyH_take (i := 9) (oi := ?oiz56) (v := ?vz56) ?hiz56 (by kernel_rfl) (by kernel_rfl) (by kernel_rfl) ?hQz56 ?hyz56 (by assumption) ?restz56
            case hiz56 => simp only [List.getElem?_toArray, List.getElem?_cons_zero, List.getElem?_cons_succ]; rfl
            case hQz56 => exact fun _ _ _ h => h
            case hyz56 => exact Or.inl ⟨by rfl, by intro w hSw; (try dsimp only at hSw); go_simp; with_reducible rfl⟩
            try simp only [Act.put, List.setIfInBounds_toArray, List.set_cons_zero, List.set_cons_succ]
            refine wpAnyH_take (i := 10) (oi := ?oiz57) (v := ?vz57) ?hiz57 (by kernel_rfl) (by kernel_rfl) (by kernel_rfl) ?hQz57 ?hyz57 (by assumption) ?restz57
            case hiz57 => simp only [List.getElem?_toArray, List.getElem?_cons_zero, List.getElem?_cons_succ]; rfl
            case hQz57 => exact fun _ _ _ h => h
            case hyz57 => exact Or.inl ⟨by rfl, by intro w hSw; (try dsimp only at hSw); go_simp; with_reducible rfl⟩
            try simp only [Act.put, List.setIfInBounds_toArray, List.set_cons_zero, List.set_cons_succ]
            refine wpAnyH_take (i := 11) (oi := ?oiz58) (v := ?vz58) ?hiz58 (by kernel_rfl) (by kernel_rfl) (by kernel_rfl) ?hQz58 ?hyz58 (by assumption) ?restz58
            case hiz58 => simp only [List.getElem?_toArray, List.getElem?_cons_zero, List.getElem?_cons_succ]; rfl
            case hQz58 => exact fun _ _ _ h => h
            case hyz58 => exact Or.inl ⟨by rfl, by intro w hSw; (try dsimp only at hSw); go_simp; with_reducible rfl⟩
            try simp only [Act.put, List.setIfInBounds_toArray, List.set_cons_zero, List.set_cons_succ]
            refine wpAnyH_take (i := 12) (oi := ?oiz59) (v := ?vz59) ?hiz59 (by kernel_rfl) (by kernel_rfl) (by kernel_rfl) ?hQz59 ?hyz59 (by assumption) ?restz59
            case hiz59 => simp only [List.getElem?_toArray, List.getElem?_cons_zero, List.getElem?_cons_succ]; rfl
            case hQz59 => exact fun _ _ _ h => h
            case hyz59 => exact Or.inl ⟨by rfl, by intro w hSw; (try dsimp only at hSw); go_simp; with_reducible rfl⟩
            try simp only [Act.put, List.setIfInBounds_toArray, List.set_cons_zero, List.set_cons_succ]
            refine wpAnyH_take (i := 13) (oi := ?oiz60) (v := ?vz60) ?hiz60 (by kernel_rfl) (by kernel_rfl) (by kernel_rfl) ?hQz60 ?hyz60 (by assumption) ?restz60
            case hiz60 => simp only [List.getElem?_toArray, List.getElem?_cons_zero, List.getElem?_cons_succ]; rfl
            case hQz60 => exact fun _ _ _ h => h
            case hyz60 => exact Or.inl ⟨by rfl, by intro w hSw; (try dsimp only at hSw); go_simp; with_reducible rfl⟩
            try simp only [Act.put, List.setIfInBounds_toArray, List.set_cons_zero, List.set_cons_succ]
            refine wpAnyH_take (i := 14) (oi := ?oiz61) (v := ?vz61) ?hiz61 (by kernel_rfl) (by kernel_rfl) (by kernel_rfl) ?hQz61 ?hyz61 (by assumption) ?restz61
            case hiz61 => simp only [List.getElem?_toArray, List.getElem?_cons_zero, List.getElem?_cons_succ]; rfl
            case hQz61 => exact fun _ _ _ h => h
            case hyz61 => exact Or.inl ⟨by rfl, by intro w hSw; (try dsimp only at hSw); go_simp; with_reducible rfl⟩
            try simp only [Act.put, List.setIfInBounds_toArray, List.set_cons_zero, List.set_cons_succ]
            refine wpAnyH_take (i := 15) (oi := ?oiz62) (v := ?vz62) ?hiz62 (by kernel_rfl) (by kernel_rfl) (by kernel_rfl) ?hQz62 ?hyz62 (by assumption) ?restz62
            case hiz62 => simp only [List.getElem?_toArray, List.getElem?_cons_zero, List.getElem?_cons_succ]; rfl
            case hQz62 => exact fun _ _ _ h => h
            case hyz62 => exact Or.inl ⟨by rfl, by intro w hSw; (try dsimp only at hSw); go_simp; with_reducible rfl⟩
            try simp only [Act.put, List.setIfInBounds_toArray, List.set_cons_zero, List.set_cons_succ]
            refine wpAnyH_take (i := 16) (oi := ?oiz63) (v := ?vz63) ?hiz63 (by kernel_rfl) (by kernel_rfl) (by kernel_rfl) ?hQz63 ?hyz63 (by assumption) ?restz63
            case hiz63 => simp only [List.getElem?_toArray, List.getElem?_cons_zero, List.getElem?_cons_succ]; rfl
            case hQz63 => exact fun _ _ _ h => h
            case hyz63 => exact Or.inl ⟨by rfl, by intro w hSw; (try dsimp only at hSw); go_simp; with_reducible rfl⟩
            try simp only [Act.put, List.setIfInBounds_toArray, List.set_cons_zero, List.set_cons_succ]
            refine wpAnyH_take (i := 17) (oi := ?oiz64) (v := ?vz64) ?hiz64 (by kernel_rfl) (by kernel_rfl) (by kernel_rfl) ?hQz64 ?hyz64 (by assumption) ?restz64
            case hiz64 => simp only [List.getElem?_toArray, List.getElem?_cons_zero, List.getElem?_cons_succ]; rfl
            case hQz64 => exact fun _ _ _ h => h
            case hyz64 => exact Or.inl ⟨by rfl, by intro w hSw; (try dsimp only at hSw); go_simp; with_reducible rfl⟩
            try simp only [Act.put, List.setIfInBounds_toArray, List.set_cons_zero, List.set_cons_succ]
            refine wpAnyH_take (i := 18) (oi := ?oiz65) (v := ?vz65) ?hiz65 (by kernel_rfl) (by kernel_rfl) (by kernel_rfl) ?hQz65 ?hyz65 (by assumption) ?restz65
            case hiz65 => simp only [List.getElem?_toArray, List.getElem?_cons_zero, List.getElem?_cons_succ]; rfl
            case hQz65 => exact fun _ _ _ h => h
            case hyz65 => exact Or.inl ⟨by rfl, by intro w hSw; (try dsimp only at hSw); go_simp; with_reducible rfl⟩
            try simp only [Act.put, List.setIfInBounds_toArray, List.set_cons_zero, List.set_cons_succ]
            refine wpAnyH_take (i := 19) (oi := ?oiz66) (v := ?vz66) ?hiz66 (by kernel_rfl) (by kernel_rfl) (by kernel_rfl) ?hQz66 ?hyz66 (by assumption) ?restz66
            case hiz66 => simp only [List.getElem?_toArray, List.getElem?_cons_zero, List.getElem?_cons_succ]; rfl
            case hQz66 => exact fun _ _ _ h => h
            case hyz66 => exact Or.inl ⟨by rfl, by intro w hSw; (try dsimp only at hSw); go_simp; with_reducible rfl⟩
            try simp only [Act.put, List.setIfInBounds_toArray, List.set_cons_zero, List.set_cons_succ]
            refine wpAnyH_take (i := 20) (oi := ?oiz67) (v := ?vz67) ?hiz67 (by kernel_rfl) (by kernel_rfl) (by kernel_rfl) ?hQz67 ?hyz67 (by assumption) ?restz67
            case hiz67 => simp only [List.getElem?_toArray, List.getElem?_cons_zero, List.getElem?_cons_succ]; rfl
            case hQz67 => exact fun _ _ _ h => h
            case hyz67 => exact Or.inl ⟨by rfl, by intro w hSw; (try dsimp only at hSw); go_simp; with_reducible rfl⟩
            try simp only [Act.put, List.setIfInBounds_toArray, List.set_cons_zero, List.set_cons_succ]
            refine wpAnyH_take (i := 21) (oi := ?oiz68) (v := ?vz68) ?hiz68 (by kernel_rfl) (by kernel_rfl) (by kernel_rfl) ?hQz68 ?hyz68 (by assumption) ?restz68
            case hiz68 => simp only [List.getElem?_toArray, List.getElem?_cons_zero, List.getElem?_cons_succ]; rfl
            case hQz68 => exact fun _ _ _ h => h
            case hyz68 => exact Or.inl ⟨by rfl, by intro w hSw; (try dsimp only at hSw); go_simp; with_reducible rfl⟩
            try simp only [Act.put, List.setIfInBounds_toArray, List.set_cons_zero, List.set_cons_succ]
            refine wpAnyH_take (i := 22) (oi := ?oiz69) (v := ?vz69) ?hiz69 (by kernel_rfl) (by kernel_rfl) (by kernel_rfl) ?hQz69 ?hyz69 (by assumption) ?restz69
            case hiz69 => simp only [List.getElem?_toArray, List.getElem?_cons_zero, List.getElem?_cons_succ]; rfl
            case hQz69 => exact fun _ _ _ h => h
            case hyz69 => exact Or.inl ⟨by rfl, by intro w hSw; (try dsimp only at hSw); go_simp; with_reducible rfl⟩
            try simp only [Act.put, List.setIfInBounds_toArray, List.set_cons_zero, List.set_cons_succ]
            refine wpAnyH_done (by kernel_rfl) ?_ _
            have HX2 := Lib.hid (HX.out.trans hHeld)
            clear hHeld
            go_wp2
            go_roundw
            case rel => exact ⟨j + 2, by omega, by go_num, by rw [HSN.out, HS.out, incC, HGk.out, HBk.out, show j + 1 - 1 = j by omega, HGj.out, HLT.out]; rfl, HX2.out⟩
            case measure => simp [intOf]; omega
          | false =>
            have hl2 : Op.bytesLess L[j].1.toList L[j + 1].1.toList = false := by rw [ltB_eq]; exact hl
            have HB := Lib.hid (incs_bad L (j + 1) L.length hlt (by rw [incC, HGk.out, HBk.out, show j + 1 - 1 = j by omega, HGj.out, hl]; rfl))
            clear hl
            go_wp2_with fail
            refine wp_region_held_drew (S := fun W => Ext wr W) (by kernel_rfl) (Ext.refl _).drew (fun hHeld => ?_)
            refine wpAnyH_take (i := 0) (oi := ?oiz70) (v := ?vz70) ?hiz70 (by kernel_rfl) (by kernel_rfl) (by kernel_rfl) ?hQz70 ?hyz70 (by assumption) ?restz70
            case hiz70 => simp only [List.getElem?_toArray, List.getElem?_cons_zero, List.getElem?_cons_succ]; rfl
            case hQz70 => exact fun _ _ _ h => h
            case hyz70 => exact Or.inl ⟨by rfl, by intro w hSw; (try dsimp only at hSw); go_simp; with_reducible rfl⟩
            try simp only [Act.put, List.setIfInBounds_toArray, List.set_cons_zero, List.set_cons_succ]
            refine wpAnyH_take (i := 1) (oi := ?oiz71) (v := ?vz71) ?hiz71 (by kernel_rfl) (by kernel_rfl) (by kernel_rfl) ?hQz71 ?hyz71 (by assumption) ?restz71
            case hiz71 => simp only [List.getElem?_toArray, List.getElem?_cons_zero, List.getElem?_cons_succ]; rfl
            case hQz71 => exact fun _ _ _ h => h
            case hyz71 => exact Or.inl ⟨by rfl, by intro w hSw; (try dsimp only at hSw); go_simp; with_reducible rfl⟩
            try simp only [Act.put, List.setIfInBounds_toArray, List.set_cons_zero, List.set_cons_succ]
            refine wpAnyH_take (i := 2) (oi := ?oiz72) (v := ?vz72) ?hiz72 (by kernel_rfl) (by kernel_rfl) (by kernel_rfl) ?hQz72 ?hyz72 (by assumption) ?restz72
            case hiz72 => simp only [List.getElem?_toArray, List.getElem?_cons_zero, List.getElem?_cons_succ]; rfl
            case hQz72 => exact fun _ _ _ h => h
            case hyz72 => exact Or.inl ⟨by rfl, by intro w hSw; (try dsimp only at hSw); go_simp; with_reducible rfl⟩
            try simp only [Act.put, List.setIfInBounds_toArray, List.set_cons_zero, List.set_cons_succ]
            refine wpAnyH_ready (rs := [3]) (by kernel_rfl) (by simp) (AllReadyH.cons (o := ?oy733) ?hy733 (fun K hK => ?sy733) AllReadyH.nil)
            case hy733 => simp only [List.getElem?_toArray, List.getElem?_cons_zero, List.getElem?_cons_succ]; rfl
            go_simp
            refine (hen _ (d0 _ hHeld) (d0b _ hHeld)).mono ?_
            rintro e w' ⟨rfl, rfl⟩
            refine hK.out _ _ hHeld (fun _ => ?_)
            clear hK K
            try simp only [Act.put, List.setIfInBounds_toArray, List.set_cons_zero, List.set_cons_succ]
            refine wpAnyH_take (i := 4) (oi := ?oiz74) (v := ?vz74) ?hiz74 (by kernel_rfl) (by kernel_rfl) (by kernel_rfl) ?hQz74 ?hyz74 (by assumption) ?restz74
            case hiz74 => simp only [List.getElem?_toArray, List.getElem?_cons_zero, List.getElem?_cons_succ]; rfl
            case hQz74 => exact fun _ _ _ h => h
            case hyz74 => exact Or.inl ⟨by rfl, by intro w hSw; (try dsimp only at hSw); go_simp; with_reducible rfl⟩
            try simp only [Act.put, List.setIfInBounds_toArray, List.set_cons_zero, List.set_cons_succ]
            refine wpAnyH_take (i := 5) (oi := ?oiz75) (v := ?vz75) ?hiz75 (by kernel_rfl) (by kernel_rfl) (by kernel_rfl) ?hQz75 ?hyz75 (by assumption) ?restz75
            case hiz75 => simp only [List.getElem?_toArray, List.getElem?_cons_zero, List.getElem?_cons_succ]; rfl
            case hQz75 => exact fun _ _ _ h => h
            case hyz75 => exact Or.inl ⟨by rfl, by intro w hSw; (try dsimp only at hSw); go_simp; with_reducible rfl⟩
            try simp only [Act.put, List.setIfInBounds_toArray, List.set_cons_zero, List.set_cons_succ]
            refine wpAnyH_take (i := 6) (oi := ?oiz76) (v := ?vz76) ?hiz76 (by kernel_rfl) (by kernel_rfl) (by kernel_rfl) ?hQz76 ?hyz76 (by assumption) ?restz76
            case hiz76 => simp only [List.getElem?_toArray, List.getElem?_cons_zero, List.getElem?_cons_succ]; rfl
            case hQz76 => exact fun _ _ _ h => h
            case hyz76 => exact Or.inl ⟨by rfl, by intro w hSw; (try dsimp only at hSw); go_simp; with_reducible rfl⟩
            try simp only [Act.put, List.setIfInBounds_toArray, List.set_cons_zero, List.set_cons_succ]
            refine wpAnyH_take (i := 7) (oi := ?oiz77) (v := ?vz77) ?hiz77 (by kernel_rfl) (by kernel_rfl) (by kernel_rfl) ?hQz77 ?hyz77 (by assumption) ?restz77
            case hiz77 => simp only [List.getElem?_toArray, List.getElem?_cons_zero, List.getElem?_cons_succ]; rfl
            case hQz77 => exact fun _ _ _ h => h
            case hyz77 => exact Or.inl ⟨by rfl, by intro w hSw; (try dsimp only at hSw); go_simp; with_reducible rfl⟩
            try simp only [Act.put, List.setIfInBounds_toArray, List.set_cons_zero, List.set_cons_succ]
            refine wpAnyH_take (i := 8) (oi := ?oiz78) (v := ?vz78) ?hiz78 (by kernel_rfl) (by kernel_rfl) (by kernel_rfl) ?hQz78 ?hyz78 (by assumption) ?restz78
            case hiz78 => simp only [List.getElem?_toArray, List.getElem?_cons_zero, List.getElem?_cons_succ]; rfl
            case hQz78 => exact fun _ _ _ h => h
            case hyz78 => exact Or.inl ⟨by rfl, by intro w hSw; (try dsimp only at hSw); go_simp; with_reducible rfl⟩
            try simp only [Act.put, List.setIfInBounds_toArray, List.set_cons_zero, List.set_cons_succ]
            refine wpAnyH_take (i := 9) (oi := ?oiz79) (v := ?vz79) ?hiz79 (by kernel_rfl) (by kernel_rfl) (by kernel_rfl) ?hQz79 ?hyz79 (by assumption) ?restz79
            case hiz79 => simp only [List.getElem?_toArray, List.getElem?_cons_zero, List.getElem?_cons_succ]; rfl
            case hQz79 => exact fun _ _ _ h => h
            case hyz79 => exact Or.inl ⟨by rfl, by intro w hSw; (try dsimp only at hSw); go_simp; with_reducible rfl⟩
            try simp only [Act.put, List.setIfInBounds_toArray, List.set_cons_zero, List.set_cons_succ]
            refine wpAnyH_take (i := 10) (oi := ?oiz80) (v := ?vz80) ?hiz80 (by kernel_rfl) (by kernel_rfl) (by kernel_rfl) ?hQz80 ?hyz80 (by assumption) ?restz80
            case hiz80 => simp only [List.getElem?_toArray, List.getElem?_cons_zero, List.getElem?_cons_succ]; rfl
            case hQz80 => exact fun _ _ _ h => h
            case hyz80 => exact Or.inl ⟨by rfl, by intro w hSw; (try dsimp only at hSw); go_simp; with_reducible rfl⟩
            try simp only [Act.put, List.setIfInBounds_toArray, List.set_cons_zero, List.set_cons_succ]
            refine wpAnyH_take (i := 11) (oi := ?oiz81) (v := ?vz81) ?hiz81 (by kernel_rfl) (by kernel_rfl) (by kernel_rfl) ?hQz81 ?hyz81 (by assumption) ?restz81
            case hiz81 => simp only [List.getElem?_toArray, List.getElem?_cons_zero, List.getElem?_cons_succ]; rfl
            case hQz81 => exact fun _ _ _ h => h
            case hyz81 => exact Or.inl ⟨by rfl, by intro w hSw; (try dsimp only at hSw); go_simp; with_reducible rfl⟩
            try simp only [Act.put, List.setIfInBounds_toArray, List.set_cons_zero, List.set_cons_succ]
            refine wpAnyH_take (i := 12) (oi := ?oiz82) (v := ?vz82) ?hiz82 (by kernel_rfl) (by kernel_rfl) (by kernel_rfl) ?hQz82 ?hyz82 (by assumption) ?restz82
            case hiz82 => simp only [List.getElem?_toArray, List.getElem?_cons_zero, List.getElem?_cons_succ]; rfl
            case hQz82 => exact fun _ _ _ h => h
            case hyz82 => exact Or.inl ⟨by rfl, by intro w hSw; (try dsimp only at hSw); go_simp; with_reducible rfl⟩
            try simp only [Act.put, List.setIfInBounds_toArray, List.set_cons_zero, List.set_cons_succ]
            refine wpAnyH_take (i := 13) (oi := ?oiz83) (v := ?vz83) ?hiz83 (by kernel_rfl) (by kernel_rfl) (by kernel_rfl) ?hQz83 ?hyz83 (by assumption) ?restz83
            case hiz83 => simp only [List.getElem?_toArray, List.getElem?_cons_zero, List.getElem?_cons_succ]; rfl
            case hQz83 => exact fun _ _ _ h => h
            case hyz83 => exact Or.inl ⟨by rfl, by intro w hSw; (try dsimp only at hSw); go_simp; with_reducible rfl⟩
            try simp only [Act.put, List.setIfInBounds_toArray, List.set_cons_zero, List.set_cons_succ]
            refine wpAnyH_take (i := 14) (oi := ?oiz84) (v := ?vz84) ?hiz84 (by kernel_rfl) (by kernel_rfl) (by kernel_rfl) ?hQz84 ?hyz84 (by assumption) ?restz84
            case hiz84 => simp only [List.getElem?_toArray, List.getElem?_cons_zero, List.getElem?_cons_succ]; rfl
            case hQz84 => exact fun _ _ _ h => h
            case hyz84 => exact Or.inl ⟨by rfl, by intro w hSw; (try dsimp only at hSw); go_simp; with_reducible rfl⟩
            try simp only [Act.put, List.setIfInBounds_toArray, List.set_cons_zero, List.set_cons_succ]
            refine wpAnyH_take (i := 15) (oi := ?oiz85) (v := ?vz85) ?hiz85 (by kernel_rfl) (by kernel_rfl) (by kernel_rfl) ?hQz85 ?hyz85 (by assumption) ?restz85
            case hiz85 => simp only [List.getElem?_toArray, List.getElem?_cons_zero, List.getElem?_cons_succ]; rfl
            case hQz85 => exact fun _ _ _ h => h
            case hyz85 => exact Or.inl ⟨by rfl, by intro w hSw; (try dsimp only at hSw); go_simp; with_reducible rfl⟩
            try simp only [Act.put, List.setIfInBounds_toArray, List.set_cons_zero, List.set_cons_succ]
            refine wpAnyH_take (i := 16) (oi := ?oiz86) (v := ?vz86) ?hiz86 (by kernel_rfl) (by kernel_rfl) (by kernel_rfl) ?hQz86 ?hyz86 (by assumption) ?restz86
            case hiz86 => simp only [List.getElem?_toArray, List.getElem?_cons_zero, List.getElem?_cons_succ]; rfl
            case hQz86 => exact fun _ _ _ h => h
            case hyz86 => exact Or.inl ⟨by rfl, by intro w hSw; (try dsimp only at hSw); go_simp; with_reducible rfl⟩
            try simp only [Act.put, List.setIfInBounds_toArray, List.set_cons_zero, List.set_cons_succ]
            refine wpAnyH_take (i := 17) (oi := ?oiz87) (v := ?vz87) ?hiz87 (by kernel_rfl) (by kernel_rfl) (by kernel_rfl) ?hQz87 ?hyz87 (by assumption) ?restz87
            case hiz87 => simp only [List.getElem?_toArray, List.getElem?_cons_zero, List.getElem?_cons_succ]; rfl
            case hQz87 => exact fun _ _ _ h => h
            case hyz87 => exact Or.inl ⟨by rfl, by intro w hSw; (try dsimp only at hSw); go_simp; with_reducible rfl⟩
            try simp only [Act.put, List.setIfInBounds_toArray, List.set_cons_zero, List.set_cons_succ]
            refine wpAnyH_take (i := 18) (oi := ?oiz88) (v := ?vz88) ?hiz88 (by kernel_rfl) (by kernel_rfl) (by kernel_rfl) ?hQz88 ?hyz88 (by assumption) ?restz88
            case hiz88 => simp only [List.getElem?_toArray, List.getElem?_cons_zero, List.getElem?_cons_succ]; rfl
            case hQz88 => exact fun _ _ _ h => h
            case hyz88 => exact Or.inl ⟨by rfl, by intro w hSw; (try dsimp only at hSw); go_simp; with_reducible rfl⟩
            try simp only [Act.put, List.setIfInBounds_toArray, List.set_cons_zero, List.set_cons_succ]
            refine wpAnyH_take (i := 19) (oi := ?oiz89) (v := ?vz89) ?hiz89 (by kernel_rfl) (by kernel_rfl) (by kernel_rfl) ?hQz89 ?hyz89 (by assumption) ?restz89
            case hiz89 => simp only [List.getElem?_toArray, List.getElem?_cons_zero, List.getElem?_cons_succ]; rfl
            case hQz89 => exact fun _ _ _ h => h
            case hyz89 => exact Or.inl ⟨by rfl, by intro w hSw; (try dsimp only at hSw); go_simp; with_reducible rfl⟩
            try simp only [Act.put, List.setIfInBounds_toArray, List.set_cons_zero, List.set_cons_succ]
            refine wpAnyH_take (i := 20) (oi := ?oiz90) (v := ?vz90) ?hiz90 (by kernel_rfl) (by kernel_rfl) (by kernel_rfl) ?hQz90 ?hyz90 (by assumption) ?restz90
            case hiz90 => simp only [List.getElem?_toArray, List.getElem?_cons_zero, List.getElem?_cons_succ]; rfl
            case hQz90 => exact fun _ _ _ h => h
            case hyz90 => exact Or.inl ⟨by rfl, by intro w hSw; (try dsimp only at hSw); go_simp; with_reducible rfl⟩
            try simp only [Act.put, List.setIfInBounds_toArray, List.set_cons_zero, List.set_cons_succ]
            refine wpAnyH_take (i := 21) (oi := ?oiz91) (v := ?vz91) ?hiz91 (by kernel_rfl) (by kernel_rfl) (by kernel_rfl) ?hQz91 ?hyz91 (by assumption) ?restz91
            case hiz91 => simp only [List.getElem?_toArray, List.getElem?_cons_zero, List.getElem?_cons_succ]; rfl
            case hQz91 => exact fun _ _ _ h => h
            case hyz91 => exact Or.inl ⟨by rfl, by intro w hSw; (try dsimp only at hSw); go_simp; with_reducible rfl⟩
            try simp only [Act.put, List.setIfInBounds_toArray, List.set_cons_zero, List.set_cons_succ]
            refine wpAnyH_take (i := 22) (oi := ?oiz92) (v := ?vz92) ?hiz92 (by kernel_rfl) (by kernel_rfl) (by kernel_rfl) ?hQz92 ?hyz92 (by assumption) ?restz92
            case hiz92 => simp only [List.getElem?_toArray, List.getElem?_cons_zero, List.getElem?_cons_succ]; rfl
            case hQz92 => exact fun _ _ _ h => h
            case hyz92 => exact Or.inl ⟨by rfl, by intro w hSw; (try dsimp only at hSw); go_simp; with_reducible rfl⟩
            try simp only [Act.put, List.setIfInBounds_toArray, List.set_cons_zero, List.set_cons_succ]
            refine wpAnyH_done (by kernel_rfl) ?_ _
            have HX2 := Lib.hid (HX.out.trans hHeld)
            clear hHeld
            go_wp2
            go_ret
            exact ⟨by rw [HE.out, HB.out]; rfl, HX2.out⟩
    · obtain rfl : k = L.length := by omega
      go_wp2
      go_ret
      exact ⟨by rw [HE.out, HS.out, Bool.true_and]; exact ret_bool (by simp; omega), HX.out⟩

set_option maxHeartbeats 1000000 in
set_option maxRecDepth 100000 in
theorem validEntries_any (v : Value) (L : List En) (w : World) (S : Nat → Prop) (h : RdL tEnt w S v L) :
    Calls Try.prog 69 #[v] w fun e w' => e = .returned (.bool (okE L)) ∧ Ext w w' := by
  obtain ⟨A, cap, rfl, hcap, hlen, hrd, hok⟩ := h
  have Hrd := Lib.hid hrd
  have Hok := Lib.hid hok
  have HE := Lib.hid (okE_eq L)
  have HZ := Lib.hid (incs_zero L)
  clear hrd hok
  go_enter Try.func69, Try.ntmps69
  go_wp2
  go_loopw [7] (fun i wr => ∃ k : Nat, k ≤ L.length ∧ i = .int .i64 k ∧ incs L k = true ∧ Ext w wr) (fun i _ => L.length - (intOf i).toNat)
  case atStart => exact ⟨0, by omega, rfl, HZ.out, Ext.refl _⟩
  case round =>
    obtain ⟨k, hk, rfl, hs, hx⟩ := hrel
    have HS := Lib.hid hs
    have HX := Lib.hid hx
    clear hs hx HZ
    by_cases hlt : k < L.length
    · obtain ⟨g, o, rfl, hs0, hc⟩ := Hrd.out.elem Hok.out k hlt
      have HO := Lib.hid (show tEnt.ok L[k] from Hok.out _ (List.getElem_mem hlt))
      have HD := Lib.hid (show ∀ j u, (tEnt.enc L[k])[j]? = some u → wr.cell? ⟨g, o + k * 2 + j, none⟩ = some u from fun j u hu => HX.out.cell (hc j u hu))
      have HST := Lib.hid (show St 2 (tEnt.enc L[k]).toArray from stEnt _ _)
      have HB2 := Lib.hid (Blk.new wr 29 (tEnt.enc L[k]).toArray)
      have E2 := Lib.hid (ext_alloc wr (.cells (tEnt.enc L[k]).toArray 29))
      have HXW := Lib.hid (HX.out.trans E2.out)
      have d0 : ∀ W, Ext (wr.alloc (.cells (tEnt.enc L[k]).toArray 29)) W → W.cell? ⟨wr.heap.size, 0, none⟩ = some (.string L[k].1) := fun W hW => (HB2.out.ext hW).at_ 0 rfl
      have hen := fun W => validEntry_any L[k].1 L[k].2 HO.out.1 HO.out.2 W
      have HSN := Lib.hid (incs_succ L k)
      have HGk := Lib.hid (gE_lt hlt)
      have hi : (0 : Int) ≤ (k : Int) := by omega
      have hi2 : (k : Int) < (L.length : Int) := by omega
      clear hc
      cases hb : entB L[k].1 L[k].2 with
      | false =>
        have HB := Lib.hid (incs_bad L k L.length hlt (by rw [incC, HGk.out, hb]; rfl))
        simp only [hb] at hen
        clear hb
        go_wp2_with (first
          | (refine wpl_load ⟨g, o + k * 2, none⟩ (tEnt.enc L[k]) aggEntryI rfl _ rfl rfl (fun j u hu => by rw [Addr.add_lit]; exact HD.out j u hu) ?_)
          | (refine wpl_storeNewB aggEntryI HST.out rfl rfl _ _ rfl rfl rfl rfl ?_))
        generalize World.alloc wr (.cells (tEnt.enc L[k]).toArray 29) = w2 at HB2 E2 d0 HXW ⊢
        have R2 := Ext.refl w2
        refine wp_region_held_drew (S := fun W => Ext w2 W) (by kernel_rfl) (Ext.refl _).drew (fun hHeld => ?_)
        refine wpAnyH_take (i := 0) (oi := ?oiz93) (v := (.agg (tEnt.enc L[k]).toArray)) ?hiz93 (by kernel_rfl) (by kernel_rfl) (by kernel_rfl) ?hQz93 ?hyz93 (by assumption) ?restz93
        case hiz93 => simp only [List.getElem?_toArray, List.getElem?_cons_zero, List.getElem?_cons_succ]; rfl
        case hQz93 => exact fun _ _ _ h => h
        case hyz93 => refine yields_loadB HB2.out aggEntryI rfl ?_ _ rfl rfl; rfl
        try simp only [Act.put, List.setIfInBounds_toArray, List.set_cons_zero, List.set_cons_succ]
        refine wpAnyH_ready (rs := [1]) (by kernel_rfl) (by simp) (AllReadyH.cons (o := ?oy941) ?hy941 (fun K hK => ?sy941) AllReadyH.nil)
        case hy941 => simp only [List.getElem?_toArray, List.getElem?_cons_zero, List.getElem?_cons_succ]; rfl
        go_simp
        refine (hen _).mono ?_
        rintro e w3 ⟨rfl, hx⟩
        have hH2 := hHeld.trans hx
        refine hK.out _ _ hH2 (fun _ => ?_)
        clear hHeld hK K
        have hHeld := hH2
        clear hH2
        try simp only [Act.put, List.setIfInBounds_toArray, List.set_cons_zero, List.set_cons_succ]
        refine wpAnyH_take (i := 2) (oi := ?oiz95) (v := ?vz95) ?hiz95 (by kernel_rfl) (by kernel_rfl) (by kernel_rfl) ?hQz95 ?hyz95 (by assumption) ?restz95
        case hiz95 => simp only [List.getElem?_toArray, List.getElem?_cons_zero, List.getElem?_cons_succ]; rfl
        case hQz95 => exact fun _ _ _ h => h
        case hyz95 => exact Or.inl ⟨by rfl, by intro w hSw; (try dsimp only at hSw); go_simp; with_reducible rfl⟩
        try simp only [Act.put, List.setIfInBounds_toArray, List.set_cons_zero, List.set_cons_succ]
        refine wpAnyH_take (i := 3) (oi := ?oiz96) (v := ?vz96) ?hiz96 (by kernel_rfl) (by kernel_rfl) (by kernel_rfl) ?hQz96 ?hyz96 (by assumption) ?restz96
        case hiz96 => simp only [List.getElem?_toArray, List.getElem?_cons_zero, List.getElem?_cons_succ]; rfl
        case hQz96 => exact fun _ _ _ h => h
        case hyz96 => exact Or.inl ⟨by rfl, by intro w hSw; (try dsimp only at hSw); go_simp; with_reducible rfl⟩
        try simp only [Act.put, List.setIfInBounds_toArray, List.set_cons_zero, List.set_cons_succ]
        refine wpAnyH_take (i := 4) (oi := ?oiz97) (v := undef) ?hiz97 (by kernel_rfl) (by kernel_rfl) (by kernel_rfl) ?hQz97 ?hyz97 (by assumption) ?restz97
        case hiz97 => simp only [List.getElem?_toArray, List.getElem?_cons_zero, List.getElem?_cons_succ]; rfl
        case hQz97 => exact fun _ _ _ h => h
        case hyz97 => exact Or.inr ⟨by rfl, rfl⟩
        try simp only [Act.put, List.setIfInBounds_toArray, List.set_cons_zero, List.set_cons_succ]
        refine wpAnyH_take (i := 5) (oi := ?oiz98) (v := undef) ?hiz98 (by kernel_rfl) (by kernel_rfl) (by kernel_rfl) ?hQz98 ?hyz98 (by assumption) ?restz98
        case hiz98 => simp only [List.getElem?_toArray, List.getElem?_cons_zero, List.getElem?_cons_succ]; rfl
        case hQz98 => exact fun _ _ _ h => h
        case hyz98 => exact Or.inr ⟨by rfl, rfl⟩
        try simp only [Act.put, List.setIfInBounds_toArray, List.set_cons_zero, List.set_cons_succ]
        refine wpAnyH_take (i := 6) (oi := ?oiz99) (v := undef) ?hiz99 (by kernel_rfl) (by kernel_rfl) (by kernel_rfl) ?hQz99 ?hyz99 (by assumption) ?restz99
        case hiz99 => simp only [List.getElem?_toArray, List.getElem?_cons_zero, List.getElem?_cons_succ]; rfl
        case hQz99 => exact fun _ _ _ h => h
        case hyz99 => exact Or.inr ⟨by rfl, rfl⟩
        try simp only [Act.put, List.setIfInBounds_toArray, List.set_cons_zero, List.set_cons_succ]
        refine wpAnyH_take (i := 7) (oi := ?oiz100) (v := undef) ?hiz100 (by kernel_rfl) (by kernel_rfl) (by kernel_rfl) ?hQz100 ?hyz100 (by assumption) ?restz100
        case hiz100 => simp only [List.getElem?_toArray, List.getElem?_cons_zero, List.getElem?_cons_succ]; rfl
        case hQz100 => exact fun _ _ _ h => h
        case hyz100 => exact Or.inr ⟨by rfl, rfl⟩
        try simp only [Act.put, List.setIfInBounds_toArray, List.set_cons_zero, List.set_cons_succ]
        refine wpAnyH_take (i := 8) (oi := ?oiz101) (v := undef) ?hiz101 (by kernel_rfl) (by kernel_rfl) (by kernel_rfl) ?hQz101 ?hyz101 (by assumption) ?restz101
        case hiz101 => simp only [List.getElem?_toArray, List.getElem?_cons_zero, List.getElem?_cons_succ]; rfl
        case hQz101 => exact fun _ _ _ h => h
        case hyz101 => exact Or.inr ⟨by rfl, rfl⟩
        try simp only [Act.put, List.setIfInBounds_toArray, List.set_cons_zero, List.set_cons_succ]
        refine wpAnyH_take (i := 9) (oi := ?oiz102) (v := undef) ?hiz102 (by kernel_rfl) (by kernel_rfl) (by kernel_rfl) ?hQz102 ?hyz102 (by assumption) ?restz102
        case hiz102 => simp only [List.getElem?_toArray, List.getElem?_cons_zero, List.getElem?_cons_succ]; rfl
        case hQz102 => exact fun _ _ _ h => h
        case hyz102 => exact Or.inr ⟨by rfl, rfl⟩
        try simp only [Act.put, List.setIfInBounds_toArray, List.set_cons_zero, List.set_cons_succ]
        refine wpAnyH_take (i := 10) (oi := ?oiz103) (v := undef) ?hiz103 (by kernel_rfl) (by kernel_rfl) (by kernel_rfl) ?hQz103 ?hyz103 (by assumption) ?restz103
        case hiz103 => simp only [List.getElem?_toArray, List.getElem?_cons_zero, List.getElem?_cons_succ]; rfl
        case hQz103 => exact fun _ _ _ h => h
        case hyz103 => exact Or.inr ⟨by rfl, rfl⟩
        try simp only [Act.put, List.setIfInBounds_toArray, List.set_cons_zero, List.set_cons_succ]
        refine wpAnyH_take (i := 11) (oi := ?oiz104) (v := undef) ?hiz104 (by kernel_rfl) (by kernel_rfl) (by kernel_rfl) ?hQz104 ?hyz104 (by assumption) ?restz104
        case hiz104 => simp only [List.getElem?_toArray, List.getElem?_cons_zero, List.getElem?_cons_succ]; rfl
        case hQz104 => exact fun _ _ _ h => h
        case hyz104 => exact Or.inr ⟨by rfl, rfl⟩
        try simp only [Act.put, List.setIfInBounds_toArray, List.set_cons_zero, List.set_cons_succ]
        refine wpAnyH_take (i := 12) (oi := ?oiz105) (v := undef) ?hiz105 (by kernel_rfl) (by kernel_rfl) (by kernel_rfl) ?hQz105 ?hyz105 (by assumption) ?restz105
        case hiz105 => simp only [List.getElem?_toArray, List.getElem?_cons_zero, List.getElem?_cons_succ]; rfl
        case hQz105 => exact fun _ _ _ h => h
        case hyz105 => exact Or.inr ⟨by rfl, rfl⟩
        try simp only [Act.put, List.setIfInBounds_toArray, List.set_cons_zero, List.set_cons_succ]
        refine wpAnyH_take (i := 13) (oi := ?oiz106) (v := undef) ?hiz106 (by kernel_rfl) (by kernel_rfl) (by kernel_rfl) ?hQz106 ?hyz106 (by assumption) ?restz106
        case hiz106 => simp only [List.getElem?_toArray, List.getElem?_cons_zero, List.getElem?_cons_succ]; rfl
        case hQz106 => exact fun _ _ _ h => h
        case hyz106 => exact Or.inr ⟨by rfl, rfl⟩
        try simp only [Act.put, List.setIfInBounds_toArray, List.set_cons_zero, List.set_cons_succ]
        refine wpAnyH_take (i := 14) (oi := ?oiz107) (v := undef) ?hiz107 (by kernel_rfl) (by kernel_rfl) (by kernel_rfl) ?hQz107 ?hyz107 (by assumption) ?restz107
        case hiz107 => simp only [List.getElem?_toArray, List.getElem?_cons_zero, List.getElem?_cons_succ]; rfl
        case hQz107 => exact fun _ _ _ h => h
        case hyz107 => exact Or.inr ⟨by rfl, rfl⟩
        try simp only [Act.put, List.setIfInBounds_toArray, List.set_cons_zero, List.set_cons_succ]
        refine wpAnyH_take (i := 15) (oi := ?oiz108) (v := undef) ?hiz108 (by kernel_rfl) (by kernel_rfl) (by kernel_rfl) ?hQz108 ?hyz108 (by assumption) ?restz108
        case hiz108 => simp only [List.getElem?_toArray, List.getElem?_cons_zero, List.getElem?_cons_succ]; rfl
        case hQz108 => exact fun _ _ _ h => h
        case hyz108 => exact Or.inr ⟨by rfl, rfl⟩
        try simp only [Act.put, List.setIfInBounds_toArray, List.set_cons_zero, List.set_cons_succ]
        refine wpAnyH_take (i := 16) (oi := ?oiz109) (v := undef) ?hiz109 (by kernel_rfl) (by kernel_rfl) (by kernel_rfl) ?hQz109 ?hyz109 (by assumption) ?restz109
        case hiz109 => simp only [List.getElem?_toArray, List.getElem?_cons_zero, List.getElem?_cons_succ]; rfl
        case hQz109 => exact fun _ _ _ h => h
        case hyz109 => exact Or.inr ⟨by rfl, rfl⟩
        try simp only [Act.put, List.setIfInBounds_toArray, List.set_cons_zero, List.set_cons_succ]
        refine wpAnyH_take (i := 17) (oi := ?oiz110) (v := ?vz110) ?hiz110 (by kernel_rfl) (by kernel_rfl) (by kernel_rfl) ?hQz110 ?hyz110 (by assumption) ?restz110
        case hiz110 => simp only [List.getElem?_toArray, List.getElem?_cons_zero, List.getElem?_cons_succ]; rfl
        case hQz110 => exact fun _ _ _ h => h
        case hyz110 => exact Or.inl ⟨by rfl, by intro w hSw; (try dsimp only at hSw); go_simp; with_reducible rfl⟩
        try simp only [Act.put, List.setIfInBounds_toArray, List.set_cons_zero, List.set_cons_succ]
        refine wpAnyH_done (by kernel_rfl) ?_ _
        have HX2 := Lib.hid (HXW.out.trans hHeld)
        clear hHeld
        go_wp2
        go_ret
        exact ⟨by rw [HE.out, HB.out]; rfl, HX2.out⟩
      | true =>
        have HBk := Lib.hid hb
        simp only [hb] at hen
        clear hb
        rcases k with _ | j
        · simp only [Int.cast_ofNat_Int] at hi2 ⊢
          go_wp2_with (first
            | (refine wpl_load ⟨g, o + 0 * 2, none⟩ (tEnt.enc L[0]) aggEntryI rfl _ rfl rfl (fun j u hu => by rw [Addr.add_lit]; exact HD.out j u hu) ?_)
            | (refine wpl_storeNewB aggEntryI HST.out rfl rfl _ _ rfl rfl rfl rfl ?_))
          generalize World.alloc wr (.cells (tEnt.enc L[0]).toArray 29) = w2 at HB2 E2 d0 HXW ⊢
          have R2 := Ext.refl w2
          refine wp_region_held_drew (S := fun W => Ext w2 W) (by kernel_rfl) (Ext.refl _).drew (fun hHeld => ?_)
          refine wpAnyH_take (i := 0) (oi := ?oiz111) (v := (.agg (tEnt.enc L[0]).toArray)) ?hiz111 (by kernel_rfl) (by kernel_rfl) (by kernel_rfl) ?hQz111 ?hyz111 (by assumption) ?restz111
          case hiz111 => simp only [List.getElem?_toArray, List.getElem?_cons_zero, List.getElem?_cons_succ]; rfl
          case hQz111 => exact fun _ _ _ h => h
          case hyz111 => refine yields_loadB HB2.out aggEntryI rfl ?_ _ rfl rfl; rfl
          try simp only [Act.put, List.setIfInBounds_toArray, List.set_cons_zero, List.set_cons_succ]
          refine wpAnyH_ready (rs := [1]) (by kernel_rfl) (by simp) (AllReadyH.cons (o := ?oy1121) ?hy1121 (fun K hK => ?sy1121) AllReadyH.nil)
          case hy1121 => simp only [List.getElem?_toArray, List.getElem?_cons_zero, List.getElem?_cons_succ]; rfl
          go_simp
          refine (hen _).mono ?_
          rintro e w3 ⟨rfl, hx⟩
          have hH2 := hHeld.trans hx
          refine hK.out _ _ hH2 (fun _ => ?_)
          clear hHeld hK K
          have hHeld := hH2
          clear hH2
          try simp only [Act.put, List.setIfInBounds_toArray, List.set_cons_zero, List.set_cons_succ]
          refine wpAnyH_take (i := 2) (oi := ?oiz113) (v := ?vz113) ?hiz113 (by kernel_rfl) (by kernel_rfl) (by kernel_rfl) ?hQz113 ?hyz113 (by assumption) ?restz113
          case hiz113 => simp only [List.getElem?_toArray, List.getElem?_cons_zero, List.getElem?_cons_succ]; rfl
          case hQz113 => exact fun _ _ _ h => h
          case hyz113 => exact Or.inl ⟨by rfl, by intro w hSw; (try dsimp only at hSw); go_simp; with_reducible rfl⟩
          try simp only [Act.put, List.setIfInBounds_toArray, List.set_cons_zero, List.set_cons_succ]
          refine wpAnyH_take (i := 3) (oi := ?oiz114) (v := ?vz114) ?hiz114 (by kernel_rfl) (by kernel_rfl) (by kernel_rfl) ?hQz114 ?hyz114 (by assumption) ?restz114
          case hiz114 => simp only [List.getElem?_toArray, List.getElem?_cons_zero, List.getElem?_cons_succ]; rfl
          case hQz114 => exact fun _ _ _ h => h
          case hyz114 => exact Or.inl ⟨by rfl, by intro w hSw; (try dsimp only at hSw); go_simp; with_reducible rfl⟩
          try simp only [Act.put, List.setIfInBounds_toArray, List.set_cons_zero, List.set_cons_succ]
          refine wpAnyH_take (i := 4) (oi := ?oiz115) (v := ?vz115) ?hiz115 (by kernel_rfl) (by kernel_rfl) (by kernel_rfl) ?hQz115 ?hyz115 (by assumption) ?restz115
          case hiz115 => simp only [List.getElem?_toArray, List.getElem?_cons_zero, List.getElem?_cons_succ]; rfl
          case hQz115 => exact fun _ _ _ h => h
          case hyz115 => exact Or.inl ⟨by rfl, by intro w hSw; (try dsimp only at hSw); go_simp; with_reducible rfl⟩
          try simp only [Act.put, List.setIfInBounds_toArray, List.set_cons_zero, List.set_cons_succ]
          refine wpAnyH_take (i := 5) (oi := ?oiz116) (v := ?vz116) ?hiz116 (by kernel_rfl) (by kernel_rfl) (by kernel_rfl) ?hQz116 ?hyz116 (by assumption) ?restz116
          case hiz116 => simp only [List.getElem?_toArray, List.getElem?_cons_zero, List.getElem?_cons_succ]; rfl
          case hQz116 => exact fun _ _ _ h => h
          case hyz116 => exact Or.inl ⟨by rfl, by intro w hSw; (try dsimp only at hSw); go_simp; with_reducible rfl⟩
          try simp only [Act.put, List.setIfInBounds_toArray, List.set_cons_zero, List.set_cons_succ]
          refine wpAnyH_take (i := 6) (oi := ?oiz117) (v := ?vz117) ?hiz117 (by kernel_rfl) (by kernel_rfl) (by kernel_rfl) ?hQz117 ?hyz117 (by assumption) ?restz117
          case hiz117 => simp only [List.getElem?_toArray, List.getElem?_cons_zero, List.getElem?_cons_succ]; rfl
          case hQz117 => exact fun _ _ _ h => h
          case hyz117 => exact Or.inl ⟨by rfl, by intro w hSw; (try dsimp only at hSw); go_simp; with_reducible rfl⟩
          try simp only [Act.put, List.setIfInBounds_toArray, List.set_cons_zero, List.set_cons_succ]
          refine wpAnyH_take (i := 7) (oi := ?oiz118) (v := undef) ?hiz118 (by kernel_rfl) (by kernel_rfl) (by kernel_rfl) ?hQz118 ?hyz118 (by assumption) ?restz118
          case hiz118 => simp only [List.getElem?_toArray, List.getElem?_cons_zero, List.getElem?_cons_succ]; rfl
          case hQz118 => exact fun _ _ _ h => h
          case hyz118 => exact Or.inr ⟨by rfl, rfl⟩
          try simp only [Act.put, List.setIfInBounds_toArray, List.set_cons_zero, List.set_cons_succ]
          refine wpAnyH_take (i := 8) (oi := ?oiz119) (v := undef) ?hiz119 (by kernel_rfl) (by kernel_rfl) (by kernel_rfl) ?hQz119 ?hyz119 (by assumption) ?restz119
          case hiz119 => simp only [List.getElem?_toArray, List.getElem?_cons_zero, List.getElem?_cons_succ]; rfl
          case hQz119 => exact fun _ _ _ h => h
          case hyz119 => exact Or.inr ⟨by rfl, rfl⟩
          try simp only [Act.put, List.setIfInBounds_toArray, List.set_cons_zero, List.set_cons_succ]
          refine wpAnyH_take (i := 9) (oi := ?oiz120) (v := undef) ?hiz120 (by kernel_rfl) (by kernel_rfl) (by kernel_rfl) ?hQz120 ?hyz120 (by assumption) ?restz120
          case hiz120 => simp only [List.getElem?_toArray, List.getElem?_cons_zero, List.getElem?_cons_succ]; rfl
          case hQz120 => exact fun _ _ _ h => h
          case hyz120 => exact Or.inr ⟨by rfl, rfl⟩
          try simp only [Act.put, List.setIfInBounds_toArray, List.set_cons_zero, List.set_cons_succ]
          refine wpAnyH_take (i := 10) (oi := ?oiz121) (v := undef) ?hiz121 (by kernel_rfl) (by kernel_rfl) (by kernel_rfl) ?hQz121 ?hyz121 (by assumption) ?restz121
          case hiz121 => simp only [List.getElem?_toArray, List.getElem?_cons_zero, List.getElem?_cons_succ]; rfl
          case hQz121 => exact fun _ _ _ h => h
          case hyz121 => exact Or.inr ⟨by rfl, rfl⟩
          try simp only [Act.put, List.setIfInBounds_toArray, List.set_cons_zero, List.set_cons_succ]
          refine wpAnyH_take (i := 11) (oi := ?oiz122) (v := undef) ?hiz122 (by kernel_rfl) (by kernel_rfl) (by kernel_rfl) ?hQz122 ?hyz122 (by assumption) ?restz122
          case hiz122 => simp only [List.getElem?_toArray, List.getElem?_cons_zero, List.getElem?_cons_succ]; rfl
          case hQz122 => exact fun _ _ _ h => h
          case hyz122 => exact Or.inr ⟨by rfl, rfl⟩
          try simp only [Act.put, List.setIfInBounds_toArray, List.set_cons_zero, List.set_cons_succ]
          refine wpAnyH_take (i := 12) (oi := ?oiz123) (v := undef) ?hiz123 (by kernel_rfl) (by kernel_rfl) (by kernel_rfl) ?hQz123 ?hyz123 (by assumption) ?restz123
          case hiz123 => simp only [List.getElem?_toArray, List.getElem?_cons_zero, List.getElem?_cons_succ]; rfl
          case hQz123 => exact fun _ _ _ h => h
          case hyz123 => exact Or.inr ⟨by rfl, rfl⟩
          try simp only [Act.put, List.setIfInBounds_toArray, List.set_cons_zero, List.set_cons_succ]
          refine wpAnyH_take (i := 13) (oi := ?oiz124) (v := undef) ?hiz124 (by kernel_rfl) (by kernel_rfl) (by kernel_rfl) ?hQz124 ?hyz124 (by assumption) ?restz124
          case hiz124 => simp only [List.getElem?_toArray, List.getElem?_cons_zero, List.getElem?_cons_succ]; rfl
          case hQz124 => exact fun _ _ _ h => h
          case hyz124 => exact Or.inr ⟨by rfl, rfl⟩
          try simp only [Act.put, List.setIfInBounds_toArray, List.set_cons_zero, List.set_cons_succ]
          refine wpAnyH_take (i := 14) (oi := ?oiz125) (v := undef) ?hiz125 (by kernel_rfl) (by kernel_rfl) (by kernel_rfl) ?hQz125 ?hyz125 (by assumption) ?restz125
          case hiz125 => simp only [List.getElem?_toArray, List.getElem?_cons_zero, List.getElem?_cons_succ]; rfl
          case hQz125 => exact fun _ _ _ h => h
          case hyz125 => exact Or.inr ⟨by rfl, rfl⟩
          try simp only [Act.put, List.setIfInBounds_toArray, List.set_cons_zero, List.set_cons_succ]
          refine wpAnyH_take (i := 15) (oi := ?oiz126) (v := undef) ?hiz126 (by kernel_rfl) (by kernel_rfl) (by kernel_rfl) ?hQz126 ?hyz126 (by assumption) ?restz126
          case hiz126 => simp only [List.getElem?_toArray, List.getElem?_cons_zero, List.getElem?_cons_succ]; rfl
          case hQz126 => exact fun _ _ _ h => h
          case hyz126 => exact Or.inr ⟨by rfl, rfl⟩
          try simp only [Act.put, List.setIfInBounds_toArray, List.set_cons_zero, List.set_cons_succ]
          refine wpAnyH_take (i := 16) (oi := ?oiz127) (v := ?vz127) ?hiz127 (by kernel_rfl) (by kernel_rfl) (by kernel_rfl) ?hQz127 ?hyz127 (by assumption) ?restz127
          case hiz127 => simp only [List.getElem?_toArray, List.getElem?_cons_zero, List.getElem?_cons_succ]; rfl
          case hQz127 => exact fun _ _ _ h => h
          case hyz127 => exact Or.inl ⟨by rfl, by intro w hSw; (try dsimp only at hSw); go_simp; with_reducible rfl⟩
          try simp only [Act.put, List.setIfInBounds_toArray, List.set_cons_zero, List.set_cons_succ]
          refine wpAnyH_take (i := 17) (oi := ?oiz128) (v := ?vz128) ?hiz128 (by kernel_rfl) (by kernel_rfl) (by kernel_rfl) ?hQz128 ?hyz128 (by assumption) ?restz128
          case hiz128 => simp only [List.getElem?_toArray, List.getElem?_cons_zero, List.getElem?_cons_succ]; rfl
          case hQz128 => exact fun _ _ _ h => h
          case hyz128 => exact Or.inl ⟨by rfl, by intro w hSw; (try dsimp only at hSw); go_simp; with_reducible rfl⟩
          try simp only [Act.put, List.setIfInBounds_toArray, List.set_cons_zero, List.set_cons_succ]
          refine wpAnyH_done (by kernel_rfl) ?_ _
          have HX2 := Lib.hid (HXW.out.trans hHeld)
          clear hHeld
          go_wp2
          go_roundw
          case rel => exact ⟨1, by omega, rfl, by rw [HSN.out, HS.out, incC, HGk.out, HBk.out]; rfl, HX2.out⟩
          case measure => simp [intOf]; omega
        · obtain ⟨g2, o2, e, hs1, hc⟩ := Hrd.out.elem Hok.out j (by omega)
          injection e with e
          injection e with e1 e2
          subst e1
          subst e2
          have d1' : ∀ W, Ext (wr.alloc (.cells (tEnt.enc L[j + 1]).toArray 29)) W → W.cell? ⟨g, o + j * 2, none⟩ = some (.string L[j].1) := fun W hW => (HXW.out.trans hW).cell (hc 0 _ rfl)
          have D1 := Lib.hid d1'
          have HGj := Lib.hid (gE_lt (L := L) (i := j) (by omega))
          have W1 : IntKind.i64.wrap (j : Int) = j := IntWalk.i64_in _ (by omega)
          have hj0 : (0 : Int) ≤ (j : Int) := by omega
          have hj1 : (j : Int) < (L.length : Int) := by omega
          have hj2 : (0 : Int) ≤ (j : Int) + 1 := by omega
          have hj3 : (0 : Int) < (j : Int) + 1 := by omega
          have hj4 : (j : Int) + 1 < (L.length : Int) := by omega
          clear hc d1'
          cases hl : ltB L[j].1 L[j + 1].1 with
          | true =>
            have hl2 : Op.bytesLess L[j + 1].1.toList L[j].1.toList = false := by rw [ltB_eq]; exact ltB_asymm hl
            have hl3 : (L[j + 1].1.toList == L[j].1.toList) = false := by
              rw [beq_eq_false_iff_ne]
              exact fun e => ltB_ne hl (toList_inj e).symm
            have HLT := Lib.hid hl
            clear hl
            go_wp2_with (first
              | (refine wpl_load ⟨g, o + (j + 1) * 2, none⟩ (tEnt.enc L[j + 1]) aggEntryI rfl _ rfl rfl (fun j u hu => by rw [Addr.add_lit]; exact HD.out j u hu) ?_)
              | (refine wpl_storeNewB aggEntryI HST.out rfl rfl _ _ rfl rfl rfl rfl ?_))
            generalize World.alloc wr (.cells (tEnt.enc L[j + 1]).toArray 29) = w2 at HB2 E2 d0 HXW D1 ⊢
            have R2 := Ext.refl w2
            have d1 := D1.out
            refine wp_region_held_drew (S := fun W => Ext w2 W) (by kernel_rfl) (Ext.refl _).drew (fun hHeld => ?_)
            refine wpAnyH_take (i := 0) (oi := ?oiz129) (v := (.agg (tEnt.enc L[j + 1]).toArray)) ?hiz129 (by kernel_rfl) (by kernel_rfl) (by kernel_rfl) ?hQz129 ?hyz129 (by assumption) ?restz129
            case hiz129 => simp only [List.getElem?_toArray, List.getElem?_cons_zero, List.getElem?_cons_succ]; rfl
            case hQz129 => exact fun _ _ _ h => h
            case hyz129 => refine yields_loadB HB2.out aggEntryI rfl ?_ _ rfl rfl; rfl
            try simp only [Act.put, List.setIfInBounds_toArray, List.set_cons_zero, List.set_cons_succ]
            refine wpAnyH_ready (rs := [1]) (by kernel_rfl) (by simp) (AllReadyH.cons (o := ?oy1301) ?hy1301 (fun K hK => ?sy1301) AllReadyH.nil)
            case hy1301 => simp only [List.getElem?_toArray, List.getElem?_cons_zero, List.getElem?_cons_succ]; rfl
            go_simp
            refine (hen _).mono ?_
            rintro e w3 ⟨rfl, hx⟩
            have hH2 := hHeld.trans hx
            refine hK.out _ _ hH2 (fun _ => ?_)
            clear hHeld hK K
            have hHeld := hH2
            clear hH2
            try simp only [Act.put, List.setIfInBounds_toArray, List.set_cons_zero, List.set_cons_succ]
            refine wpAnyH_take (i := 2) (oi := ?oiz131) (v := ?vz131) ?hiz131 (by kernel_rfl) (by kernel_rfl) (by kernel_rfl) ?hQz131 ?hyz131 (by assumption) ?restz131
            case hiz131 => simp only [List.getElem?_toArray, List.getElem?_cons_zero, List.getElem?_cons_succ]; rfl
            case hQz131 => exact fun _ _ _ h => h
            case hyz131 => exact Or.inl ⟨by rfl, by intro w hSw; (try dsimp only at hSw); go_simp; with_reducible rfl⟩
            try simp only [Act.put, List.setIfInBounds_toArray, List.set_cons_zero, List.set_cons_succ]
            refine wpAnyH_take (i := 3) (oi := ?oiz132) (v := ?vz132) ?hiz132 (by kernel_rfl) (by kernel_rfl) (by kernel_rfl) ?hQz132 ?hyz132 (by assumption) ?restz132
            case hiz132 => simp only [List.getElem?_toArray, List.getElem?_cons_zero, List.getElem?_cons_succ]; rfl
            case hQz132 => exact fun _ _ _ h => h
            case hyz132 => exact Or.inl ⟨by rfl, by intro w hSw; (try dsimp only at hSw); go_simp; with_reducible rfl⟩
            try simp only [Act.put, List.setIfInBounds_toArray, List.set_cons_zero, List.set_cons_succ]
            refine wpAnyH_take (i := 4) (oi := ?oiz133) (v := ?vz133) ?hiz133 (by kernel_rfl) (by kernel_rfl) (by kernel_rfl) ?hQz133 ?hyz133 (by assumption) ?restz133
            case hiz133 => simp only [List.getElem?_toArray, List.getElem?_cons_zero, List.getElem?_cons_succ]; rfl
            case hQz133 => exact fun _ _ _ h => h
            case hyz133 => exact Or.inl ⟨by rfl, by intro w hSw; (try dsimp only at hSw); go_simp; with_reducible rfl⟩
            try simp only [Act.put, List.setIfInBounds_toArray, List.set_cons_zero, List.set_cons_succ]
            refine wpAnyH_take (i := 5) (oi := ?oiz134) (v := ?vz134) ?hiz134 (by kernel_rfl) (by kernel_rfl) (by kernel_rfl) ?hQz134 ?hyz134 (by assumption) ?restz134
            case hiz134 => simp only [List.getElem?_toArray, List.getElem?_cons_zero, List.getElem?_cons_succ]; rfl
            case hQz134 => exact fun _ _ _ h => h
            case hyz134 => exact Or.inl ⟨by rfl, by intro w hSw; (try dsimp only at hSw); go_simp; with_reducible rfl⟩
            try simp only [Act.put, List.setIfInBounds_toArray, List.set_cons_zero, List.set_cons_succ]
            refine wpAnyH_take (i := 6) (oi := ?oiz135) (v := ?vz135) ?hiz135 (by kernel_rfl) (by kernel_rfl) (by kernel_rfl) ?hQz135 ?hyz135 (by assumption) ?restz135
            case hiz135 => simp only [List.getElem?_toArray, List.getElem?_cons_zero, List.getElem?_cons_succ]; rfl
            case hQz135 => exact fun _ _ _ h => h
            case hyz135 => exact Or.inl ⟨by rfl, by intro w hSw; (try dsimp only at hSw); go_simp; with_reducible rfl⟩
            try simp only [Act.put, List.setIfInBounds_toArray, List.set_cons_zero, List.set_cons_succ]
            refine wpAnyH_take (i := 7) (oi := ?oiz136) (v := ?vz136) ?hiz136 (by kernel_rfl) (by kernel_rfl) (by kernel_rfl) ?hQz136 ?hyz136 (by assumption) ?restz136
            case hiz136 => simp only [List.getElem?_toArray, List.getElem?_cons_zero, List.getElem?_cons_succ]; rfl
            case hQz136 => exact fun _ _ _ h => h
            case hyz136 => exact Or.inl ⟨by rfl, by intro w hSw; (try dsimp only at hSw); go_simp; with_reducible rfl⟩
            try simp only [Act.put, List.setIfInBounds_toArray, List.set_cons_zero, List.set_cons_succ]
            refine wpAnyH_take (i := 8) (oi := ?oiz137) (v := ?vz137) ?hiz137 (by kernel_rfl) (by kernel_rfl) (by kernel_rfl) ?hQz137 ?hyz137 (by assumption) ?restz137
            case hiz137 => simp only [List.getElem?_toArray, List.getElem?_cons_zero, List.getElem?_cons_succ]; rfl
            case hQz137 => exact fun _ _ _ h => h
            case hyz137 => exact Or.inl ⟨by rfl, by intro w hSw; (try dsimp only at hSw); go_simp; with_reducible rfl⟩
            try simp only [Act.put, List.setIfInBounds_toArray, List.set_cons_zero, List.set_cons_succ]
            refine wpAnyH_take (i := 9) (oi := ?oiz138) (v := ?vz138) ?hiz138 (by kernel_rfl) (by kernel_rfl) (by kernel_rfl) ?hQz138 ?hyz138 (by assumption) ?restz138
            case hiz138 => simp only [List.getElem?_toArray, List.getElem?_cons_zero, List.getElem?_cons_succ]; rfl
            case hQz138 => exact fun _ _ _ h => h
            case hyz138 => exact Or.inl ⟨by rfl, by intro w hSw; (try dsimp only at hSw); go_simp; with_reducible rfl⟩
            try simp only [Act.put, List.setIfInBounds_toArray, List.set_cons_zero, List.set_cons_succ]
            refine wpAnyH_take (i := 10) (oi := ?oiz139) (v := ?vz139) ?hiz139 (by kernel_rfl) (by kernel_rfl) (by kernel_rfl) ?hQz139 ?hyz139 (by assumption) ?restz139
            case hiz139 => simp only [List.getElem?_toArray, List.getElem?_cons_zero, List.getElem?_cons_succ]; rfl
            case hQz139 => exact fun _ _ _ h => h
            case hyz139 => exact Or.inl ⟨by rfl, by intro w hSw; (try dsimp only at hSw); go_simp; with_reducible rfl⟩
            try simp only [Act.put, List.setIfInBounds_toArray, List.set_cons_zero, List.set_cons_succ]
            refine wpAnyH_take (i := 11) (oi := ?oiz140) (v := ?vz140) ?hiz140 (by kernel_rfl) (by kernel_rfl) (by kernel_rfl) ?hQz140 ?hyz140 (by assumption) ?restz140
            case hiz140 => simp only [List.getElem?_toArray, List.getElem?_cons_zero, List.getElem?_cons_succ]; rfl
            case hQz140 => exact fun _ _ _ h => h
            case hyz140 => exact Or.inl ⟨by rfl, by intro w hSw; (try dsimp only at hSw); go_simp; with_reducible rfl⟩
            try simp only [Act.put, List.setIfInBounds_toArray, List.set_cons_zero, List.set_cons_succ]
            refine wpAnyH_take (i := 12) (oi := ?oiz141) (v := ?vz141) ?hiz141 (by kernel_rfl) (by kernel_rfl) (by kernel_rfl) ?hQz141 ?hyz141 (by assumption) ?restz141
            case hiz141 => simp only [List.getElem?_toArray, List.getElem?_cons_zero, List.getElem?_cons_succ]; rfl
            case hQz141 => exact fun _ _ _ h => h
            case hyz141 => exact Or.inl ⟨by rfl, by intro w hSw; (try dsimp only at hSw); go_simp; with_reducible rfl⟩
            try simp only [Act.put, List.setIfInBounds_toArray, List.set_cons_zero, List.set_cons_succ]
            refine wpAnyH_take (i := 13) (oi := ?oiz142) (v := ?vz142) ?hiz142 (by kernel_rfl) (by kernel_rfl) (by kernel_rfl) ?hQz142 ?hyz142 (by assumption) ?restz142
            case hiz142 => simp only [List.getElem?_toArray, List.getElem?_cons_zero, List.getElem?_cons_succ]; rfl
            case hQz142 => exact fun _ _ _ h => h
            case hyz142 => exact Or.inl ⟨by rfl, by intro w hSw; (try dsimp only at hSw); go_simp; with_reducible rfl⟩
            try simp only [Act.put, List.setIfInBounds_toArray, List.set_cons_zero, List.set_cons_succ]
            refine wpAnyH_take (i := 14) (oi := ?oiz143) (v := ?vz143) ?hiz143 (by kernel_rfl) (by kernel_rfl) (by kernel_rfl) ?hQz143 ?hyz143 (by assumption) ?restz143
            case hiz143 => simp only [List.getElem?_toArray, List.getElem?_cons_zero, List.getElem?_cons_succ]; rfl
            case hQz143 => exact fun _ _ _ h => h
            case hyz143 => exact Or.inl ⟨by rfl, by intro w hSw; (try dsimp only at hSw); go_simp; with_reducible rfl⟩
            try simp only [Act.put, List.setIfInBounds_toArray, List.set_cons_zero, List.set_cons_succ]
            refine wpAnyH_take (i := 15) (oi := ?oiz144) (v := ?vz144) ?hiz144 (by kernel_rfl) (by kernel_rfl) (by kernel_rfl) ?hQz144 ?hyz144 (by assumption) ?restz144
            case hiz144 => simp only [List.getElem?_toArray, List.getElem?_cons_zero, List.getElem?_cons_succ]; rfl
            case hQz144 => exact fun _ _ _ h => h
            case hyz144 => exact Or.inl ⟨by rfl, by intro w hSw; (try dsimp only at hSw); go_simp; with_reducible rfl⟩
            try simp only [Act.put, List.setIfInBounds_toArray, List.set_cons_zero, List.set_cons_succ]
            refine wpAnyH_take (i := 16) (oi := ?oiz145) (v := ?vz145) ?hiz145 (by kernel_rfl) (by kernel_rfl) (by kernel_rfl) ?hQz145 ?hyz145 (by assumption) ?restz145
            case hiz145 => simp only [List.getElem?_toArray, List.getElem?_cons_zero, List.getElem?_cons_succ]; rfl
            case hQz145 => exact fun _ _ _ h => h
            case hyz145 => exact Or.inl ⟨by rfl, by intro w hSw; (try dsimp only at hSw); go_simp; with_reducible rfl⟩
            try simp only [Act.put, List.setIfInBounds_toArray, List.set_cons_zero, List.set_cons_succ]
            refine wpAnyH_take (i := 17) (oi := ?oiz146) (v := ?vz146) ?hiz146 (by kernel_rfl) (by kernel_rfl) (by kernel_rfl) ?hQz146 ?hyz146 (by assumption) ?restz146
            case hiz146 => simp only [List.getElem?_toArray, List.getElem?_cons_zero, List.getElem?_cons_succ]; rfl
            case hQz146 => exact fun _ _ _ h => h
            case hyz146 => exact Or.inl ⟨by rfl, by intro w hSw; (try dsimp only at hSw); go_simp; with_reducible rfl⟩
            try simp only [Act.put, List.setIfInBounds_toArray, List.set_cons_zero, List.set_cons_succ]
            refine wpAnyH_done (by kernel_rfl) ?_ _
            have HX2 := Lib.hid (HXW.out.trans hHeld)
            clear hHeld
            go_wp2
            go_roundw
            case rel => exact ⟨j + 2, by omega, by go_num, by rw [HSN.out, HS.out, incC, HGk.out, HBk.out, show j + 1 - 1 = j by omega, HGj.out, HLT.out]; rfl, HX2.out⟩
            case measure => simp [intOf]; omega
          | false =>
            have HB := Lib.hid (incs_bad L (j + 1) L.length hlt (by rw [incC, HGk.out, HBk.out, show j + 1 - 1 = j by omega, HGj.out, hl]; rfl))
            have hl2 : (Op.bytesLess L[j + 1].1.toList L[j].1.toList || (L[j + 1].1.toList == L[j].1.toList)) = true := by
              rw [ltB_eq]
              cases hm : ltB L[j + 1].1 L[j].1 with
              | true => rfl
              | false => rw [ltB_total hl hm]; simp
            clear hl
            go_wp2_with (first
              | (refine wpl_load ⟨g, o + (j + 1) * 2, none⟩ (tEnt.enc L[j + 1]) aggEntryI rfl _ rfl rfl (fun j u hu => by rw [Addr.add_lit]; exact HD.out j u hu) ?_)
              | (refine wpl_storeNewB aggEntryI HST.out rfl rfl _ _ rfl rfl rfl rfl ?_))
            generalize World.alloc wr (.cells (tEnt.enc L[j + 1]).toArray 29) = w2 at HB2 E2 d0 HXW D1 ⊢
            have R2 := Ext.refl w2
            have d1 := D1.out
            refine wp_region_held_drew (S := fun W => Ext w2 W) (by kernel_rfl) (Ext.refl _).drew (fun hHeld => ?_)
            refine wpAnyH_take (i := 0) (oi := ?oiz147) (v := (.agg (tEnt.enc L[j + 1]).toArray)) ?hiz147 (by kernel_rfl) (by kernel_rfl) (by kernel_rfl) ?hQz147 ?hyz147 (by assumption) ?restz147
            case hiz147 => simp only [List.getElem?_toArray, List.getElem?_cons_zero, List.getElem?_cons_succ]; rfl
            case hQz147 => exact fun _ _ _ h => h
            case hyz147 => refine yields_loadB HB2.out aggEntryI rfl ?_ _ rfl rfl; rfl
            try simp only [Act.put, List.setIfInBounds_toArray, List.set_cons_zero, List.set_cons_succ]
            refine wpAnyH_ready (rs := [1]) (by kernel_rfl) (by simp) (AllReadyH.cons (o := ?oy1481) ?hy1481 (fun K hK => ?sy1481) AllReadyH.nil)
            case hy1481 => simp only [List.getElem?_toArray, List.getElem?_cons_zero, List.getElem?_cons_succ]; rfl
            go_simp
            refine (hen _).mono ?_
            rintro e w3 ⟨rfl, hx⟩
            have hH2 := hHeld.trans hx
            refine hK.out _ _ hH2 (fun _ => ?_)
            clear hHeld hK K
            have hHeld := hH2
            clear hH2
            try simp only [Act.put, List.setIfInBounds_toArray, List.set_cons_zero, List.set_cons_succ]
            refine wpAnyH_take (i := 2) (oi := ?oiz149) (v := ?vz149) ?hiz149 (by kernel_rfl) (by kernel_rfl) (by kernel_rfl) ?hQz149 ?hyz149 (by assumption) ?restz149
            case hiz149 => simp only [List.getElem?_toArray, List.getElem?_cons_zero, List.getElem?_cons_succ]; rfl
            case hQz149 => exact fun _ _ _ h => h
            case hyz149 => exact Or.inl ⟨by rfl, by intro w hSw; (try dsimp only at hSw); go_simp; with_reducible rfl⟩
            try simp only [Act.put, List.setIfInBounds_toArray, List.set_cons_zero, List.set_cons_succ]
            refine wpAnyH_take (i := 3) (oi := ?oiz150) (v := ?vz150) ?hiz150 (by kernel_rfl) (by kernel_rfl) (by kernel_rfl) ?hQz150 ?hyz150 (by assumption) ?restz150
            case hiz150 => simp only [List.getElem?_toArray, List.getElem?_cons_zero, List.getElem?_cons_succ]; rfl
            case hQz150 => exact fun _ _ _ h => h
            case hyz150 => exact Or.inl ⟨by rfl, by intro w hSw; (try dsimp only at hSw); go_simp; with_reducible rfl⟩
            try simp only [Act.put, List.setIfInBounds_toArray, List.set_cons_zero, List.set_cons_succ]
            refine wpAnyH_take (i := 4) (oi := ?oiz151) (v := ?vz151) ?hiz151 (by kernel_rfl) (by kernel_rfl) (by kernel_rfl) ?hQz151 ?hyz151 (by assumption) ?restz151
            case hiz151 => simp only [List.getElem?_toArray, List.getElem?_cons_zero, List.getElem?_cons_succ]; rfl
            case hQz151 => exact fun _ _ _ h => h
            case hyz151 => exact Or.inl ⟨by rfl, by intro w hSw; (try dsimp only at hSw); go_simp; with_reducible rfl⟩
            try simp only [Act.put, List.setIfInBounds_toArray, List.set_cons_zero, List.set_cons_succ]
            refine wpAnyH_take (i := 5) (oi := ?oiz152) (v := ?vz152) ?hiz152 (by kernel_rfl) (by kernel_rfl) (by kernel_rfl) ?hQz152 ?hyz152 (by assumption) ?restz152
            case hiz152 => simp only [List.getElem?_toArray, List.getElem?_cons_zero, List.getElem?_cons_succ]; rfl
            case hQz152 => exact fun _ _ _ h => h
            case hyz152 => exact Or.inl ⟨by rfl, by intro w hSw; (try dsimp only at hSw); go_simp; with_reducible rfl⟩
            try simp only [Act.put, List.setIfInBounds_toArray, List.set_cons_zero, List.set_cons_succ]
            refine wpAnyH_take (i := 6) (oi := ?oiz153) (v := ?vz153) ?hiz153 (by kernel_rfl) (by kernel_rfl) (by kernel_rfl) ?hQz153 ?hyz153 (by assumption) ?restz153
            case hiz153 => simp only [List.getElem?_toArray, List.getElem?_cons_zero, List.getElem?_cons_succ]; rfl
            case hQz153 => exact fun _ _ _ h => h
            case hyz153 => exact Or.inl ⟨by rfl, by intro w hSw; (try dsimp only at hSw); go_simp; with_reducible rfl⟩
            try simp only [Act.put, List.setIfInBounds_toArray, List.set_cons_zero, List.set_cons_succ]
            refine wpAnyH_take (i := 7) (oi := ?oiz154) (v := ?vz154) ?hiz154 (by kernel_rfl) (by kernel_rfl) (by kernel_rfl) ?hQz154 ?hyz154 (by assumption) ?restz154
            case hiz154 => simp only [List.getElem?_toArray, List.getElem?_cons_zero, List.getElem?_cons_succ]; rfl
            case hQz154 => exact fun _ _ _ h => h
            case hyz154 => exact Or.inl ⟨by rfl, by intro w hSw; (try dsimp only at hSw); go_simp; with_reducible rfl⟩
            try simp only [Act.put, List.setIfInBounds_toArray, List.set_cons_zero, List.set_cons_succ]
            refine wpAnyH_take (i := 8) (oi := ?oiz155) (v := ?vz155) ?hiz155 (by kernel_rfl) (by kernel_rfl) (by kernel_rfl) ?hQz155 ?hyz155 (by assumption) ?restz155
            case hiz155 => simp only [List.getElem?_toArray, List.getElem?_cons_zero, List.getElem?_cons_succ]; rfl
            case hQz155 => exact fun _ _ _ h => h
            case hyz155 => exact Or.inl ⟨by rfl, by intro w hSw; (try dsimp only at hSw); go_simp; with_reducible rfl⟩
            try simp only [Act.put, List.setIfInBounds_toArray, List.set_cons_zero, List.set_cons_succ]
            refine wpAnyH_take (i := 9) (oi := ?oiz156) (v := ?vz156) ?hiz156 (by kernel_rfl) (by kernel_rfl) (by kernel_rfl) ?hQz156 ?hyz156 (by assumption) ?restz156
            case hiz156 => simp only [List.getElem?_toArray, List.getElem?_cons_zero, List.getElem?_cons_succ]; rfl
            case hQz156 => exact fun _ _ _ h => h
            case hyz156 => exact Or.inl ⟨by rfl, by intro w hSw; (try dsimp only at hSw); go_simp; with_reducible rfl⟩
            try simp only [Act.put, List.setIfInBounds_toArray, List.set_cons_zero, List.set_cons_succ]
            refine wpAnyH_take (i := 10) (oi := ?oiz157) (v := ?vz157) ?hiz157 (by kernel_rfl) (by kernel_rfl) (by kernel_rfl) ?hQz157 ?hyz157 (by assumption) ?restz157
            case hiz157 => simp only [List.getElem?_toArray, List.getElem?_cons_zero, List.getElem?_cons_succ]; rfl
            case hQz157 => exact fun _ _ _ h => h
            case hyz157 => exact Or.inl ⟨by rfl, by intro w hSw; (try dsimp only at hSw); go_simp; with_reducible rfl⟩
            try simp only [Act.put, List.setIfInBounds_toArray, List.set_cons_zero, List.set_cons_succ]
            refine wpAnyH_take (i := 11) (oi := ?oiz158) (v := ?vz158) ?hiz158 (by kernel_rfl) (by kernel_rfl) (by kernel_rfl) ?hQz158 ?hyz158 (by assumption) ?restz158
            case hiz158 => simp only [List.getElem?_toArray, List.getElem?_cons_zero, List.getElem?_cons_succ]; rfl
            case hQz158 => exact fun _ _ _ h => h
            case hyz158 => exact Or.inl ⟨by rfl, by intro w hSw; (try dsimp only at hSw); go_simp; with_reducible rfl⟩
            try simp only [Act.put, List.setIfInBounds_toArray, List.set_cons_zero, List.set_cons_succ]
            refine wpAnyH_take (i := 12) (oi := ?oiz159) (v := ?vz159) ?hiz159 (by kernel_rfl) (by kernel_rfl) (by kernel_rfl) ?hQz159 ?hyz159 (by assumption) ?restz159
            case hiz159 => simp only [List.getElem?_toArray, List.getElem?_cons_zero, List.getElem?_cons_succ]; rfl
            case hQz159 => exact fun _ _ _ h => h
            case hyz159 => exact Or.inl ⟨by rfl, by intro w hSw; (try dsimp only at hSw); go_simp; with_reducible rfl⟩
            try simp only [Act.put, List.setIfInBounds_toArray, List.set_cons_zero, List.set_cons_succ]
            refine wpAnyH_take (i := 13) (oi := ?oiz160) (v := ?vz160) ?hiz160 (by kernel_rfl) (by kernel_rfl) (by kernel_rfl) ?hQz160 ?hyz160 (by assumption) ?restz160
            case hiz160 => simp only [List.getElem?_toArray, List.getElem?_cons_zero, List.getElem?_cons_succ]; rfl
            case hQz160 => exact fun _ _ _ h => h
            case hyz160 => exact Or.inl ⟨by rfl, by intro w hSw; (try dsimp only at hSw); go_simp; with_reducible rfl⟩
            try simp only [Act.put, List.setIfInBounds_toArray, List.set_cons_zero, List.set_cons_succ]
            refine wpAnyH_take (i := 14) (oi := ?oiz161) (v := ?vz161) ?hiz161 (by kernel_rfl) (by kernel_rfl) (by kernel_rfl) ?hQz161 ?hyz161 (by assumption) ?restz161
            case hiz161 => simp only [List.getElem?_toArray, List.getElem?_cons_zero, List.getElem?_cons_succ]; rfl
            case hQz161 => exact fun _ _ _ h => h
            case hyz161 => exact Or.inl ⟨by rfl, by intro w hSw; (try dsimp only at hSw); go_simp; with_reducible rfl⟩
            try simp only [Act.put, List.setIfInBounds_toArray, List.set_cons_zero, List.set_cons_succ]
            refine wpAnyH_take (i := 15) (oi := ?oiz162) (v := ?vz162) ?hiz162 (by kernel_rfl) (by kernel_rfl) (by kernel_rfl) ?hQz162 ?hyz162 (by assumption) ?restz162
            case hiz162 => simp only [List.getElem?_toArray, List.getElem?_cons_zero, List.getElem?_cons_succ]; rfl
            case hQz162 => exact fun _ _ _ h => h
            case hyz162 => exact Or.inl ⟨by rfl, by intro w hSw; (try dsimp only at hSw); go_simp; with_reducible rfl⟩
            try simp only [Act.put, List.setIfInBounds_toArray, List.set_cons_zero, List.set_cons_succ]
            refine wpAnyH_take (i := 16) (oi := ?oiz163) (v := ?vz163) ?hiz163 (by kernel_rfl) (by kernel_rfl) (by kernel_rfl) ?hQz163 ?hyz163 (by assumption) ?restz163
            case hiz163 => simp only [List.getElem?_toArray, List.getElem?_cons_zero, List.getElem?_cons_succ]; rfl
            case hQz163 => exact fun _ _ _ h => h
            case hyz163 => exact Or.inl ⟨by rfl, by intro w hSw; (try dsimp only at hSw); go_simp; with_reducible rfl⟩
            try simp only [Act.put, List.setIfInBounds_toArray, List.set_cons_zero, List.set_cons_succ]
            refine wpAnyH_take (i := 17) (oi := ?oiz164) (v := ?vz164) ?hiz164 (by kernel_rfl) (by kernel_rfl) (by kernel_rfl) ?hQz164 ?hyz164 (by assumption) ?restz164
            case hiz164 => simp only [List.getElem?_toArray, List.getElem?_cons_zero, List.getElem?_cons_succ]; rfl
            case hQz164 => exact fun _ _ _ h => h
            case hyz164 => exact Or.inl ⟨by rfl, by intro w hSw; (try dsimp only at hSw); go_simp; with_reducible rfl⟩
            try simp only [Act.put, List.setIfInBounds_toArray, List.set_cons_zero, List.set_cons_succ]
            refine wpAnyH_done (by kernel_rfl) ?_ _
            have HX2 := Lib.hid (HXW.out.trans hHeld)
            clear hHeld
            go_wp2
            go_ret
            exact ⟨by rw [HE.out, HB.out]; rfl, HX2.out⟩
    · obtain rfl : k = L.length := by omega
      go_wp2
      go_ret
      exact ⟨by rw [HE.out, HS.out, Bool.true_and]; exact ret_bool (by simp; omega), HX.out⟩

end Go.Proofs.Ytmndkbheehcoaaa
/- The tree of a map, plainly. No condition. -/
namespace Go.Proofs.Ytmndkbheehcoaaa
open Go.RowKit
set_option linter.unusedVariables false
set_option linter.unusedSimpArgs false

inductive Tr where
  | leaf : Tr
  | node : Nd → Tr → Tr → Tr
def Tr.key : Tr → List Int
  | .leaf => emptyL
  | .node x _ _ => hashL 5 (nodeL x)
def Tr.all : Tr → List Nd
  | .leaf => []
  | .node x l r => x :: (l.all ++ r.all)
def Tr.ok : Tr → Prop
  | .leaf => True
  | .node x l r => x.ok ∧ entB x.n x.v = true ∧ x.l = l.key ∧ x.r = r.key ∧ l.ok ∧ r.ok
theorem Tr.key_ok (T : Tr) : K32 T.key := by
  cases T with
  | leaf => exact emptyL_ok
  | node x l r => exact hashL_ok _ _
theorem Tr.all_ok (T : Tr) (h : T.ok) : ∀ x ∈ T.all, x.ok ∧ entB x.n x.v = true := by
  induction T with
  | leaf => intro x hx; simp [Tr.all] at hx
  | node y l r il ir =>
    obtain ⟨h1, h2, _, _, h5, h6⟩ := h
    intro x hx
    simp only [Tr.all, List.mem_cons, List.mem_append] at hx
    rcases hx with rfl | hx | hx
    · exact ⟨h1, h2⟩
    · exact il h5 x hx
    · exact ir h6 x hx
/-- the place of the greatest of the first k priorities -/
def gK (ps : List (List Int)) (k : Nat) : List Int := ps.getD k []
theorem gK_lt {ps : List (List Int)} {k : Nat} (h : k < ps.length) : gK ps k = ps[k] := by simp [gK, List.getD_eq_getElem?_getD, h]
def topS (ps : List (List Int)) (k t : Nat) : Nat := if 0 < cmpL (gK ps k) (gK ps t) then k else t
def topI (ps : List (List Int)) : Nat → Nat
  | 0 => 0
  | k + 1 => topS ps k (topI ps k)
theorem topI_zero (ps : List (List Int)) : topI ps 0 = 0 := rfl
theorem topI_succ (ps : List (List Int)) (k : Nat) : topI ps (k + 1) = if 0 < cmpL (gK ps k) (gK ps (topI ps k)) then k else topI ps k := rfl
attribute [irreducible] topI
theorem topI_one (ps : List (List Int)) : topI ps 1 = 0 := by rw [topI_succ, topI_zero, cmpL_self]; simp
theorem topI_lt (ps : List (List Int)) (k : Nat) (h : 0 < k) : topI ps k < k := by
  induction k with
  | zero => omega
  | succ k ih =>
    rw [topI_succ]
    split
    · omega
    · rcases Nat.eq_zero_or_pos k with rfl | hk
      · rw [topI_zero]; omega
      · have := ih hk; omega
def prios (L : List En) : List (List Int) := L.map fun e => prioL e.1
theorem prios_length (L : List En) : (prios L).length = L.length := by simp [prios]
theorem prios_at (L : List En) (k : Nat) (h : k < L.length) : gK (prios L) k = prioL L[k].1 := by rw [gK_lt (by rw [prios_length]; exact h)]; simp [prios]
theorem prios_ok (L : List En) : ∀ p ∈ prios L, K32 p := by
  intro p hp
  simp only [prios, List.mem_map] at hp
  obtain ⟨e, _, rfl⟩ := hp
  exact prioL_ok _
theorem prios_take (L : List En) (k : Nat) : prios (L.take k) = (prios L).take k := by simp [prios]
theorem prios_drop (L : List En) (k : Nat) : prios (L.drop k) = (prios L).drop k := by simp [prios]
def topE (L : List En) : Nat := topI (prios L) L.length
theorem topE_lt {L : List En} (h : 0 < L.length) : topE L < L.length := topI_lt _ _ h
/-- the tree -/
def trS (L : List En) (l r : Tr) : Tr := if L.length = 0 then .leaf else .node ⟨l.key, r.key, (gE L (topE L)).1, (gE L (topE L)).2⟩ l r
def trF : Nat → List En → Tr
  | 0, _ => .leaf
  | f + 1, L => trS L (trF f (L.take (topE L))) (trF f (L.drop (topE L + 1)))
theorem trF_zero (L : List En) : trF 0 L = .leaf := rfl
theorem trF_succ (f : Nat) (L : List En) : trF (f + 1) L = trS L (trF f (L.take (topE L))) (trF f (L.drop (topE L + 1))) := rfl
attribute [irreducible] trF
theorem trF_nil (f : Nat) (L : List En) (h : L.length = 0) : trF f L = .leaf := by
  cases f with
  | zero => rw [trF_zero]
  | succ f => rw [trF_succ, trS, if_pos h]
theorem trF_cons (f : Nat) (L : List En) (h : ¬ L.length = 0) : trF (f + 1) L = .node ⟨(trF f (L.take (topE L))).key, (trF f (L.drop (topE L + 1))).key, (gE L (topE L)).1, (gE L (topE L)).2⟩ (trF f (L.take (topE L))) (trF f (L.drop (topE L + 1))) := by rw [trF_succ, trS, if_neg h]
/-- entries that a map may hold -/
def good (L : List En) : Prop := ∀ e ∈ L, tEnt.ok e ∧ entB e.1 e.2 = true
theorem good_of {L : List En} (h : okE L = true) (hok : ∀ e ∈ L, tEnt.ok e) : good L := by
  intro e he
  refine ⟨hok e he, ?_⟩
  rw [okE_eq, Bool.and_eq_true, incs, List.all_eq_true] at h
  obtain ⟨i, hi, rfl⟩ := List.getElem_of_mem he
  have := h.1 i (List.mem_range.2 hi)
  simp only [incC, Bool.and_eq_true] at this
  rw [gE_lt hi] at this
  exact this.1
theorem good.take {L : List En} (h : good L) (k : Nat) : good (L.take k) := fun e he => h e (List.mem_of_mem_take he)
theorem good.drop {L : List En} (h : good L) (k : Nat) : good (L.drop k) := fun e he => h e (List.mem_of_mem_drop he)
theorem good.at_ {L : List En} (h : good L) {k : Nat} (hk : k < L.length) : tEnt.ok (gE L k) ∧ entB (gE L k).1 (gE L k).2 = true := by rw [gE_lt hk]; exact h _ (List.getElem_mem hk)
theorem trF_ok (f : Nat) (L : List En) (h : good L) : (trF f L).ok := by
  induction f generalizing L with
  | zero => rw [trF_zero]; trivial
  | succ f ih =>
    by_cases h0 : L.length = 0
    · rw [trF_nil _ _ h0]; trivial
    · rw [trF_cons _ _ h0]
      have hg := h.at_ (topE_lt (L := L) (by omega))
      exact ⟨⟨Tr.key_ok _, Tr.key_ok _, hg.1.1, hg.1.2⟩, hg.2, rfl, rfl, ih _ (h.take _), ih _ (h.drop _)⟩
theorem trF_len (f : Nat) (L : List En) : (trF f L).all.length ≤ L.length := by
  induction f generalizing L with
  | zero => rw [trF_zero]; simp [Tr.all]
  | succ f ih =>
    by_cases h0 : L.length = 0
    · rw [trF_nil _ _ h0]; simp [Tr.all]
    · rw [trF_cons _ _ h0]
      have h1 := ih (L.take (topE L))
      have h2 := ih (L.drop (topE L + 1))
      have h3 := topE_lt (L := L) (by omega)
      simp only [Tr.all, List.length_cons, List.length_append]
      rw [List.length_take] at h1
      rw [List.length_drop] at h2
      omega
def tNd : Ty Nd := ⟨66, Nd.enc, Nd.ok, fun _ h => Nd.enc_length h, fun x => Nd.enc_one x⟩
theorem Rd.cutL {α : Type} {T : Ty α} {w : World} {S : Nat → Prop} {A : Option Addr} {xs : List α} (h : Rd w S T.sz A xs.length (xs.flatMap T.enc)) (hok : ∀ x ∈ xs, T.ok x) {k cap : Nat} (hk : k ≤ xs.length) (hc : xs.length ≤ cap) :
    Rd w S T.sz (if cap = k then A else A.map (·.add (k * T.sz))) (xs.drop k).length ((xs.drop k).flatMap T.enc) := by
  have h1 := h.cut hk hc
  have e : (xs.flatMap T.enc).drop (k * T.sz) = (xs.drop k).flatMap T.enc := by
    conv => lhs; rw [← List.take_append_drop k xs, List.flatMap_append]
    rw [List.drop_append_of_le_length (by rw [flat_length T _ (fun x hx => hok x (List.mem_of_mem_take hx)), List.length_take, Nat.min_eq_left hk]; exact Nat.le_refl _), List.drop_eq_nil_of_le (by rw [flat_length T _ (fun x hx => hok x (List.mem_of_mem_take hx)), List.length_take, Nat.min_eq_left hk]; exact Nat.le_refl _), List.nil_append]
  rw [e, ← List.length_drop] at h1
  exact h1
theorem Rd.headL {α : Type} {T : Ty α} {w : World} {S : Nat → Prop} {A : Option Addr} {xs : List α} (h : Rd w S T.sz A xs.length (xs.flatMap T.enc)) (hok : ∀ x ∈ xs, T.ok x) {k : Nat} (hk : k ≤ xs.length) :
    Rd w S T.sz A (xs.take k).length ((xs.take k).flatMap T.enc) := by
  have h1 := h.head hk
  have e : (xs.flatMap T.enc).take (k * T.sz) = (xs.take k).flatMap T.enc := by
    conv => lhs; rw [← List.take_append_drop k xs, List.flatMap_append]
    rw [List.take_append_of_le_length (by rw [flat_length T _ (fun x hx => hok x (List.mem_of_mem_take hx)), List.length_take, Nat.min_eq_left hk]; exact Nat.le_refl _), List.take_of_length_le (by rw [flat_length T _ (fun x hx => hok x (List.mem_of_mem_take hx)), List.length_take, Nat.min_eq_left hk]; exact Nat.le_refl _)]
  have hl : (xs.take k).length = k := by rw [List.length_take]; omega
  rw [e] at h1
  rw [hl]
  exact h1
/-- the first k of a list that is read -/
theorem RdL.head {α : Type} {T : Ty α} {w : World} {S : Nat → Prop} {A : Option Addr} {xs : List α} {cap : Nat} (h : RdL T w S (.slice A xs.length cap) xs) {k : Nat} (hk : k ≤ xs.length) : RdL T w S (.slice A k cap) (xs.take k) := by
  obtain ⟨A', cap', e, h1, h2, h3, h4⟩ := h
  injection e with e1 _ e3
  subst e1 e3
  have hl : (xs.take k).length = k := by rw [List.length_take]; omega
  exact ⟨A, cap, by rw [hl], by omega, by omega, h3.headL h4 hk, fun x hx => h4 x (List.mem_of_mem_take hx)⟩
theorem RdL.cut {α : Type} {T : Ty α} {w : World} {S : Nat → Prop} {A : Option Addr} {xs : List α} {cap : Nat} (h : RdL T w S (.slice A xs.length cap) xs) {k : Nat} (hk : k ≤ xs.length) :
    RdL T w S (.slice (if cap = k then A else A.map (·.add (k * T.sz))) (xs.length - k) (cap - k)) (xs.drop k) := by
  obtain ⟨A', cap', e, h1, h2, h3, h4⟩ := h
  injection e with e1 _ e3
  subst e1 e3
  exact ⟨_, cap - k, by rw [List.length_drop], by rw [List.length_drop]; omega, by rw [List.length_drop]; omega, h3.cutL h4 hk h1, fun x hx => h4 x (List.mem_of_mem_drop hx)⟩
end Go.Proofs.Ytmndkbheehcoaaa
/- A name's place in a map: the reference and the program. No condition. -/
namespace Go.Proofs.Ytmndkbheehcoaaa
open Go.RowKit
set_option linter.unusedVariables false
set_option linter.unusedSimpArgs false

theorem incs_get {L : List En} {n : Nat} (h : incs L n = true) (k : Nat) (hk : k < n) : incC L k = true := by
  rw [incs, List.all_eq_true] at h
  exact h k (List.mem_range.2 hk)
theorem incs_lt {L : List En} {n : Nat} (h : incs L n = true) (p q : Nat) (hpq : p < q) (hq : q < n) : ltB (gE L p).1 (gE L q).1 = true := by
  induction q with
  | zero => omega
  | succ q ih =>
    have h1 := incs_get h (q + 1) hq
    rw [incC] at h1
    simp only [Bool.and_eq_true, Bool.or_eq_true, Nat.add_sub_cancel] at h1
    have h2 : ltB (gE L q).1 (gE L (q + 1)).1 = true := by
      rcases h1.2 with h | h
      · simp at h
      · exact h
    by_cases e : p = q
    · subst e; exact h2
    · exact ltB_trans (ih (by omega) (by omega)) h2
/-- how many names come ahead -/
@[irreducible] def posE (L : List En) (s : ByteArray) : Nat := (L.takeWhile fun e => ltB e.1 s).length
theorem posE_eq (L : List En) (s : ByteArray) (i : Nat) (hi : i ≤ L.length) (h1 : ∀ p, p < i → ltB (gE L p).1 s = true) (h2 : i < L.length → ltB (gE L i).1 s = false) : posE L s = i := by
  rw [posE]
  induction L generalizing i with
  | nil => simp at hi; simp [hi]
  | cons e r ih =>
    cases i with
    | zero =>
      have := h2 (by simp)
      simp only [gE, List.getD_cons_zero] at this
      simp [List.takeWhile_cons, this]
    | succ i =>
      have h0 := h1 0 (by omega)
      simp only [gE, List.getD_cons_zero] at h0
      rw [List.takeWhile_cons, if_pos h0, List.length_cons, ih i (by simpa using hi) (fun p hp => by have := h1 (p + 1) (by omega); simpa [gE] using this) (fun h => by have := h2 (by simpa using h); simpa [gE] using this)]
theorem posE_of {L : List En} {s : ByteArray} (h : incs L L.length = true) (i : Nat) (hi : i ≤ L.length) (h1 : i = 0 ∨ ltB (gE L (i - 1)).1 s = true) (h2 : i = L.length ∨ ltB (gE L i).1 s = false) : posE L s = i := by
  refine posE_eq L s i hi (fun p hp => ?_) (fun hlt => ?_)
  · rcases h1 with rfl | h1
    · omega
    · by_cases e : p = i - 1
      · rw [e]; exact h1
      · exact ltB_trans (incs_lt h p (i - 1) (by omega) (by omega)) h1
  · rcases h2 with rfl | h2
    · omega
    · exact h2
theorem posE_hit {L : List En} {s : ByteArray} (h : incs L L.length = true) (k : Nat) (hk : k < L.length) (e : (gE L k).1 = s) : posE L s = k := by
  refine posE_eq L s k (by omega) (fun p hp => ?_) (fun _ => by rw [e]; exact ltB_irrefl s)
  rw [← e]
  exact incs_lt h p k hp hk
/-- is the name there? -/
@[irreducible] def hasE (L : List En) (s : ByteArray) : Bool := decide (posE L s < L.length ∧ (gE L (posE L s)).1 = s)
theorem hasE_eq (L : List En) (s : ByteArray) : hasE L s = decide (posE L s < L.length ∧ (gE L (posE L s)).1 = s) := by rw [hasE]
@[irreducible] def findI (L : List En) (s : ByteArray) : Int := if hasE L s then posE L s else -1
theorem findI_eq (L : List En) (s : ByteArray) : findI L s = if hasE L s then (posE L s : Int) else -1 := by rw [findI]
theorem findI_hit {L : List En} {s : ByteArray} (h : incs L L.length = true) (k : Nat) (hk : k < L.length) (e : (gE L k).1 = s) : findI L s = k := by
  have hp := posE_hit h k hk e
  rw [findI, hasE_eq, hp, decide_eq_true ⟨hk, e⟩]; rfl
theorem findI_miss {L : List En} {s : ByteArray} (h : ∀ p, p < L.length → (gE L p).1 ≠ s) : findI L s = -1 := by
  rw [findI, hasE_eq, decide_eq_false (fun q => h _ q.1 q.2)]; rfl
set_option maxHeartbeats 1000000 in
set_option maxRecDepth 100000 in
theorem l04Find_any (v : Value) (L : List En) (hs : incs L L.length = true) (s : ByteArray) (w : World) (S : Nat → Prop) (h : RdL tEnt w S v L) :
    Calls Try.prog 81 #[v, .string s] w fun e w' => e = .returned (.int .i64 (findI L s)) ∧ w = w' := by
  obtain ⟨A, cap, rfl, hcap, hlen, hrd, hok⟩ := h
  have Hrd := Lib.hid hrd
  have Hok := Lib.hid hok
  have HS := Lib.hid hs
  clear hrd hok hs
  go_enter Try.func81, Try.ntmps81
  go_wp2
  go_loop [5] (fun i => ∃ k : Nat, k ≤ L.length ∧ i = .int .i64 k ∧ ∀ p, p < k → (gE L p).1 ≠ s) (fun i => L.length - (intOf i).toNat)
  case atStart => exact ⟨0, by omega, rfl, fun p hp => by omega⟩
  case round =>
    obtain ⟨k, hk, rfl, hm⟩ := hrel
    have HM := Lib.hid hm
    clear hm
    by_cases hlt : k < L.length
    · obtain ⟨g, o, rfl, hs0, hc⟩ := Hrd.out.elem Hok.out k hlt
      have d0 : w.cell? ⟨g, o + k * 2, none⟩ = some (.string L[k].1) := hc 0 _ rfl
      have HG := Lib.hid (gE_lt hlt)
      have hi : (0 : Int) ≤ (k : Int) := by omega
      have hi2 : (k : Int) < (L.length : Int) := by omega
      clear hc
      by_cases he : L[k].1 = s
      · have he2 : (L[k].1.toList == s.toList) = true := by rw [he, beq_self_eq_true]
        have HE := Lib.hid (findI_hit (s := s) HS.out k hlt (by rw [HG.out]; exact he))
        clear he
        go_wp2
        go_ret
        exact ⟨by rw [HE.out]; rfl, rfl⟩
      · have he2 : (L[k].1.toList == s.toList) = false := by rw [beq_eq_false_iff_ne]; exact fun e => he (toList_inj e)
        have HE := Lib.hid he
        clear he
        go_wp2
        go_round
        case rel => exact ⟨k + 1, by omega, by go_num, fun p hp => by
          by_cases e : p = k
          · subst e; rw [HG.out]; exact HE.out
          · exact HM.out p (by omega)⟩
        case measure => simp [intOf]; omega
    · obtain rfl : k = L.length := by omega
      have HE := Lib.hid (findI_miss HM.out)
      go_wp2
      go_ret
      exact ⟨by rw [HE.out]; rfl, rfl⟩
set_option maxHeartbeats 1000000 in
set_option maxRecDepth 100000 in
theorem findFn_any (e : En) (s : ByteArray) (w : World) :
    Calls Try.prog 159 #[.agg (tEnt.enc e).toArray, .string s] w fun q w' => q = .returned (.int .i64 (cmpS e.1 s)) ∧ Ext w w' := by
  show Calls Try.prog 159 #[.agg #[.string e.1, .string e.2], .string s] w _
  go_enter Try.func159, Try.ntmps159
  go_wp2_with fail
  refine (cmpS_any e.1 s _).mono ?_
  rintro q w' ⟨rfl, rfl⟩
  go_wp2
  go_ret
  exact ⟨rfl, ext_alloc _ _⟩
set_option maxHeartbeats 1000000 in
set_option maxRecDepth 100000 in
theorem binSearch_any (v : Value) (L : List En) (hs : incs L L.length = true) (s : ByteArray) (w : World) (S : Nat → Prop) (h : RdL tEnt w S v L) :
    Calls Try.prog 158 #[v, .string s, .func (.func 159) #[] #[]] w fun e w' => e = .returned (.tuple #[.int .i64 (posE L s), .bool (hasE L s)]) ∧ Ext w w' := by
  obtain ⟨A, cap, rfl, hcap, hlen, hrd, hok⟩ := h
  have Hrd := Lib.hid hrd
  have Hok := Lib.hid hok
  have HS := Lib.hid hs
  clear hrd hok hs
  go_enter Try.func158, Try.ntmps158
  go_wp2
  go_loopw [9, 10] (fun i j wr => ∃ p q : Nat, p ≤ q ∧ q ≤ L.length ∧ i = .int .i64 p ∧ j = .int .i64 q ∧ (p = 0 ∨ ltB (gE L (p - 1)).1 s = true) ∧ (q = L.length ∨ ltB (gE L q).1 s = false) ∧ Ext w wr) (fun i j _ => (intOf j).toNat - (intOf i).toNat)
  case atStart => exact ⟨0, L.length, by omega, Nat.le_refl _, rfl, rfl, .inl rfl, .inl rfl, Ext.refl _⟩
  case round =>
    obtain ⟨p, q, hpq, hq, rfl, rfl, h1, h2, hx⟩ := hrel
    have HX := Lib.hid hx
    have H1 := Lib.hid h1
    have H2 := Lib.hid h2
    clear hx h1 h2
    by_cases hlt : p < q
    · obtain ⟨m, hm⟩ : ∃ m, (p + q) / 2 = m := ⟨_, rfl⟩
      have hml : m < L.length := by omega
      obtain ⟨g, o, rfl, hs0, hc⟩ := Hrd.out.elem Hok.out m hml
      have HD := Lib.hid (show ∀ j u, (tEnt.enc L[m])[j]? = some u → wr.cell? ⟨g, o + m * 2 + j, none⟩ = some u from fun j u hu => HX.out.cell (hc j u hu))
      have HG := Lib.hid (gE_lt hml)
      have W1 : IntKind.u64.wrap ((p : Int) + q) = (p : Int) + q := wraps_u64 _ (by omega) (by omega)
      have W2 : ((p : Int) + q) / 2 = m := by omega
      have W3 : IntKind.i64.wrap (m : Int) = m := IntWalk.i64_in _ (by omega)
      have hi : (0 : Int) ≤ (m : Int) := by omega
      have hi2 : (m : Int) < (L.length : Int) := by omega
      have hp2 : p ≤ m := by omega
      have hp3 : m < q := by omega
      have HP := Lib.hid hm
      clear hc hm
      cases hl : ltB L[m].1 s with
      | true =>
        have hneg : cmpS L[m].1 s < 0 := (cmpS_lt _ _).2 hl
        have HL := Lib.hid hl
        clear hl
        go_wp2_with (refine wpl_load ⟨g, o + m * 2, none⟩ (tEnt.enc L[m]) aggEntryI rfl _ rfl rfl (fun j u hu => by rw [Addr.add_lit]; exact HD.out j u hu) ?_)
        refine (findFn_any L[m] s _).mono ?_
        rintro e w1 ⟨rfl, hx⟩
        have HX2 := Lib.hid (HX.out.trans hx)
        clear hx W1 W2
        go_wp2
        go_roundw
        case rel => exact ⟨m + 1, q, by omega, hq, by go_num, rfl, .inr (by rw [Nat.add_sub_cancel, HG.out]; exact HL.out), H2.out, HX2.out⟩
        case measure => simp [intOf]; omega
      | false =>
        have hneg : ¬ cmpS L[m].1 s < 0 := fun h => by rw [(cmpS_lt _ _).1 h] at hl; cases hl
        have HL := Lib.hid hl
        clear hl
        go_wp2_with (refine wpl_load ⟨g, o + m * 2, none⟩ (tEnt.enc L[m]) aggEntryI rfl _ rfl rfl (fun j u hu => by rw [Addr.add_lit]; exact HD.out j u hu) ?_)
        refine (findFn_any L[m] s _).mono ?_
        rintro e w1 ⟨rfl, hx⟩
        have HX2 := Lib.hid (HX.out.trans hx)
        clear hx W1 W2
        go_wp2
        go_roundw
        case rel => exact ⟨p, m, hp2, by omega, rfl, rfl, H1.out, .inr (by rw [HG.out]; exact HL.out), HX2.out⟩
        case measure => simp [intOf]; omega
    · obtain rfl : p = q := by omega
      have HPOS := Lib.hid (posE_of HS.out p hq H1.out H2.out)
      have HH := Lib.hid (hasE_eq L s)
      clear H1 H2
      by_cases hpl : p < L.length
      · obtain ⟨g, o, rfl, hs0, hc⟩ := Hrd.out.elem Hok.out p hpl
        have HD := Lib.hid (show ∀ j u, (tEnt.enc L[p])[j]? = some u → wr.cell? ⟨g, o + p * 2 + j, none⟩ = some u from fun j u hu => HX.out.cell (hc j u hu))
        have HG := Lib.hid (gE_lt hpl)
        have hi : (0 : Int) ≤ (p : Int) := by omega
        have hi2 : (p : Int) < (L.length : Int) := by omega
        clear hc
        have hcf := findFn_any L[p] s
        have d0 : wr.cell? ⟨g, o + p * 2, none⟩ = some (.string L[p].1) := HD.out 0 _ rfl
        have d1 : wr.cell? ⟨g, o + p * 2 + 1, none⟩ = some (.string L[p].2) := HD.out 1 _ rfl
        by_cases he : L[p].1 = s
        · have hz : cmpS L[p].1 s = 0 := (cmpS_zero _ _).2 he
          simp only [hz] at hcf
          have HE := Lib.hid he
          clear he hz
          go_wp2_with fail
          refine (hcf _).mono ?_
          rintro e w1 ⟨rfl, hx⟩
          have HX2 := Lib.hid (HX.out.trans hx)
          clear hx
          go_wp2
          go_ret2
          exact ⟨by rw [HH.out, HPOS.out, decide_eq_true ⟨hpl, by rw [HG.out]; exact HE.out⟩]; rfl, HX2.out⟩
        · have hz : (cmpS L[p].1 s == 0) = false := by rw [beq_eq_false_iff_ne]; exact fun h => he ((cmpS_zero _ _).1 h)
          have HE := Lib.hid he
          clear he
          go_wp2_with fail
          refine (hcf _).mono ?_
          rintro e w1 ⟨rfl, hx⟩
          have HX2 := Lib.hid (HX.out.trans hx)
          clear hx
          go_wp2
          go_ret2
          exact ⟨by rw [HH.out, HPOS.out, decide_eq_false (fun h => HE.out (by rw [← HG.out]; exact h.2))]; rfl, HX2.out⟩
      · go_wp2
        go_ret2
        exact ⟨by rw [HH.out, HPOS.out, decide_eq_false (fun h => hpl h.1)]; rfl, HX.out⟩
set_option maxHeartbeats 1000000 in
set_option maxRecDepth 100000 in
theorem find_any (v : Value) (L : List En) (hs : incs L L.length = true) (s : ByteArray) (w : World) (S : Nat → Prop) (h : RdL tEnt w S v L) :
    Calls Try.prog 126 #[v, .string s] w fun e w' => e = .returned (.tuple #[.int .i64 (posE L s), .bool (hasE L s)]) ∧ Ext w w' := by
  have H := Lib.hid (binSearch_any v L hs s w S h)
  obtain ⟨A, cap, rfl, _⟩ := h
  go_enter Try.func126, Try.ntmps126
  go_wp2_with fail
  refine H.out.mono ?_
  rintro e w1 ⟨rfl, hx⟩
  have HX := Lib.hid hx
  clear hx
  go_wp2
  go_ret2
  exact ⟨rfl, HX.out⟩

end Go.Proofs.Ytmndkbheehcoaaa
/- The entries of a range: the reference. No condition. -/
namespace Go.Proofs.Ytmndkbheehcoaaa
open Go.RowKit
set_option linter.unusedVariables false
set_option linter.unusedSimpArgs false

theorem rowEnt : Row Try.prog tEnt 34 29 32 := Row.mk' Try.underlying34 (.agg #[.string ⟨#[]⟩, .string ⟨#[]⟩]) (by kernel_rfl) rfl (by decide) (by decide)
@[irreducible] def inR (lo hi : ByteArray) (e : En) : Bool := !ltB e.1 lo && ltB e.1 hi
theorem inR_eq (lo hi : ByteArray) (e : En) : inR lo hi e = (!ltB e.1 lo && ltB e.1 hi) := by rw [inR]
def rangeR (L : List En) (lo hi : ByteArray) : List En × Int := if okE L then (L.filter (inR lo hi), 0) else ([], 1)
theorem okE_incs' {L : List En} (h : okE L = true) : incs L L.length = true ∧ L.length ≤ 64 := by
  rw [okE_eq] at h
  simpa using h
theorem rd_ent (w : World) (e : En) (t : TypeId) : Rd (w.alloc (.cells #[.string e.1, .string e.2] t)) (fun g => g = w.heap.size) tEnt.sz (some ⟨w.heap.size, 0, none⟩) [e].length ([e].flatMap tEnt.enc) := by
  refine ⟨rfl, fun _ => ⟨_, 0, rfl, rfl, fun j u hu => ?_⟩⟩
  rw [Nat.zero_add, (Blk.new w t _).cell]
  simpa [tEnt] using hu
theorem filter_next (p : En → Bool) (L : List En) (k : Nat) (h : k < L.length) : (L.take (k + 1)).filter p = (L.take k).filter p ++ (if p L[k] then [L[k]] else []) := by
  rw [List.take_succ_eq_append_getElem h, List.filter_append]
  cases hp : p L[k] <;> simp [hp]
set_option maxHeartbeats 1000000 in
set_option maxRecDepth 100000 in
theorem specRangeOfEntries_any (v : Value) (L : List En) (lo hi : ByteArray) (w : World) (S : Nat → Prop) (h : RdL tEnt w S v L) :
    Calls Try.prog 59 #[v, .string lo, .string hi] w fun e w' => ∃ v', e = .returned (.tuple #[v', .int .i64 (rangeR L lo hi).2]) ∧ Own tEnt 29 w' w.heap.size v' (rangeR L lo hi).1 ∧ Ext w w' := by
  have H := Lib.hid h
  have hc := l04Ok_any v L w S h
  obtain ⟨A, cap, rfl, hcap, hlen, hrd, hok⟩ := h
  have Hok := Lib.hid hok
  have Hrd := Lib.hid hrd
  clear hrd hok
  cases hb : okE L with
  | false =>
    simp only [rangeR, hb, Bool.false_eq_true, if_false]
    simp only [hb] at hc
    clear hb
    go_enter Try.func59, Try.ntmps59
    go_wp2_with fail
    refine hc.mono ?_
    rintro e w1 ⟨rfl, hx⟩
    have HX := Lib.hid hx
    clear hx
    go_wp2
    go_ret2
    exact ⟨_, rfl, Own.empty tEnt _ 29 _ HX.out.size, HX.out.alloc _⟩
  | true =>
    obtain ⟨hinc, h64⟩ := okE_incs' hb
    simp only [rangeR, hb, if_true]
    simp only [hb] at hc
    clear hb hinc
    go_enter Try.func59, Try.ntmps59
    go_wp2_with fail
    refine hc.mono ?_
    rintro e w1 ⟨rfl, hx⟩
    have HX := Lib.hid hx
    clear hx
    go_wp2_with fail
    generalize w1 = wz at *
    go_loopw [8, 9] (fun a i wr => ∃ k : Nat, k ≤ L.length ∧ i = .int .i64 k ∧ Own tEnt 29 wr w.heap.size a ((L.take k).filter (inR lo hi)) ∧ Ext w wr) (fun _ i _ => L.length - (intOf i).toNat)
    case atStart => exact ⟨0, by omega, rfl, by rw [List.take_zero]; exact Own.empty tEnt _ 29 _ HX.out.size, HX.out.alloc _⟩
    case round =>
      obtain ⟨k, hk, rfl, ho, hx⟩ := hrel
      obtain ⟨C, cn, cc, rfl⟩ := ho.shape3
      have HO := Lib.hid ho
      have HX1 := Lib.hid hx
      clear ho hx
      by_cases hlt : k < L.length
      · obtain ⟨g, o, rfl, hs0, hc⟩ := Hrd.out.elem Hok.out k hlt
        have HX0 := Lib.hid (show tEnt.ok L[k] from Hok.out _ (List.getElem_mem hlt))
        have HD0 := Lib.hid (show ∀ j u, (tEnt.enc L[k])[j]? = some u → wr.cell? ⟨g, o + k * 2 + j, none⟩ = some u from fun j u hu => HX1.out.cell (hc j u hu))
        have d0 : wr.cell? ⟨g, o + k * 2, none⟩ = some (.string L[k].1) := HD0.out 0 _ rfl
        have HN := Lib.hid (filter_next (inR lo hi) L k hlt)
        have hk0 : (0 : Int) ≤ (k : Int) := by omega
        have hk2 : (k : Int) < (L.length : Int) := by omega
        clear hc
        cases h1 : ltB L[k].1 lo with
        | true =>
          have h1' : Op.bytesLess L[k].1.toList lo.toList = true := by rw [ltB_eq]; exact h1
          have HQ := Lib.hid (show inR lo hi L[k] = false by rw [inR_eq, h1]; rfl)
          clear h1
          go_wp2
          go_roundw
          case rel => exact ⟨k + 1, by omega, by go_num, by rw [HN.out, HQ.out]; simpa using HO.out, HX1.out⟩
          case measure => simp [intOf]; omega
        | false =>
          have h1' : Op.bytesLess L[k].1.toList lo.toList = false := by rw [ltB_eq]; exact h1
          cases h2 : ltB L[k].1 hi with
          | false =>
            have h2' : Op.bytesLess L[k].1.toList hi.toList = false := by rw [ltB_eq]; exact h2
            have HQ := Lib.hid (show inR lo hi L[k] = false by rw [inR_eq, h1, h2]; rfl)
            clear h1 h2
            go_wp2
            go_roundw
            case rel => exact ⟨k + 1, by omega, by go_num, by rw [HN.out, HQ.out]; simpa using HO.out, HX1.out⟩
            case measure => simp [intOf]; omega
          | true =>
            have h2' : Op.bytesLess L[k].1.toList hi.toList = true := by rw [ltB_eq]; exact h2
            have HQ := Lib.hid (show inR lo hi L[k] = true by rw [inR_eq, h1, h2]; rfl)
            have hle := List.length_filter_le (inR lo hi) (L.take k)
            rw [List.length_take] at hle
            have HL := Lib.hid hle
            clear h1 h2 hle
            go_wp2_with (first
              | (refine wpl_load ⟨g, o + k * 2, none⟩ [.string L[k].1, .string L[k].2] aggEntryI rfl _ rfl rfl (fun j u hu => by rw [Addr.add_lit]; exact HD0.out j u hu) ?_)
              | (at_builtin; go_loud (refine wpl_append rowEnt rfl _ _ rfl (v := .slice C cn cc) rfl (HO.out.alloc _) _ _ rfl (A := some ⟨wr.heap.size, 0, none⟩) (ys := [L[k]]) rfl (rd_ent wr L[k] _) (by intro y hy; obtain rfl := List.mem_singleton.1 hy; exact HX0.out) (by have := HL.out; simp only [List.length_singleton]; omega) (HX1.out.alloc _).size ?_); intro v9 w9 ho1 hg1 hat1; obtain ⟨C9, n9, c9, rfl⟩ := ho1.shape3; have HO9 := Lib.hid ho1; have HX9 := Lib.hid ((HO.out.alloc (Obj.cells #[.string L[k].1, .string L[k].2] 29)).ext_app (HX1.out.alloc _) hg1); clear ho1 hg1 hat1))
            go_roundw
            case rel => exact ⟨k + 1, by omega, by go_num, by rw [HN.out, HQ.out]; exact HO9.out, HX9.out⟩
            case measure => simp [intOf]; omega
      · obtain rfl : k = L.length := by omega
        rw [List.take_length] at HO
        go_wp2
        go_ret2
        exact ⟨_, rfl, HO.out, HX1.out⟩
end Go.Proofs.Ytmndkbheehcoaaa
/- Rows of entries, entry by entry: read out of an owned row, written, shut again. No condition. -/
namespace Go.Proofs.Ytmndkbheehcoaaa
open Go.RowKit
set_option linter.unusedVariables false
set_option linter.unusedSimpArgs false

def AtE (cur : Array Value) (i : Nat) (e : En) : Prop := cur[i * 2]? = some (.string e.1) ∧ cur[i * 2 + 1]? = some (.string e.2)
theorem flat_ent (xs : List En) (i : Nat) (hi : i < xs.length) : (xs.flatMap tEnt.enc)[i * 2]? = some (.string xs[i].1) ∧ (xs.flatMap tEnt.enc)[i * 2 + 1]? = some (.string xs[i].2) := by
  induction xs generalizing i with
  | nil => simp at hi
  | cons x r ih =>
    cases i with
    | zero => exact ⟨rfl, rfl⟩
    | succ i =>
      simp only [List.length_cons] at hi
      have := ih i (by omega)
      rw [show (i + 1) * 2 = i * 2 + 1 + 1 by omega]
      exact this
theorem flat_len (xs : List En) : (xs.flatMap tEnt.enc).length = xs.length * 2 := by
  induction xs with
  | nil => rfl
  | cons x r ih => rw [List.flatMap_cons, List.length_append, ih, List.length_cons]; show 2 + _ = _; omega
theorem own_of_at {w : World} {g t cap base : Nat} {cur : Array Value} {xs : List En} (hb : Blk w g t cur) (hg : base ≤ g) (hs : cur.size = cap * 2) (hn : xs.length ≤ cap) (hc : cap ≤ maxLen) (hl : xs.length ≤ 140737488355328) (hok : ∀ x ∈ xs, tEnt.ok x) (hat : ∀ i (hi : i < xs.length), AtE cur i xs[i]) :
    Own tEnt t w base (.slice (some ⟨g, 0, none⟩) xs.length cap) xs := by
  refine ⟨⟨flat_len xs, .inr ⟨g, cap, cur, rfl, hg, hb, hn, hc, hs, ?_⟩⟩, hl, hok⟩
  apply List.ext_getElem?
  intro q
  show (List.take (xs.length * 2) cur.toList)[q]? = _
  by_cases hq : q < xs.length * 2
  · rw [List.getElem?_take_of_lt hq, Array.getElem?_toList]
    have hi : q / 2 < xs.length := by omega
    have h1 := hat _ hi
    have h2 := flat_ent xs _ hi
    rcases Nat.mod_two_eq_zero_or_one q with h0 | h0
    · rw [show q = q / 2 * 2 by omega, h1.1, h2.1]
    · rw [show q = q / 2 * 2 + 1 by omega, h1.2, h2.2]
  · rw [List.getElem?_eq_none (by simp; omega), List.getElem?_eq_none (by rw [flat_len]; omega)]
theorem at_of_own {w : World} {t base : Nat} {v : Value} {xs : List En} (h : Own tEnt t w base v xs) (h0 : 0 < xs.length) :
    ∃ g cap cur, v = .slice (some ⟨g, 0, none⟩) xs.length cap ∧ base ≤ g ∧ g < w.heap.size ∧ Blk w g t cur ∧ cur.size = cap * 2 ∧ xs.length ≤ cap ∧ cap ≤ maxLen ∧ ∀ i (hi : i < xs.length), AtE cur i xs[i] := by
  have hbl := h.base_le
  obtain ⟨⟨hl, hx⟩, h2, h3⟩ := h
  rcases hx with ⟨rfl, hz⟩ | ⟨g, cap, cur, rfl, hb, hg, hc, hm, hs, ht⟩
  · omega
  · refine ⟨g, cap, cur, rfl, hb, (hbl g rfl).2, hg, hs, hc, hm, fun i hi => ?_⟩
    have h2 := flat_ent xs i hi
    rw [← ht] at h2
    have hz : i * 2 + 1 < xs.length * tEnt.sz := by show i * 2 + 1 < xs.length * 2; omega
    rw [List.getElem?_take_of_lt (by omega), List.getElem?_take_of_lt hz, Array.getElem?_toList, Array.getElem?_toList] at h2
    exact h2
theorem splice_size (cur : Array Value) (o : Nat) (vs : List Value) (h : o + vs.length ≤ cur.size) : (splice cur o vs).size = cur.size := by
  unfold splice
  simp
  omega
theorem splice_out (cur : Array Value) (o : Nat) (vs : List Value) (h : o + vs.length ≤ cur.size) (q : Nat) (hq : q < o ∨ o + vs.length ≤ q) : (splice cur o vs)[q]? = cur[q]? := by
  unfold splice
  rw [List.getElem?_toArray, List.append_assoc]
  rcases hq with hq | hq
  · rw [List.getElem?_append_left (by simp; omega), List.getElem?_take_of_lt hq, Array.getElem?_toList]
  · rw [List.getElem?_append_right (by simp; omega), List.getElem?_append_right (by simp; omega), List.getElem?_drop, Array.getElem?_toList]
    congr 1
    simp
    omega
theorem splice_in (cur : Array Value) (o : Nat) (vs : List Value) (h : o + vs.length ≤ cur.size) (q : Nat) (hq : q < vs.length) : (splice cur o vs)[o + q]? = vs[q]? := by
  unfold splice
  rw [List.getElem?_toArray, List.append_assoc, List.getElem?_append_right (by simp; omega), List.getElem?_append_left (by simp; omega)]
  congr 1
  simp
  omega
theorem at_put (cur : Array Value) (i : Nat) (e : En) (h : i * 2 + 2 ≤ cur.size) : AtE (splice cur (i * 2) [.string e.1, .string e.2]) i e :=
  ⟨splice_in cur (i * 2) [.string e.1, .string e.2] h 0 (by simp), splice_in cur (i * 2) [.string e.1, .string e.2] h 1 (by simp)⟩
theorem at_far {cur : Array Value} {i p : Nat} {e f : En} (h : i * 2 + 2 ≤ cur.size) (hp : p ≠ i) (ha : AtE cur p f) : AtE (splice cur (i * 2) [.string e.1, .string e.2]) p f :=
  ⟨by rw [splice_out _ _ _ h _ (by simp; omega)]; exact ha.1, by rw [splice_out _ _ _ h _ (by simp; omega)]; exact ha.2⟩
theorem grown_row {w w' : World} {g : Nat} (h : w.grownBy w' (some g)) (cs : Array Value) : w.grownBy (w'.setRow g cs) (some g) :=
  grown_trans h ⟨rfl, rfl, rfl, by simp, fun k hk hne => setRow_other w' g k cs (fun e => hne (by rw [e]))⟩
theorem grown_cell {w w' : World} {g p : Nat} {u : Value} (h : w.grownBy w' (some g)) (hp : p ≠ g) (hc : w.cell? ⟨p, 0, none⟩ = some u) : w'.cell? ⟨p, 0, none⟩ = some u := by
  rw [← hc]
  exact World.cell?_of_block (h.block p (World.block_lt_of_cell? w _ hc) (fun e => hp (Option.some.inj e)))
/-- entries of one's own are made empty -/
theorem run_clearE {w : World} {g off n : Nat} {cur : Array Value} {t : TypeId} (hn : 0 < n) (hb : Blk w g t cur) (h : off + n * 2 ≤ cur.size) :
    ∃ cs, cs.size = cur.size ∧ (∀ q, q < off → cs[q]? = cur[q]?) ∧ ∀ ty c, (Builtin.clear_ #[34] ty #[.slice (some ⟨g, off, none⟩) n c]).run Try.prog w = .ok (.tuple #[]) (w.setRow g cs) := by
  have hz : ∀ W : World, (zeroValue 29).run Try.prog W = .ok (.agg #[.string ⟨#[]⟩, .string ⟨#[]⟩]) W := by
    intro W
    have hi : (Try.prog.info? 29).map (·.zero) = some (some (.agg #[.string ⟨#[]⟩, .string ⟨#[]⟩])) := by kernel_rfl
    cases hq : Try.prog.info? 29 with
    | none => simp [hq] at hi
    | some i =>
      have hz : i.zero = some (.agg #[.string ⟨#[]⟩, .string ⟨#[]⟩]) := by simpa [hq] using hi
      simp [zeroValue, typeInfo, hq, hz]
  obtain ⟨m, rfl⟩ : ∃ m, n = m + 1 := ⟨n - 1, by omega⟩
  have hl : (Builtin.zeroCells #[.string ⟨#[]⟩, .string ⟨#[]⟩] (m + 1)).toList.length = (m + 1) * 2 := by simp [size_zeroCells]
  have h1 : ∀ u ∈ (Builtin.zeroCells #[.string ⟨#[]⟩, .string ⟨#[]⟩] (m + 1)).toList, u.oneCell' = true := by
    intro u hu
    simp only [Builtin.zeroCells, Array.toList_map, List.mem_map] at hu
    obtain ⟨i, _, rfl⟩ := hu
    rcases Nat.mod_two_eq_zero_or_one i with h0 | h0
    · simp only [List.size_toArray, List.length_cons, List.length_nil, h0]; rfl
    · simp only [List.size_toArray, List.length_cons, List.length_nil, h0]; rfl
  have hst := run_storeCells_at Try.prog g off t (Builtin.zeroCells #[.string ⟨#[]⟩, .string ⟨#[]⟩] (m + 1)).toList 0 cur w hb (by rw [hl]; omega) h1
  simp only [Nat.add_zero] at hst
  refine ⟨splice cur off (Builtin.zeroCells #[.string ⟨#[]⟩, .string ⟨#[]⟩] (m + 1)).toList, splice_size _ _ _ (by rw [hl]; omega), fun q hq => splice_out _ _ _ (by rw [hl]; omega) _ (.inl hq), fun ty c => ?_⟩
  simp [Builtin.clear_, run_underlying Try.underlying34, hz, Value.cells, hst, splice]
end Go.Proofs.Ytmndkbheehcoaaa
/- Steps of regions that make and fill variables; structs built of parts. No condition. -/
namespace Go.Proofs.Ytmndkbheehcoaaa
open Go.RowKit
set_option linter.unusedVariables false
set_option linter.unusedSimpArgs false

section
variable {P : Program} {ops : Array Oper} {o : Oper} {a : Act} {w : World} {K : Act → World → Prop} {Q : Exit → Act → World → Prop} {E : Prop}
/-- a new variable: one step of a region -/
theorem stp_alloc {t : TypeId} (z : Array Value) (hz : (P.info? t).map (·.zero) = some (some (.agg z))) (hgd : o.guard = none) (ho : o.op = .alloc t)
    (h : K (a.put o.dst (.pointer (some ⟨w.heap.size, 0, none⟩))) (w.alloc (.cells z t))) : if Region.wanted o (yielded ops a.tmps) = true then Oper.wp P o a w K Q else E := by
  have hw : Region.wanted o (yielded ops a.tmps) = true := by simp [Region.wanted, hgd]
  rw [if_pos hw]
  cases hq : P.info? t with
  | none => simp [hq] at hz
  | some i =>
    have hz' : i.zero = some (.agg z) := by simpa [hq] using hz
    have hrun : (Instr.alloc t true (.tuple #[])).run P w = .ok (.pointer (some ⟨w.heap.size, 0, none⟩)) (w.alloc (.cells z t)) := by
      simp [Instr.alloc, zeroValue, typeInfo, hq, hz', newVar, newRow, Value.cells]
    unfold Oper.wp execOp
    simp only [ho, Sem.run_bind, hrun, Result.andThen_ok, Sem.run_pure]
    exact h
/-- a variable of a struct's type, made full: one step of a region -/
theorem stp_box {t : TypeId} {cs : Array Value} (hgd : o.guard = none) (x : Operand) (ho : o.op = .box t x) (hx : a.eval x = .agg cs)
    (h : K (a.put o.dst (.pointer (some ⟨w.heap.size, 0, none⟩))) (w.alloc (.cells cs t))) : if Region.wanted o (yielded ops a.tmps) = true then Oper.wp P o a w K Q else E := by
  have hw : Region.wanted o (yielded ops a.tmps) = true := by simp [Region.wanted, hgd]
  rw [if_pos hw]
  have hrun : (Instr.box t (.agg cs)).run P w = .ok (.pointer (some ⟨w.heap.size, 0, none⟩)) (w.alloc (.cells cs t)) := by
    simp [Instr.box, newVar, newRow, Value.cells]
  unfold Oper.wp execOp
  simp only [ho, hx, Sem.run_bind, hrun, Result.andThen_ok, Sem.run_pure]
  exact h
/-- a struct is stored: one step of a region -/
theorem stp_storeP {t g e n off : Nat} {cs cur : Array Value} (hb : Blk w g e cur) (ht : Agg P t n) (hs : St n cs) (hl : off + n ≤ cur.size) (hgd : o.guard = none) (x y : Operand) (ho : o.op = .store t x y)
    (hx : a.eval x = .pointer (some ⟨g, off, none⟩)) (hy : a.eval y = .agg cs) (hd : o.dst = none) (h : K a (w.setRow g (splice cur off cs.toList))) :
    if Region.wanted o (yielded ops a.tmps) = true then Oper.wp P o a w K Q else E := by
  have hw : Region.wanted o (yielded ops a.tmps) = true := by simp [Region.wanted, hgd]
  rw [if_pos hw]
  have hsz : cs.toList.length = n := by rw [Array.length_toList, hs.size]
  have hrun := run_storeCells_at P g off e cs.toList 0 cur w hb (by rw [hsz]; simpa using hl) hs.one
  simp only [Nat.add_zero] at hrun
  have ht2 := ht.2
  cases hq : P.info? t with
  | none => simp [hq] at ht2
  | some i =>
    have hs' : i.size = cs.toList.length := by rw [hsz]; simpa [hq] using ht2
    unfold Oper.wp execOp
    simp only [ho, hx, hy, Instr.storeAt, Instr.sureAddr, Sem.run_bind, Sem.run_pure, Result.andThen_ok]
    have hst : (storeVar t ⟨g, off, none⟩ (.agg cs)).run P w = .ok () (w.setRow g (splice cur off cs.toList)) := by
      simp only [storeVar, Sem.run_bind, sizeOf, typeInfo]
      simp only [Array.length_toList] at hs'
      simp [hq, hs', Value.cells, hrun, splice]
    rw [hst]
    simp only [Result.andThen_ok, Sem.run_pure]
    simpa [hd, Act.put, Oper.upon] using h
theorem yields_build {S : World → Prop} {t : TypeId} {parts : Array (Nat × Operand)} {cells : Array Value} (hw : Region.wanted o (yielded ops a.tmps) = true) (ho : o.op = .build t parts)
    (hb : P.built t (parts.toList.map fun p => (p.1, a.eval p.2)) = some cells) : YieldsIf P ops S o (.agg cells) a := Or.inl ⟨hw, fun W hW => by
  replace hb : P.built t (parts.map fun (i, x) => (i, a.eval x)).toList = some cells := by rw [Array.toList_map]; exact hb
  unfold execOp
  simp only [ho, Sem.run_bind, run_build (P := P) W t _ cells hb, Result.andThen_ok, Sem.run_pure]⟩
theorem wpl_buildN {rest : List Oper} {t : TypeId} {parts : Array (Nat × Operand)} {cells : Array Value} (hgd : o.guard = none) (ho : o.op = .build t parts)
    (hb : P.built t (parts.toList.map fun p => (p.1, a.eval p.2)) = some cells) (h : wpList P ops Q rest (a.put o.dst (.agg cells)) w) : wpList P ops Q (o :: rest) a w := by
  replace hb : P.built t (parts.map fun (i, x) => (i, a.eval x)).toList = some cells := by rw [Array.toList_map]; exact hb
  refine wpList_plain hgd fun K hK => ?_
  refine wp_build t parts ho (by rw [hb]; rfl) ?_
  rw [hb]
  exact hK _ _ h
end
theorem fill_at (l : List Value) (n off : Nat) (Z : Array Value) (h : off + n + l.length ≤ Z.size) : ((l.zipIdx n).foldl (fun cs x => cs.setIfInBounds (off + x.2) x.1) Z) = splice Z (off + n) l := by
  induction l generalizing n Z with
  | nil =>
    simp only [List.zipIdx_nil, List.foldl_nil, splice, List.length_nil, Nat.add_zero, List.append_nil, List.take_append_drop, Array.toArray_toList]
  | cons x r ih =>
    simp only [List.length_cons] at h
    simp only [List.zipIdx_cons, List.foldl_cons]
    rw [ih (n + 1) _ (by simp; omega)]
    have e := list_seg_step Z.toList (off + n) x r (by simp; omega)
    unfold splice
    rw [Array.toList_setIfInBounds, List.length_cons]
    rw [show off + (n + 1) = off + n + 1 by omega, e]
theorem fill_one (place : Nat → Option (Nat × Nat)) (Z : Array Value) (i off n : Nat) (v : Value) (rest : List (Nat × Value)) (hp : place i = some (off, n)) (hv : v.cells.size = n) (hl : off + n ≤ Z.size) :
    Instr.fill place Z ((i, v) :: rest) = Instr.fill place (splice Z off v.cells.toList) rest := by
  have hf := fill_at v.cells.toList 0 off Z (by rw [Array.length_toList, hv]; omega)
  have hz : v.cells.zipIdx.foldl (fun cs x => cs.setIfInBounds (off + x.2) x.1) Z = splice Z off v.cells.toList := by
    rw [← Array.foldl_toList, Array.toList_zipIdx]
    simpa using hf
  rw [Instr.fill, hp]
  simp only [hv]
  rw [if_neg (by simp; omega)]
  exact congrArg (fun z => Instr.fill place z rest) hz
def zNd : List Value := List.replicate 64 (Value.int .u8 0) ++ [Value.string ⟨#[]⟩, Value.string ⟨#[]⟩]
theorem fold_fillA (cs Z : Array Value) (n : Nat) (hn : cs.size = n) (h : Z.size = n) : Array.foldl (fun cs x => cs.setIfInBounds x.2 x.1) Z cs.zipIdx 0 n = cs := by
  subst hn
  have e := fold_fill cs.toList Z (by simpa using h)
  rw [← Array.toList_zipIdx, Array.foldl_toList] at e
  simpa using e
/-- a node, built of its parts -/
theorem built_node (x : Nd) (hx : x.ok) : Try.prog.built 31 [(0, .agg (numsA .u8 x.l)), (1, .agg (numsA .u8 x.r)), (2, .agg #[.string x.n, .string x.v])] = some x.enc.toArray := by
  have hb : ∀ parts, Try.prog.built 31 parts = Instr.fill (fun i => #[(0, 32), (32, 32), (64, 2)][i]?) zNd.toArray parts := fun parts => by kernel_rfl
  have hnl : (nums .u8 x.l).length = 32 := by rw [nums_length, hx.1.1]
  have hnr : (nums .u8 x.r).length = 32 := by rw [nums_length, hx.2.1.1]
  have e1 : splice zNd.toArray 0 (nums .u8 x.l) = (nums .u8 x.l ++ zNd.drop 32).toArray := by
    have := splice_next [] zNd (nums .u8 x.l) (o := 0) rfl
    rw [hnl] at this
    simpa using this
  have e2 : splice (nums .u8 x.l ++ zNd.drop 32).toArray 32 (nums .u8 x.r) = (nums .u8 x.l ++ nums .u8 x.r ++ zNd.drop 64).toArray := by
    have := splice_next (nums .u8 x.l) (zNd.drop 32) (nums .u8 x.r) (o := 32) hnl
    rw [hnr, List.drop_drop] at this
    exact this
  have e3 : splice (nums .u8 x.l ++ nums .u8 x.r ++ zNd.drop 64).toArray 64 [.string x.n, .string x.v] = x.enc.toArray := by
    have := splice_next (nums .u8 x.l ++ nums .u8 x.r) (zNd.drop 64) [.string x.n, .string x.v] (o := 64) (by rw [List.length_append, hnl, hnr])
    rw [show (zNd.drop 64).drop ([Value.string x.n, Value.string x.v]).length = [] from rfl, List.append_nil] at this
    exact this
  have c1 : (Value.agg (numsA .u8 x.l)).cells.toList = nums .u8 x.l := rfl
  have c2 : (Value.agg (numsA .u8 x.r)).cells.toList = nums .u8 x.r := rfl
  have c3 : (Value.agg #[.string x.n, .string x.v]).cells.toList = [.string x.n, .string x.v] := rfl
  have z1 : zNd.length = 66 := rfl
  rw [hb, fill_one _ _ 0 0 32 _ _ rfl (by rw [← Array.length_toList, c1, hnl]) (by rw [List.size_toArray, z1]; decide), c1, e1,
    fill_one _ _ 1 32 32 _ _ rfl (by rw [← Array.length_toList, c2, hnr]) (by rw [List.size_toArray, List.length_append, hnl]; decide), c2, e2,
    fill_one _ _ 2 64 2 _ _ rfl rfl (by rw [List.size_toArray, List.length_append, List.length_append, hnl, hnr]; decide), c3, e3, Instr.fill]
/-- a number and a whole array in a variable are the results -/
theorem results_tb {P : Program} {w : World} {fn : Func} {c d : Tmp} {t g e n : Nat} {cs : Array Value} (hr : fn.results = #[.tmp d, .cell c t]) (tmps : Array Value) (hp : tmps.getD c undef = .pointer (some ⟨g, 0, none⟩)) (ht : Agg P t n) (hn : cs.size = n) (hb : Blk w g e cs) {v : Value} (hv : tmps.getD d undef = v) :
    (results fn tmps).run P w = .ok (.tuple #[v, .agg cs]) w := by
  have hl := run_loadB (P := P) hb ht hn
  have hp' : tmps[c]?.getD undef = .pointer (some ⟨g, 0, none⟩) := by simpa using hp
  have hv' : tmps[d]?.getD undef = v := by simpa using hv
  simp [results, hr, hp', hv', asAddr, hl]
theorem rowNd : Row Try.prog tNd 36 31 96 := Row.mk' Try.underlying36 (.agg zNd.toArray) (by kernel_rfl) rfl (by decide) (by decide)
theorem rd_nd {w : World} {S : Nat → Prop} {A : Option Addr} {c n : Nat} {xs : List Nd} (h : RdL tNd w S (.slice A n c) xs) : Rd w S tNd.sz A xs.length (xs.flatMap tNd.enc) := by
  obtain ⟨A', cap, e, h1, h2, h3, h4⟩ := h
  injection e with e1 e2 e3
  subst e1
  exact h3
theorem ok_nd {w : World} {S : Nat → Prop} {v : Value} {xs : List Nd} (h : RdL tNd w S v xs) : ∀ y ∈ xs, tNd.ok y := by
  obtain ⟨A', cap, e, h1, h2, h3, h4⟩ := h
  exact h4
end Go.Proofs.Ytmndkbheehcoaaa
/- The program's key of a node; nodes in the laws' words. No condition. -/
namespace Go.Proofs.Ytmndkbheehcoaaa
open Go.RowKit
set_option linter.unusedVariables false
set_option linter.unusedSimpArgs false

theorem aggMapNodeL : Agg Try.prog 96 66 := aggNodeL
theorem aggMapNodeI : Agg Try.prog 31 66 := aggNodeI
set_option maxHeartbeats 1000000 in
set_option maxRecDepth 100000 in
theorem nodeKey_any (x : Nd) (hok : x.ok) (he : entB x.n x.v = true) (w : World) :
    Calls Try.prog 101 #[.agg x.enc.toArray] w fun e w' => e = .returned (.agg (numsA .u8 (hashL 5 (nodeL x)))) ∧ Ext w w' := by
  have hk := (hashL_ok 5 (nodeL x)).1
  have hle := entB_le he
  have hnl := nodeL_length hok
  have Hnl : Hid ((nodeL x).length ≤ 1000) := Lib.hid (by omega)
  have hsz := (Nd.st hok).size
  clear hle hnl
  go_enter Try.func101, Try.ntmps101
  go_wp2_with (refine wpl_loadB ((Blk.new w _ _).alloc _) aggNodeI hsz rfl _ rfl rfl ?_)
  refine (nodeBytes_any x hok he _).mono ?_
  rintro e w1 ⟨v1, rfl, ho, hx⟩
  obtain ⟨A1, n1, c1, rfl⟩ := ho.shape3
  have B1 := Lib.hid ((Blk.new' (g := w.heap.size + 1) (w := w.alloc _) (by simp) 27 _).ext hx)
  have XW := Lib.hid (((ext_alloc w _).alloc _).trans hx)
  have HO := Lib.hid ho
  clear hx ho
  go_wp2_with fail
  refine (hash_any 5 (by decide) _ (nodeL x) _ _ HO.out.rd (by have := Hnl.out; omega)).mono ?_
  rintro e w2 ⟨rfl, hx⟩
  replace B1 := Lib.hid (B1.out.ext hx)
  replace XW := Lib.hid (XW.out.trans hx)
  clear hx HO
  go_wp2_with (refine wpl_storeN B1.out aggKey hk rfl rfl _ _ rfl rfl rfl rfl ?_)
  refine bodyPost_ret (results_blk rfl _ rfl aggKey hk (B1.out.setRow _)) rfl ?_
  exact ⟨rfl, XW.out.setRow (by omega) _⟩
set_option maxHeartbeats 1000000 in
set_option maxRecDepth 100000 in
theorem implMapNodeKey_any (x : Nd) (hok : x.ok) (w : World) :
    Calls Try.prog 41 #[.agg x.enc.toArray] w fun e w' => e = .returned (.tuple #[.agg (numsA .u8 (nodeKR x).1), .int .i64 (nodeKR x).2]) ∧ Ext w w' := by
  have hk := (hashL_ok 5 (nodeL x)).1
  have hc := validEntry_any x.n x.v hok.2.2.1 hok.2.2.2
  have hsz := (Nd.st hok).size
  cases hb : entB x.n x.v with
  | true =>
    have HE := Lib.hid hb
    simp only [nodeKR, hb, if_true]
    simp only [hb] at hc
    clear hb
    go_enter Try.func41, Try.ntmps41
    go_wp2_with (refine wpl_loadP (off := 64) (sub := #[.string x.n, .string x.v]) ((Blk.new w _ _).alloc _) aggEntryI rfl (Nd.ent hok) rfl _ rfl rfl ?_)
    refine (hc _).mono ?_
    rintro e w1 ⟨rfl, hx⟩
    have B0 := Lib.hid (((Blk.new w 31 x.enc.toArray).alloc _).ext hx)
    have B1 := Lib.hid ((Blk.new' (g := w.heap.size + 1) (w := w.alloc _) (by simp) 27 _).ext hx)
    have XW := Lib.hid (((ext_alloc w _).alloc _).trans hx)
    clear hx
    go_wp2_with (refine wpl_loadB B0.out aggNodeI hsz rfl _ rfl rfl ?_)
    refine (nodeKey_any x hok HE.out _).mono ?_
    rintro e w2 ⟨rfl, hx⟩
    replace B1 := Lib.hid (B1.out.ext hx)
    replace XW := Lib.hid (XW.out.trans hx)
    clear hx B0
    go_wp2_with (refine wpl_storeN B1.out aggKey hk rfl rfl _ _ rfl rfl rfl rfl ?_)
    refine bodyPost_ret (results_blk2 rfl _ rfl aggKey hk (B1.out.setRow _) rfl) rfl ?_
    exact ⟨rfl, XW.out.setRow (by omega) _⟩
  | false =>
    simp only [nodeKR, hb, Bool.false_eq_true, if_false]
    simp only [hb] at hc
    clear hb
    go_enter Try.func41, Try.ntmps41
    go_wp2_with (refine wpl_loadP (off := 64) (sub := #[.string x.n, .string x.v]) ((Blk.new w _ _).alloc _) aggEntryI rfl (Nd.ent hok) rfl _ rfl rfl ?_)
    refine (hc _).mono ?_
    rintro e w1 ⟨rfl, hx⟩
    have B1 := Lib.hid ((Blk.new' (g := w.heap.size + 1) (w := w.alloc _) (by simp) 27 _).ext hx)
    have XW := Lib.hid (((ext_alloc w _).alloc _).trans hx)
    clear hx
    go_wp2_with (refine wpl_storeN (xs := List.replicate 32 0) B1.out aggKey rfl rfl rfl _ _ rfl rfl rfl rfl ?_)
    refine bodyPost_ret (results_blk2 rfl _ rfl aggKey rfl (B1.out.setRow _) rfl) rfl ?_
    exact ⟨rfl, XW.out.setRow (by omega) _⟩
theorem specMapNodeKey_u (cs : Array Value) (x : Nd) (w : World) (S : Nat → Prop) (h : RMapNode w S cs x) :
    Calls Try.prog 61 #[.agg cs] w fun e w' => e = .returned (.tuple #[.agg (numsA .u8 (nodeKR x).1), .int .i64 (nodeKR x).2]) ∧ Ext w w' := by
  obtain ⟨rfl, h⟩ := h
  exact specMapNodeKey_any x h w
theorem implMapNodeKey_u (cs : Array Value) (x : Nd) (w : World) (S : Nat → Prop) (h : RMapNode w S cs x) :
    Calls Try.prog 41 #[.agg cs] w fun e w' => e = .returned (.tuple #[.agg (numsA .u8 (nodeKR x).1), .int .i64 (nodeKR x).2]) ∧ Ext w w' := by
  obtain ⟨rfl, h⟩ := h
  exact implMapNodeKey_any x h w

end Go.Proofs.Ytmndkbheehcoaaa
/- Lists of nodes: copied, counted, held against each other. No condition. -/
namespace Go.Proofs.Ytmndkbheehcoaaa
open Go.RowKit
set_option linter.unusedVariables false
set_option linter.unusedSimpArgs false

theorem toNdT_any (a : Nd) (ha : tNd.ok a) (w : World) :
    Calls Try.prog 84 #[.agg (tNd.enc a).toArray] w fun e w' => e = .returned (.agg (tNd.enc a).toArray) ∧ Ext w w' := toMapNode_any a ha w
set_option maxHeartbeats 1000000 in
set_option maxRecDepth 100000 in
theorem toMapNodeS_u (v : Value) (xs : List Nd) (w : World) (S : Nat → Prop) (h : RdL tNd w S v xs) (hln : xs.length ≤ 1048576) :
    Calls Try.prog 16 #[v] w fun e w' => ∃ v', e = .returned v' ∧ Own tNd 31 w' w.heap.size v' xs ∧ Ext w w' := by
  obtain ⟨A, cap, rfl, hcap, hlen, hrd, hok⟩ := h
  have Hrd := Lib.hid hrd
  have Hok := Lib.hid hok
  have HF := Lib.hid (flat_length tNd xs hok)
  clear hrd hok
  obtain ⟨Z, hms, hm⟩ := make_rowN 36 31 66 96 Try.underlying36 (by kernel_rfl) .i64 .i64 xs.length (by omega) (by omega)
  have HMS := Lib.hid hms
  clear hms
  go_enter Try.func16, Try.ntmps16
  go_wp2
  go_loopw [4] (fun i wr => ∃ k : Nat, k ≤ xs.length ∧ i = .int .i64 k ∧ Fill wr w.heap.size 31 ((xs.take k).flatMap (tNd).enc) ((xs.length - k) * 66) ∧ Ext w wr)
    (fun i _ => xs.length - (intOf i).toNat)
  case atStart => exact ⟨0, by omega, rfl, by rw [List.take_zero]; exact Fill.start' (Blk.new w _ _) (by rw [HMS.out, Nat.sub_zero]), ext_alloc _ _⟩
  case round =>
    obtain ⟨k, hk, rfl, hF, hx⟩ := hrel
    have HFl := Lib.hid hF
    have HX := Lib.hid hx
    clear hm hF hx
    by_cases hlt : k < xs.length
    · obtain ⟨g, o, rfl, hs, hc⟩ := Hrd.out.elem Hok.out k hlt
      have hx0 : (tNd).ok xs[k] := Hok.out _ (List.getElem_mem hlt)
      have HX0 := Lib.hid hx0
      have hd : ∀ j u, ((tNd).enc xs[k])[j]? = some u → wr.cell? ⟨g, o + k * 66 + j, none⟩ = some u := fun j u hu => HX.out.cell (hc j u hu)
      have HD := Lib.hid hd
      have HL := Lib.hid (flat_length tNd (xs.take k) (fun x hx => Hok.out x (List.mem_of_mem_take hx)))
      have HTK := Lib.hid (show (xs.take k).length = k by rw [List.length_take]; omega)
      have HSN := Lib.hid (show (xs.take (k + 1)).flatMap (tNd).enc = (xs.take k).flatMap (tNd).enc ++ (tNd).enc xs[k] by rw [List.take_succ_eq_append_getElem hlt, List.flatMap_append, List.flatMap_cons, List.flatMap_nil, List.append_nil])
      have HST := Lib.hid (show St 66 ((tNd).enc xs[k]).toArray from ⟨by rw [List.size_toArray]; exact (tNd).len _ hx0, by simpa using (tNd).one _⟩)
      have HMU := Lib.hid (show (xs.length - k) * 66 = 66 + (xs.length - (k + 1)) * 66 by omega)
      clear hc hd hx0
      have hi : (0 : Int) ≤ (k : Int) := by omega
      go_wp2_with (refine wpl_load ⟨g, o + k * 66, none⟩ ((tNd).enc xs[k]) (by rw [(tNd).len _ HX0.out]; exact aggNodeL) rfl _ rfl rfl (fun j u hu => by rw [Addr.add_lit]; exact HD.out j u hu) ?_)
      refine (toNdT_any xs[k] HX0.out _).mono ?_
      rintro e w1 ⟨rfl, hx⟩
      have HF2 := Lib.hid (HFl.out.ext hx)
      have HX2 := Lib.hid (HX.out.trans hx)
      clear hx HX HFl HD
      go_wp2_with (refine wpl_fill (n := 66) (m := (xs.length - (k + 1)) * 66) (by rw [← HMU.out]; exact HF2.out) (by rw [HL.out, HTK.out]; rfl) aggNodeI HST.out rfl _ _ rfl rfl rfl rfl ?_; intro row hF; have HF3 := Lib.hid hF; clear hF)
      go_roundw
      case rel => exact ⟨k + 1, by omega, by go_num, by rw [HSN.out]; simpa using HF3.out, HX2.out.setRow (Nat.le_refl _) _⟩
      case measure => simp [intOf]; omega
    · obtain rfl : k = xs.length := by omega
      have hb := HFl.out
      rw [List.take_length, Nat.sub_self, Nat.zero_mul] at hb
      have HB := Lib.hid hb.done
      clear hb
      go_wp2
      go_ret
      exact ⟨_, rfl, Own.of_blk tNd HB.out (Nat.le_refl _) hlen Hok.out, HX.out⟩

set_option maxHeartbeats 1000000 in
set_option maxRecDepth 100000 in
theorem eqNdT_any (a : Nd) (ha : tNd.ok a) (w : World) :
    Calls Try.prog 18 #[.agg (tNd.enc a).toArray, .agg (tNd.enc a).toArray] w fun e w' => e = .returned (.bool true) ∧ Ext w w' := by
  have hok : a.ok := ha
  have HL := Lib.hid (sizeN (k := .u8) hok.1.1)
  have HR := Lib.hid (sizeN (k := .u8) hok.2.1.1)
  have b1 : (a.l == a.l) = true := by simp
  have b2 : (a.r == a.r) = true := by simp
  show Calls Try.prog 18 #[.agg a.enc.toArray, .agg a.enc.toArray] w _
  go_enter Try.func18, Try.ntmps18
  go_wp2_with (first
    | (refine wpl_loadP (off := 0) (sub := numsA .u8 a.l) ((Blk.new w 31 a.enc.toArray).alloc _) aggKey HL.out (Nd.left hok) rfl _ rfl rfl ?_)
    | (refine wpl_loadP (off := 0) (sub := numsA .u8 a.l) (Blk.new' (g := w.heap.size + 1) (w := w.alloc _) (by simp) 31 a.enc.toArray) aggKey HL.out (Nd.left hok) rfl _ rfl rfl ?_))
  refine (eqKey_any a.l a.l hok.1 hok.1 _).mono ?_
  rintro e w1 ⟨rfl, hx⟩
  rw [b1]
  have B0 := Lib.hid (((Blk.new w 31 a.enc.toArray).alloc _).ext hx)
  have B1 := Lib.hid ((Blk.new' (g := w.heap.size + 1) (w := w.alloc _) (by simp) 31 a.enc.toArray).ext hx)
  have XW := Lib.hid (((ext_alloc w _).alloc _).trans hx)
  clear hx
  go_wp2_with (first
    | (refine wpl_loadP (off := 32) (sub := numsA .u8 a.r) B0.out aggKey HR.out (Nd.right hok) rfl _ rfl rfl ?_)
    | (refine wpl_loadP (off := 32) (sub := numsA .u8 a.r) B1.out aggKey HR.out (Nd.right hok) rfl _ rfl rfl ?_))
  refine (eqKey_any a.r a.r hok.2.1 hok.2.1 _).mono ?_
  rintro e w2 ⟨rfl, hx⟩
  rw [b2]
  replace B0 := Lib.hid (B0.out.ext hx)
  replace B1 := Lib.hid (B1.out.ext hx)
  replace XW := Lib.hid (XW.out.trans hx)
  clear hx
  go_wp2_with (first
    | (refine wpl_loadP (off := 64) (sub := #[.string a.n, .string a.v]) B0.out aggEntryI rfl (Nd.ent hok) rfl _ rfl rfl ?_)
    | (refine wpl_loadP (off := 64) (sub := #[.string a.n, .string a.v]) B1.out aggEntryI rfl (Nd.ent hok) rfl _ rfl rfl ?_))
  refine (eqEntT_any (a.n, a.v) ⟨hok.2.2.1, hok.2.2.2⟩ _).mono ?_
  rintro e w3 ⟨rfl, hx⟩
  replace XW := Lib.hid (XW.out.trans hx)
  clear hx
  go_wp2
  go_ret
  exact ⟨rfl, XW.out⟩
set_option maxHeartbeats 1000000 in
set_option maxRecDepth 100000 in
theorem eqMapNodeS_u (v u : Value) (xs : List Nd) (w : World) (S S' : Nat → Prop) (h : RdL tNd w S v xs) (h' : RdL tNd w S' u xs) :
    Calls Try.prog 20 #[v, u] w fun e w' => e = .returned (.bool true) ∧ Ext w w' := by
  obtain ⟨A, cap, rfl, hcap, hlen, hrd, hok⟩ := h
  obtain ⟨A', cap', rfl, hcap', hlen', hrd', hok'⟩ := h'
  have Hrd := Lib.hid hrd
  have Hrd' := Lib.hid hrd'
  have Hok := Lib.hid hok
  clear hrd hok hrd' hok'
  have hl1 : ((xs.length : Int) != (xs.length : Int)) = false := by simp
  go_enter Try.func20, Try.ntmps20
  go_wp2
  go_loopw [5] (fun i wr => ∃ k : Nat, k ≤ xs.length ∧ i = .int .i64 k ∧ Ext w wr) (fun i _ => xs.length - (intOf i).toNat)
  case atStart => exact ⟨0, by omega, rfl, Ext.refl _⟩
  case round =>
    obtain ⟨k, hk, rfl, hx⟩ := hrel
    have HX := Lib.hid hx
    clear hx hl1
    by_cases hlt : k < xs.length
    · obtain ⟨g, o, rfl, hs, hc⟩ := Hrd.out.elem Hok.out k hlt
      obtain ⟨g2, o2, rfl, hs2, hc2⟩ := Hrd'.out.elem Hok.out k hlt
      have HX0 := Lib.hid (show (tNd).ok xs[k] from Hok.out _ (List.getElem_mem hlt))
      have HD := Lib.hid (show ∀ j u, ((tNd).enc xs[k])[j]? = some u → wr.cell? ⟨g, o + k * 66 + j, none⟩ = some u from fun j u hu => HX.out.cell (hc j u hu))
      have HD2 := Lib.hid (show ∀ j u, ((tNd).enc xs[k])[j]? = some u → wr.cell? ⟨g2, o2 + k * 66 + j, none⟩ = some u from fun j u hu => HX.out.cell (hc2 j u hu))
      clear hc hc2
      have hi : (0 : Int) ≤ (k : Int) := by omega
      have hi2 : (k : Int) < (xs.length : Int) := by omega
      go_wp2_with fail
      refine wp_region_held_drew (S := fun W => Ext wr W) (by kernel_rfl) (Ext.refl _).drew (fun hHeld => ?_)
      refine wpAnyH_take (i := 0) (oi := ?oiq0) (v := ?vq0) ?hiq0 (by kernel_rfl) (by kernel_rfl) (by kernel_rfl) ?hQq0 ?hyq0 (by assumption) ?restq0
      case hiq0 => simp only [List.getElem?_toArray, List.getElem?_cons_zero, List.getElem?_cons_succ]; rfl
      case hQq0 => exact fun _ _ _ h => h
      case hyq0 => exact Or.inl ⟨by rfl, by intro w hSw; go_simp; with_reducible rfl⟩
      try simp only [Act.put, List.setIfInBounds_toArray, List.set_cons_zero, List.set_cons_succ]
      refine wpAnyH_take (i := 1) (oi := ?oiq1) (v := ?vq1) ?hiq1 (by kernel_rfl) (by kernel_rfl) (by kernel_rfl) ?hQq1 ?hyq1 (by assumption) ?restq1
      case hiq1 => simp only [List.getElem?_toArray, List.getElem?_cons_zero, List.getElem?_cons_succ]; rfl
      case hQq1 => exact fun _ _ _ h => h
      case hyq1 => exact Or.inl ⟨by rfl, by intro w hSw; go_simp; with_reducible rfl⟩
      try simp only [Act.put, List.setIfInBounds_toArray, List.set_cons_zero, List.set_cons_succ]
      refine wpAnyH_take (i := 2) (oi := ?oiq2) (v := ?vq2) ?hiq2 (by kernel_rfl) (by kernel_rfl) (by kernel_rfl) ?hQq2 ?hyq2 (by assumption) ?restq2
      case hiq2 => simp only [List.getElem?_toArray, List.getElem?_cons_zero, List.getElem?_cons_succ]; rfl
      case hQq2 => exact fun _ _ _ h => h
      case hyq2 => exact Or.inl ⟨by rfl, by intro w hSw; go_simp; with_reducible rfl⟩
      try simp only [Act.put, List.setIfInBounds_toArray, List.set_cons_zero, List.set_cons_succ]
      refine wpAnyH_take (i := 3) (oi := ?oiq3) (v := (.agg ((tNd).enc xs[k]).toArray)) ?hiq3 (by kernel_rfl) (by kernel_rfl) (by kernel_rfl) ?hQq3 ?hyq3 (by assumption) ?restq3
      case hiq3 => simp only [List.getElem?_toArray, List.getElem?_cons_zero, List.getElem?_cons_succ]; rfl
      case hQq3 => exact fun _ _ _ h => h
      case hyq3 => refine yields_loadR g (o + k * 66) ((tNd).enc xs[k]) (by rw [(tNd).len _ HX0.out]; exact aggNodeI) HD.out ?_ _ rfl rfl; rfl
      try simp only [Act.put, List.setIfInBounds_toArray, List.set_cons_zero, List.set_cons_succ]
      refine wpAnyH_take (i := 4) (oi := ?oiq4) (v := ?vq4) ?hiq4 (by kernel_rfl) (by kernel_rfl) (by kernel_rfl) ?hQq4 ?hyq4 (by assumption) ?restq4
      case hiq4 => simp only [List.getElem?_toArray, List.getElem?_cons_zero, List.getElem?_cons_succ]; rfl
      case hQq4 => exact fun _ _ _ h => h
      case hyq4 => exact Or.inl ⟨by rfl, by intro w hSw; go_simp; with_reducible rfl⟩
      try simp only [Act.put, List.setIfInBounds_toArray, List.set_cons_zero, List.set_cons_succ]
      refine wpAnyH_take (i := 5) (oi := ?oiq5) (v := ?vq5) ?hiq5 (by kernel_rfl) (by kernel_rfl) (by kernel_rfl) ?hQq5 ?hyq5 (by assumption) ?restq5
      case hiq5 => simp only [List.getElem?_toArray, List.getElem?_cons_zero, List.getElem?_cons_succ]; rfl
      case hQq5 => exact fun _ _ _ h => h
      case hyq5 => exact Or.inl ⟨by rfl, by intro w hSw; go_simp; with_reducible rfl⟩
      try simp only [Act.put, List.setIfInBounds_toArray, List.set_cons_zero, List.set_cons_succ]
      refine wpAnyH_take (i := 6) (oi := ?oiq6) (v := ?vq6) ?hiq6 (by kernel_rfl) (by kernel_rfl) (by kernel_rfl) ?hQq6 ?hyq6 (by assumption) ?restq6
      case hiq6 => simp only [List.getElem?_toArray, List.getElem?_cons_zero, List.getElem?_cons_succ]; rfl
      case hQq6 => exact fun _ _ _ h => h
      case hyq6 => exact Or.inl ⟨by rfl, by intro w hSw; go_simp; with_reducible rfl⟩
      try simp only [Act.put, List.setIfInBounds_toArray, List.set_cons_zero, List.set_cons_succ]
      refine wpAnyH_take (i := 7) (oi := ?oiq7) (v := (.agg ((tNd).enc xs[k]).toArray)) ?hiq7 (by kernel_rfl) (by kernel_rfl) (by kernel_rfl) ?hQq7 ?hyq7 (by assumption) ?restq7
      case hiq7 => simp only [List.getElem?_toArray, List.getElem?_cons_zero, List.getElem?_cons_succ]; rfl
      case hQq7 => exact fun _ _ _ h => h
      case hyq7 => refine yields_loadR g2 (o2 + k * 66) ((tNd).enc xs[k]) (by rw [(tNd).len _ HX0.out]; exact aggNodeI) HD2.out ?_ _ rfl rfl; rfl
      try simp only [Act.put, List.setIfInBounds_toArray, List.set_cons_zero, List.set_cons_succ]
      refine wpAnyH_ready (rs := [8]) (by kernel_rfl) (by simp) (AllReadyH.cons (o := ?o8) ?h8 (fun K hK => ?s8) AllReadyH.nil)
      case h8 => simp only [List.getElem?_toArray, List.getElem?_cons_zero, List.getElem?_cons_succ]; rfl
      go_simp
      refine (eqNdT_any xs[k] HX0.out _).mono ?_
      rintro e w1 ⟨rfl, hx⟩
      have hH2 := hHeld.trans hx
      refine hK.out _ _ hH2 (fun _ => ?_)
      clear hHeld hK K
      have hHeld := hH2
      clear hH2 hx
      try simp only [Act.put, List.setIfInBounds_toArray, List.set_cons_zero, List.set_cons_succ]
      refine wpAnyH_take (i := 9) (oi := ?oiq9) (v := ?vq9) ?hiq9 (by kernel_rfl) (by kernel_rfl) (by kernel_rfl) ?hQq9 ?hyq9 (by assumption) ?restq9
      case hiq9 => simp only [List.getElem?_toArray, List.getElem?_cons_zero, List.getElem?_cons_succ]; rfl
      case hQq9 => exact fun _ _ _ h => h
      case hyq9 => exact Or.inl ⟨by rfl, by intro w hSw; go_simp; with_reducible rfl⟩
      try simp only [Act.put, List.setIfInBounds_toArray, List.set_cons_zero, List.set_cons_succ]
      refine wpAnyH_done (by kernel_rfl) ?_ _
      have HX2 := Lib.hid (HX.out.trans hHeld)
      clear hHeld
      go_wp2
      go_roundw
      case rel => exact ⟨k + 1, by omega, by go_num, HX2.out⟩
      case measure => simp [intOf]; omega
    · go_wp2
      go_ret
      exact ⟨rfl, HX.out⟩

/-- how much the entries take -/
@[irreducible] def ndsN (l : List Nd) : Nat := l.length + (l.map fun e => e.n.size + e.v.size).sum
theorem ndsN_eq (l : List Nd) : ndsN l = l.length + (l.map fun e => e.n.size + e.v.size).sum := by rw [ndsN]
def sumNd (l : List Nd) (k : Nat) : Nat := ((l.take k).map fun e => e.n.size + e.v.size).sum
theorem sumNd_zero (l : List Nd) : sumNd l 0 = 0 := by simp [sumNd]
theorem sumNd_succ (l : List Nd) (k : Nat) (h : k < l.length) : sumNd l (k + 1) = sumNd l k + (l[k].n.size + l[k].v.size) := by
  unfold sumNd
  rw [List.take_succ_eq_append_getElem h, List.map_append, List.sum_append]; simp
theorem sumNd_le (l : List Nd) (k : Nat) : sumNd l k ≤ (l.map fun e => e.n.size + e.v.size).sum := by
  unfold sumNd
  conv => rhs; rw [← List.take_append_drop k l, List.map_append, List.sum_append]
  omega
set_option maxHeartbeats 1000000 in
set_option maxRecDepth 100000 in
theorem szMapNodeS_u (v : Value) (xs : List Nd) (l : Int) (w : World) (S : Nat → Prop) (h : RdL tNd w S v xs) (h0 : -1 ≤ l) (h1 : l ≤ 1048576) :
    Calls Try.prog 13 #[v, .int .i64 l] w fun e w' => e = .returned (.int .i64 (if l - (ndsN xs : Nat) < 0 then -1 else l - (ndsN xs : Nat))) ∧ Ext w w' := by
  rw [ndsN_eq]
  obtain ⟨A, cap, rfl, hcap, hlen, hrd, hok⟩ := h
  have Hrd := Lib.hid hrd
  have Hok := Lib.hid hok
  obtain ⟨T, hT⟩ : ∃ T, (xs.map fun e => e.n.size + e.v.size).sum = T := ⟨_, rfl⟩
  have hle := fun k => sumNd_le xs k
  rw [hT] at hle ⊢
  have HT := Lib.hid hT
  have HLE := Lib.hid hle
  clear hrd hok hT hle
  by_cases h2 : l - (xs.length : Int) < 0
  · rw [if_pos (by omega)]
    go_enter Try.func13, Try.ntmps13
    go_wp2
    go_ret
    exact ⟨rfl, Ext.refl _⟩
  · obtain ⟨z, hz⟩ : ∃ z : Int, (if l - ((xs.length + T : Nat) : Int) < 0 then -1 else l - ((xs.length + T : Nat) : Int)) = z := ⟨_, rfl⟩
    rw [hz]
    have HZ := Lib.hid hz
    clear hz
    go_enter Try.func13, Try.ntmps13
    go_wp2
    go_loopw [1, 5] (fun q i wr => ∃ k : Nat, k ≤ xs.length ∧ i = .int .i64 k ∧ q = .int .i64 (l - xs.length - (sumNd xs k : Nat)) ∧ 0 ≤ l - (xs.length : Int) - (sumNd xs k : Nat) ∧ Ext w wr) (fun _ i _ => xs.length - (intOf i).toNat)
    case atStart => exact ⟨0, by omega, rfl, by rw [sumNd_zero]; simp, by rw [sumNd_zero]; omega, Ext.refl _⟩
    case round =>
      obtain ⟨k, hk, rfl, rfl, hs, hx⟩ := hrel
      have HX := Lib.hid hx
      clear hx
      by_cases hlt : k < xs.length
      · obtain ⟨g, o, rfl, hs0, hc⟩ := Hrd.out.elem Hok.out k hlt
        have HX0 := Lib.hid (show tNd.ok xs[k] from Hok.out _ (List.getElem_mem hlt))
        have HD0 := Lib.hid (show ∀ j u, (tNd.enc xs[k])[j]? = some u → wr.cell? ⟨g, o + k * 66 + j, none⟩ = some u from fun j u hu => HX.out.cell (hc j u hu))
        have HSS := Lib.hid (sumNd_succ xs k hlt)
        have hq := HLE.out (k + 1)
        rw [HSS.out] at hq
        clear hc
        have hi : (0 : Int) ≤ (k : Int) := by omega
        have hi2 : (k : Int) < (xs.length : Int) := by omega
        have hcz := fun W => szMapNode_u (tNd.enc xs[k]).toArray xs[k] (l - xs.length - (sumNd xs k : Nat)) W (fun _ => True) ⟨rfl, HX0.out⟩ (by omega) (by omega)
        by_cases h3 : l - (xs.length : Int) - (sumNd xs k : Nat) - (xs[k].n.size + xs[k].v.size : Nat) < 0
        · simp only [if_pos h3] at hcz
          have HP := Lib.hid (show l - ((xs.length + T : Nat) : Int) < 0 by omega)
          go_wp2_with (refine wpl_load ⟨g, o + k * 66, none⟩ (tNd.enc xs[k]) (by rw [tNd.len _ HX0.out]; exact aggNodeL) rfl _ rfl rfl (fun j u hu => by rw [Addr.add_lit]; exact HD0.out j u hu) ?_)
          refine (hcz _).mono ?_
          rintro e w1 ⟨rfl, hx⟩
          have HX2 := Lib.hid (HX.out.trans hx)
          clear hx
          go_wp2
          go_ret
          exact ⟨by rw [← HZ.out, if_pos HP.out]; rfl, HX2.out⟩
        · simp only [if_neg h3] at hcz
          go_wp2_with (refine wpl_load ⟨g, o + k * 66, none⟩ (tNd.enc xs[k]) (by rw [tNd.len _ HX0.out]; exact aggNodeL) rfl _ rfl rfl (fun j u hu => by rw [Addr.add_lit]; exact HD0.out j u hu) ?_)
          refine (hcz _).mono ?_
          rintro e w1 ⟨rfl, hx⟩
          have HX2 := Lib.hid (HX.out.trans hx)
          clear hx hcz
          go_wp2
          go_roundw
          case rel => exact ⟨k + 1, by omega, by go_num, by rw [HSS.out]; go_num, by rw [HSS.out]; omega, HX2.out⟩
          case measure => simp [intOf]; omega
      · obtain rfl : k = xs.length := by omega
        have e : sumNd xs xs.length = T := by rw [sumNd, List.take_length]; exact HT.out
        have HE := Lib.hid e
        rw [e] at hs
        clear e
        have HP := Lib.hid (show ¬ l - ((xs.length + T : Nat) : Int) < 0 by omega)
        go_wp2
        go_ret
        exact ⟨by rw [← HZ.out, if_neg (Int.not_lt.2 HP.out), HE.out]; exact ret_int (by omega), HX.out⟩

end Go.Proofs.Ytmndkbheehcoaaa
/- The key of a node that lies in a row. No condition. -/
namespace Go.Proofs.Ytmndkbheehcoaaa
open Go.RowKit
set_option linter.unusedVariables false
set_option linter.unusedSimpArgs false

set_option maxHeartbeats 1000000 in
set_option maxRecDepth 100000 in
theorem l04BytesAt_any (x : Nd) (hok : x.ok) (he : entB x.n x.v = true) (b off : Nat) (w : World) (hb : ∀ W, Ext w W → ∀ j u, x.enc.toArray[j]? = some u → W.cell? ⟨b, off + j, none⟩ = some u) :
    Calls Try.prog 141 #[.pointer (some ⟨b, off, none⟩)] w fun e w' => ∃ v', e = .returned v' ∧ Own tByte 5 w' w.heap.size v' (nodeL x) ∧ Ext w w' := by
  obtain ⟨hn1, hn2, hv⟩ := entB_le he
  have HB := Lib.hid hb
  have HL := Lib.hid hok.1.1
  have HR := Lib.hid hok.2.1.1
  have HLb := Lib.hid hok.1.2
  have HRb := Lib.hid hok.2.1.2
  have HO := Lib.hid hok
  clear hb hok he
  go_enter Try.func141, Try.ntmps141
  go_wp2_with fail
  go_loopw [3, 4] (fun o i wr => ∃ k : Nat, k ≤ 32 ∧ i = .int .i64 k ∧ Own tByte 5 wr w.heap.size o (x.l.take k) ∧ Ext w wr) (fun _ i _ => 32 - (intOf i).toNat)
  case atStart => exact ⟨0, by omega, rfl, by rw [List.take_zero]; exact Own.empty' tByte rfl _ _ (Nat.le_refl _), ext_alloc _ _⟩
  case round =>
    obtain ⟨k, hk, rfl, ho, hx⟩ := hrel
    have HO1 := Lib.hid ho
    have HX := Lib.hid hx
    obtain ⟨C, cn, cc, rfl⟩ := ho.shape3
    clear ho hx
    by_cases hlt : k < 32
    · have hd : wr.cell? ⟨b, off + k, none⟩ = some (.int .u8 (gI x.l k)) := by
        have := HB.out _ HX.out (0 + k) _ (Nd.left HO.out k _ (numsA_at .u8 x.l k (by rw [HL.out]; exact hlt)))
        rwa [Nat.zero_add] at this
      have hu := HLb.out.get k
      have HS2 := Lib.hid (take_snoc x.l k (by rw [HL.out]; exact hlt))
      go_wp2_with (at_builtin; refine wpl_append rowByte rfl _ _ rfl (v := .slice C cn cc) rfl (HO1.out.alloc _) _ _ rfl (A := some ⟨wr.heap.size, 0, none⟩) (ys := [gI x.l k]) rfl (rd_byte wr (gI x.l k) hu _) (okOne hu) (by simp; omega) (HX.out.alloc _).size ?_; intro v9 w9 ho1 hg1 hat1; have HX9 := Lib.hid ((HO1.out.alloc _).ext_app (HX.out.alloc _) hg1); have HO9 := Lib.hid ho1; clear ho1 hg1 hat1)
      go_roundw
      case rel => exact ⟨k + 1, by omega, by go_num, by rw [HS2.out]; exact HO9.out, HX9.out⟩
      case measure => simp [intOf]; omega
    · obtain rfl : k = 32 := by omega
      have e : x.l.take 32 = x.l := List.take_of_length_le (by rw [HL.out]; exact Nat.le_refl _)
      rw [e] at HO1
      clear e
      simp only [Int.cast_ofNat_Int]
      go_wp2_with fail
      go_loopw [3, 5] (fun o i wr => ∃ k : Nat, k ≤ 32 ∧ i = .int .i64 k ∧ Own tByte 5 wr w.heap.size o (x.l ++ x.r.take k) ∧ Ext w wr) (fun _ i _ => 32 - (intOf i).toNat)
      case atStart => exact ⟨0, by omega, rfl, by rw [List.take_zero, List.append_nil]; exact HO1.out, HX.out⟩
      case round =>
        clear HO1 HX hlt hk
        obtain ⟨k, hk, rfl, ho, hx⟩ := hrel
        have HO1 := Lib.hid ho
        have HX := Lib.hid hx
        obtain ⟨D, dn, dc, rfl⟩ := ho.shape3
        clear ho hx
        by_cases hlt : k < 32
        · have hd : wr.cell? ⟨b, off + 32 + k, none⟩ = some (.int .u8 (gI x.r k)) := by
            have := HB.out _ HX.out (32 + k) _ (Nd.right HO.out k _ (numsA_at .u8 x.r k (by rw [HR.out]; exact hlt)))
            rwa [← Nat.add_assoc] at this
          have hu := HRb.out.get k
          have HS2 := Lib.hid (take_snoc x.r k (by rw [HR.out]; exact hlt))
          go_wp2_with (at_builtin; refine wpl_append rowByte rfl _ _ rfl (v := .slice D dn dc) rfl (HO1.out.alloc _) _ _ rfl (A := some ⟨wr.heap.size, 0, none⟩) (ys := [gI x.r k]) rfl (rd_byte wr (gI x.r k) hu _) (okOne hu) (by simp [HL.out]; omega) (HX.out.alloc _).size ?_; intro v9 w9 ho1 hg1 hat1; have HX9 := Lib.hid ((HO1.out.alloc _).ext_app (HX.out.alloc _) hg1); have HO9 := Lib.hid ho1; clear ho1 hg1 hat1)
          go_roundw
          case rel => exact ⟨k + 1, by omega, by go_num, by rw [HS2.out, ← List.append_assoc]; exact HO9.out, HX9.out⟩
          case measure => simp [intOf]; omega
        · obtain rfl : k = 32 := by omega
          have e : x.r.take 32 = x.r := List.take_of_length_le (by rw [HR.out]; exact Nat.le_refl _)
          rw [e] at HO1
          clear e
          simp only [Int.cast_ofNat_Int]
          have c0 := HB.out _ HX.out 64 _ (Nd.at64 HO.out)
          have W1 : IntKind.u8.wrap (x.n.size : Int) = x.n.size := by rw [IntKind.wrap_u8]; omega
          have hl1 := strL_length x.n
          have hl2 := strL_length x.v
          have Hl1 := Lib.hid hl1
          have Hl2 := Lib.hid hl2
          have Hlen : Hid ((x.l ++ x.r).length = 64) := Lib.hid (by simp [HL.out, HR.out])
          clear hl1 hl2
          have hu : (0 : Int) ≤ x.n.size ∧ (x.n.size : Int) ≤ 255 := by omega
          go_wp2_with (first
            | (at_builtin; refine wpl_append rowByte rfl _ _ rfl (v := .slice D dn dc) rfl (HO1.out.alloc _) _ _ rfl (A := some ⟨wr.heap.size, 0, none⟩) (ys := [(x.n.size : Int)]) rfl (rd_byte wr (x.n.size : Int) hu _) (okOne hu) (by rw [Hlen.out]; simp) (HX.out.alloc _).size ?_; intro v9 w9 ho1 hg1 hat1; obtain ⟨E1, en, ec, rfl⟩ := ho1.shape3; have HX9 := Lib.hid ((HO1.out.alloc _).ext_app (HX.out.alloc _) hg1); have HO9 := Lib.hid ho1; have c1 := HB.out _ HX9.out 64 _ (Nd.at64 HO.out); clear ho1 hg1 hat1)
            | (refine wpl_conv (s := x.n) Try.underlying9 Try.underlying56 Try.underlying5 rfl _ rfl rfl (by omega) ?_; intro A1 k1 w10 hr hx; have HX10 := Lib.hid (HX9.out.trans hx); have HO10 := Lib.hid (HO9.out.ext hx); have HR10 := Lib.hid (rd_of hr); clear hr hx)
            | (at_builtin; refine wpl_append rowByte rfl _ _ rfl (v := .slice E1 en ec) rfl HO10.out _ _ rfl (ys := strL x.n) HR10.out.2.2 HR10.out.1 HR10.out.2.1 (by rw [List.length_append, Hlen.out, Hl1.out]; simp; omega) HX10.out.size ?_; intro v11 w11 ho1 hg1 hat1; obtain ⟨G1, gn, gc, rfl⟩ := ho1.shape3; have HX11 := Lib.hid (HO10.out.ext_app HX10.out hg1); have HO11 := Lib.hid ho1; have c2 := HB.out _ HX11.out 65 _ (Nd.at65 HO.out); clear ho1 hg1 hat1)
            | (refine wpl_conv (s := x.v) Try.underlying9 Try.underlying56 Try.underlying5 rfl _ rfl rfl (by omega) ?_; intro A2 k2 w12 hr hx; have HX12 := Lib.hid (HX11.out.trans hx); have HO12 := Lib.hid (HO11.out.ext hx); have HR12 := Lib.hid (rd_of hr); clear hr hx)
            | (at_builtin; refine wpl_append rowByte rfl _ _ rfl (v := .slice G1 gn gc) rfl HO12.out _ _ rfl (ys := strL x.v) HR12.out.2.2 HR12.out.1 HR12.out.2.1 (by rw [List.length_append, List.length_append, Hlen.out, Hl1.out, Hl2.out]; simp; omega) HX12.out.size ?_; intro v13 w13 ho1 hg1 hat1; have HX13 := Lib.hid (HO12.out.ext_app HX12.out hg1); have HO13 := Lib.hid ho1; clear ho1 hg1 hat1))
          go_ret
          refine ⟨_, rfl, ?_, HX13.out⟩
          have := HO13.out
          rw [nodeL_eq, show (x.n.size : Int) % 256 = x.n.size by omega]
          exact this
set_option maxHeartbeats 1000000 in
set_option maxRecDepth 100000 in
theorem l04NodeKeyAt_any (x : Nd) (hok : x.ok) (he : entB x.n x.v = true) (b off : Nat) (w : World) (hb : ∀ W, Ext w W → ∀ j u, x.enc.toArray[j]? = some u → W.cell? ⟨b, off + j, none⟩ = some u) :
    Calls Try.prog 98 #[.pointer (some ⟨b, off, none⟩)] w fun e w' => e = .returned (.agg (numsA .u8 (hashL 5 (nodeL x)))) ∧ Ext w w' := by
  have hk := (hashL_ok 5 (nodeL x)).1
  have hle := entB_le he
  have hnl := nodeL_length hok
  have Hnl : Hid ((nodeL x).length ≤ 1000) := Lib.hid (by omega)
  have HB := Lib.hid hb
  clear hb hle hnl
  go_enter Try.func98, Try.ntmps98
  go_wp2_with fail
  refine (l04BytesAt_any x hok he b off _ (fun W hW => HB.out W ((ext_alloc _ _).trans hW))).mono ?_
  rintro e w1 ⟨v1, rfl, ho, hx⟩
  obtain ⟨A1, n1, c1, rfl⟩ := ho.shape3
  have B1 := Lib.hid ((Blk.new w 27 _).ext hx)
  have XW := Lib.hid ((ext_alloc w _).trans hx)
  have HO := Lib.hid ho
  clear hx ho
  go_wp2_with fail
  refine (l01Hash_any 5 (by decide) _ (nodeL x) _ _ HO.out.rd (by have := Hnl.out; omega)).mono ?_
  rintro e w2 ⟨rfl, hx⟩
  replace B1 := Lib.hid (B1.out.ext hx)
  replace XW := Lib.hid (XW.out.trans hx)
  clear hx HO
  go_wp2_with (refine wpl_storeN B1.out aggKey hk rfl rfl _ _ rfl rfl rfl rfl ?_)
  refine bodyPost_ret (results_blk rfl _ rfl aggKey hk (B1.out.setRow _)) rfl ?_
  exact ⟨rfl, XW.out.setRow (by omega) _⟩
end Go.Proofs.Ytmndkbheehcoaaa
/- What a path tells about a name, plainly; which nodes are valid: the reference. No condition. -/
namespace Go.Proofs.Ytmndkbheehcoaaa
open Go.RowKit
set_option linter.unusedVariables false
set_option linter.unusedSimpArgs false

/-- all nodes are valid -/
def okNs (L : List Nd) : Bool := L.all fun x => entB x.n x.v
theorem okNs_bad {L : List Nd} {k : Nat} (hk : k < L.length) (h : entB L[k].n L[k].v = false) : okNs L = false := by
  unfold okNs
  rw [List.all_eq_false]
  exact ⟨L[k], List.getElem_mem hk, by rw [h]; decide⟩
theorem okNs_good {L : List Nd} (h : ∀ p (hp : p < L.length), entB L[p].n L[p].v = true) : okNs L = true := by
  unfold okNs
  rw [List.all_eq_true]
  intro x hx
  obtain ⟨i, hi, rfl⟩ := List.getElem_of_mem hx
  exact h i hi
theorem okNs_at {L : List Nd} (h : okNs L = true) {k : Nat} (hk : k < L.length) : entB L[k].n L[k].v = true := by
  unfold okNs at h
  rw [List.all_eq_true] at h
  exact h _ (List.getElem_mem hk)
attribute [irreducible] okNs
/-- what a path tells: whether the name is there, its value, whether the path is as it should be -/
def ckS (s : ByteArray) (due : List Int) (x : Nd) (last : Bool) (r : Bool × ByteArray × Bool) : Bool × ByteArray × Bool := if hashL 5 (nodeL x) = due then (if x.n = s then (last, x.v, last) else r) else (false, ⟨#[]⟩, false)
def ckF (s : ByteArray) : List Int → List Nd → Bool × ByteArray × Bool
  | due, [] => (false, ⟨#[]⟩, decide (due = emptyL))
  | due, x :: r => ckS s due x r.isEmpty (ckF s (if ltB s x.n then x.l else x.r) r)
theorem ckF_nil (s : ByteArray) (due : List Int) : ckF s due [] = (false, ⟨#[]⟩, decide (due = emptyL)) := rfl
theorem ckF_cons (s : ByteArray) (due : List Int) (x : Nd) (r : List Nd) : ckF s due (x :: r) = ckS s due x r.isEmpty (ckF s (if ltB s x.n then x.l else x.r) r) := rfl
attribute [irreducible] ckF
theorem ckS_bad {s : ByteArray} {due : List Int} {x : Nd} (last : Bool) (r : Bool × ByteArray × Bool) (h : hashL 5 (nodeL x) ≠ due) : ckS s due x last r = (false, ⟨#[]⟩, false) := by rw [ckS, if_neg h]
theorem ckS_hit {s : ByteArray} {due : List Int} {x : Nd} (last : Bool) (r : Bool × ByteArray × Bool) (h : hashL 5 (nodeL x) = due) (h2 : x.n = s) : ckS s due x last r = (last, x.v, last) := by rw [ckS, if_pos h, if_pos h2]
theorem ckS_on {s : ByteArray} {due : List Int} {x : Nd} (last : Bool) (r : Bool × ByteArray × Bool) (h : hashL 5 (nodeL x) = due) (h2 : x.n ≠ s) : ckS s due x last r = r := by rw [ckS, if_pos h, if_neg h2]
/-- what CheckName returns -/
def chkR (root : List Int) (s : ByteArray) (L : List Nd) : Bool × ByteArray × Int :=
  if nameB s && okNs L then (if 64 < L.length then (false, ⟨#[]⟩, 3) else if (ckF s root L).2.2 then ((ckF s root L).1, (ckF s root L).2.1, 0) else (false, ⟨#[]⟩, 8)) else (false, ⟨#[]⟩, 1)
/-- the code of some nodes -/
def givenR (L : List Nd) : Int := if okNs L then (if 64 < L.length then 3 else 0) else 1
theorem Nd.at64' {x : Nd} (h : x.ok) : x.enc.toArray[64]? = some (.string x.n) := Nd.at64 h
set_option maxHeartbeats 1000000 in
set_option maxRecDepth 100000 in
theorem l04Given_any (v : Value) (L : List Nd) (w : World) (S : Nat → Prop) (h : RdL tNd w S v L) :
    Calls Try.prog 78 #[v] w fun e w' => e = .returned (.int .i64 (givenR L)) ∧ Ext w w' := by
  obtain ⟨A, cap, rfl, hcap, hlen, hrd, hok⟩ := h
  have Hrd := Lib.hid hrd
  have Hok := Lib.hid hok
  have HR := Lib.hid (show givenR L = if okNs L then (if 64 < L.length then 3 else 0) else 1 from rfl)
  clear hrd hok
  go_enter Try.func78, Try.ntmps78
  go_wp2
  go_loopw [3] (fun i wr => ∃ k : Nat, k ≤ L.length ∧ i = .int .i64 k ∧ (∀ p (hp : p < L.length), p < k → entB L[p].n L[p].v = true) ∧ Ext w wr) (fun i _ => L.length - (intOf i).toNat)
  case atStart => exact ⟨0, by omega, rfl, fun p hp h => by omega, Ext.refl _⟩
  case round =>
    obtain ⟨k, hk, rfl, hm, hx⟩ := hrel
    have HX := Lib.hid hx
    have HM := Lib.hid hm
    clear hx hm
    by_cases hlt : k < L.length
    · obtain ⟨g, o, rfl, hs0, hc⟩ := Hrd.out.elem Hok.out k hlt
      have hx0 : L[k].ok := Hok.out _ (List.getElem_mem hlt)
      have c0 : wr.cell? ⟨g, o + k * 66 + 64, none⟩ = some (.string L[k].n) := HX.out.cell (hc 64 _ (by have := Nd.at64 hx0; rwa [List.getElem?_toArray] at this))
      have c1 : wr.cell? ⟨g, o + k * 66 + 64 + 1, none⟩ = some (.string L[k].v) := HX.out.cell (hc 65 _ (by have := Nd.at65 hx0; rwa [List.getElem?_toArray] at this))
      have hen := l04Entry_any L[k].n L[k].v hx0.2.2.1 hx0.2.2.2 g (o + k * 66 + 64) wr c0 c1
      have hi : (0 : Int) ≤ (k : Int) := by omega
      have hi2 : (k : Int) < (L.length : Int) := by omega
      clear hc c0 c1 hx0
      cases hb : entB L[k].n L[k].v with
      | true =>
        simp only [hb] at hen
        go_wp2_with fail
        refine hen.mono ?_
        rintro e w' ⟨rfl, rfl⟩
        clear hen
        go_wp2
        go_roundw
        case rel => exact ⟨k + 1, by omega, by go_num, fun p hp h => by
          by_cases e : p = k
          · subst e; exact hb
          · exact HM.out p hp (by omega), HX.out⟩
        case measure => simp [intOf]; omega
      | false =>
        simp only [hb] at hen
        have HQ := Lib.hid (show givenR L = 1 by rw [HR.out, okNs_bad hlt hb]; rfl)
        go_wp2_with fail
        refine hen.mono ?_
        rintro e w' ⟨rfl, rfl⟩
        clear hen
        go_wp2
        go_ret
        exact ⟨by rw [HQ.out]; rfl, HX.out⟩
    · obtain rfl : k = L.length := by omega
      have hg : okNs L = true := okNs_good fun p hp => HM.out p hp hp
      by_cases h64 : 64 < L.length
      · have HQ := Lib.hid (show givenR L = 3 by rw [HR.out, hg, if_pos rfl, if_pos h64])
        have h2 : (64 : Int) < (L.length : Int) := by omega
        go_wp2
        go_ret
        exact ⟨by rw [HQ.out]; rfl, HX.out⟩
      · have HQ := Lib.hid (show givenR L = 0 by rw [HR.out, hg, if_pos rfl, if_neg h64])
        have h2 : ¬ (64 : Int) < (L.length : Int) := by omega
        go_wp2
        go_ret
        exact ⟨by rw [HQ.out]; rfl, HX.out⟩
end Go.Proofs.Ytmndkbheehcoaaa
/- A slice of one struct is made: one step of a region. No condition. -/
namespace Go.Proofs.Ytmndkbheehcoaaa
open Go.RowKit
set_option linter.unusedVariables false
set_option linter.unusedSimpArgs false

theorem run_build1 {P : Program} {t e n : Nat} {cs : Array Value} (W : World) (ht : P.underlying t = some (.slice e)) (hz : (P.info? e).map (fun i => (i.size, i.zero.isSome)) = some (n, true)) (hn : cs.size = n) (h0 : 0 < n) (h1 : n ≤ 1000) :
    (Instr.buildSlice t 1 #[(0, .agg cs)]).run P W = .ok (.slice (some ⟨W.heap.size, 0, none⟩) 1 1) (W.alloc (.cells cs e)) := by
  cases hq : P.info? e with
  | none => simp [hq] at hz
  | some i =>
    have hz' : i.size = n ∧ i.zero.isSome = true := by simpa [hq] using hz
    obtain ⟨hs, hz2⟩ := hz'
    obtain ⟨z, hz3⟩ := Option.isSome_iff_exists.1 hz2
    have hne : ¬ (1 * n > 2 ^ 24) := by omega
    have hne0 : ¬ (1 * n = 0) := by omega
    have hf : ∀ Z : Array Value, Z.size = n → Instr.fill (fun i => some (i * n, n)) Z [(0, .agg cs)] = some cs := fun Z hZ => by
      rw [fill_one _ _ 0 0 n _ _ (by simp) (by simp only [Value.cells]; exact hn) (by omega), Instr.fill]
      simp only [Value.cells]
      rw [splice_all _ _ (by rw [Array.length_toList, hn, hZ]), Array.toArray_toList]
    have hff := hf ((Array.range (1 * n)).map fun x => z.cells[x % z.cells.size]!) (by simp)
    simp only [Nat.one_mul] at hff
    simp [Instr.buildSlice, run_underlying ht, sizeOf, typeInfo, zeroValue, hq, hs, hz3, newRow, show ¬ n = 0 by omega, show ¬ 16777216 < n by omega, hff]
/-- a slice of one struct: one step of a region -/
theorem stp_build1 {P : Program} {ops : Array Oper} {o : Oper} {a : Act} {w : World} {K : Act → World → Prop} {Q : Exit → Act → World → Prop} {E : Prop} {t e n : Nat} {cs : Array Value} (ht : P.underlying t = some (.slice e)) (hz : (P.info? e).map (fun i => (i.size, i.zero.isSome)) = some (n, true)) (hn : cs.size = n) (h0 : 0 < n) (h1 : n ≤ 1000)
    (hgd : o.guard = none) (x : Operand) (ho : o.op = .buildSlice t 1 #[(0, x)]) (hx : a.eval x = .agg cs)
    (h : K (a.put o.dst (.slice (some ⟨w.heap.size, 0, none⟩) 1 1)) (w.alloc (.cells cs e))) : if Region.wanted o (yielded ops a.tmps) = true then Oper.wp P o a w K Q else E := by
  have hw : Region.wanted o (yielded ops a.tmps) = true := by simp [Region.wanted, hgd]
  rw [if_pos hw]
  have hrun := run_build1 (P := P) w ht hz hn h0 h1
  have hm : (#[((0 : Nat), x)] : Array (Nat × Operand)).map (fun p => (p.1, a.eval p.2)) = #[(0, .agg cs)] := by simp [hx]
  unfold Oper.wp execOp
  simp only [ho, hm, hrun, Sem.run_bind, Result.andThen_ok, Sem.run_pure]
  exact h
theorem zeroNd : (Try.prog.info? 31).map (fun i => (i.size, i.zero.isSome)) = some (66, true) := by kernel_rfl
end Go.Proofs.Ytmndkbheehcoaaa
