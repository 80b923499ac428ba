/- What the walk of the law FnExactSharedNodes needs, part 2 of 7. No condition. -/
import Derived.Lib.AppendZeros
import Derived.Deep.RegionLaw
import Derived.Laws.CopyRow
import Derived.Test.YtmndkbheehcoaaaPFnExactSharedNodes1
/- Which lists of entries are maps: the reference and the program. No condition. -/
namespace Go.Proofs.Ytmndkbheehcoaaa
open Go.RowKit
set_option linter.unusedVariables false
set_option linter.unusedSimpArgs false

def gE (L : List En) (i : Nat) : En := L.getD i (⟨#[]⟩, ⟨#[]⟩)
theorem gE_lt {L : List En} {i : Nat} (h : i < L.length) : gE L i = L[i] := by simp [gE, List.getD_eq_getElem?_getD, h]
def incC (L : List En) (i : Nat) : Bool := entB (gE L i).1 (gE L i).2 && (i == 0 || ltB (gE L (i - 1)).1 (gE L i).1)
/-- the first n are valid and in order -/
@[irreducible] def incs (L : List En) (n : Nat) : Bool := (List.range n).all (incC L)
theorem incs_zero (L : List En) : incs L 0 = true := by rw [incs]; rfl
theorem incs_succ (L : List En) (n : Nat) : incs L (n + 1) = (incs L n && incC L n) := by rw [incs, incs, List.range_succ, List.all_append]; simp
theorem incs_bad (L : List En) (k n : Nat) (h : k < n) (hb : incC L k = false) : incs L n = false := by
  rw [incs, List.all_eq_false]
  exact ⟨k, List.mem_range.2 h, by simp [hb]⟩
/-- a map -/
@[irreducible] def okE (L : List En) : Bool := incs L L.length && decide (L.length ≤ 64)
theorem okE_eq (L : List En) : okE L = (incs L L.length && decide (L.length ≤ 64)) := by rw [okE]
set_option maxHeartbeats 1000000 in
set_option maxRecDepth 100000 in
theorem l04Ok_any (v : Value) (L : List En) (w : World) (S : Nat → Prop) (h : RdL tEnt w S v L) :
    Calls Try.prog 76 #[v] w fun e w' => e = .returned (.bool (okE L)) ∧ Ext w w' := by
  obtain ⟨A, cap, rfl, hcap, hlen, hrd, hok⟩ := h
  have Hrd := Lib.hid hrd
  have Hok := Lib.hid hok
  have HE := Lib.hid (okE_eq L)
  have HZ := Lib.hid (incs_zero L)
  clear hrd hok
  go_enter Try.func76, Try.ntmps76
  go_wp2
  go_loopw [3] (fun i wr => ∃ k : Nat, k ≤ L.length ∧ i = .int .i64 k ∧ incs L k = true ∧ Ext w wr) (fun i _ => L.length - (intOf i).toNat)
  case atStart => exact ⟨0, by omega, rfl, HZ.out, Ext.refl _⟩
  case round =>
    obtain ⟨k, hk, rfl, hs, hx⟩ := hrel
    have HS := Lib.hid hs
    have HX := Lib.hid hx
    clear hs hx HZ
    by_cases hlt : k < L.length
    · obtain ⟨g, o, rfl, hs0, hc⟩ := Hrd.out.elem Hok.out k hlt
      have HO := Lib.hid (show tEnt.ok L[k] from Hok.out _ (List.getElem_mem hlt))
      have d0 : ∀ W, Ext wr W → W.cell? ⟨g, o + k * 2, none⟩ = some (.string L[k].1) := fun W hW => (HX.out.trans hW).cell (hc 0 _ rfl)
      have d0b : ∀ W, Ext wr W → W.cell? ⟨g, o + k * 2 + 1, none⟩ = some (.string L[k].2) := fun W hW => (HX.out.trans hW).cell (hc 1 _ rfl)
      have hen := fun W => l04Entry_any L[k].1 L[k].2 HO.out.1 HO.out.2 g (o + k * 2) W
      have HSN := Lib.hid (incs_succ L k)
      have HGk := Lib.hid (gE_lt hlt)
      have hi : (0 : Int) ≤ (k : Int) := by omega
      have hi2 : (k : Int) < (L.length : Int) := by omega
      clear hc
      cases hb : entB L[k].1 L[k].2 with
      | false =>
        have HB := Lib.hid (incs_bad L k L.length hlt (by rw [incC, HGk.out, hb]; rfl))
        simp only [hb] at hen
        clear hb
        go_wp2_with fail
        refine wp_region_held_drew (S := fun W => Ext wr W) (by kernel_rfl) (Ext.refl _).drew (fun hHeld => ?_)
        refine wpAnyH_take (i := 0) (oi := ?oiz1) (v := ?vz1) ?hiz1 (by kernel_rfl) (by kernel_rfl) (by kernel_rfl) ?hQz1 ?hyz1 (by assumption) ?restz1
        case hiz1 => simp only [List.getElem?_toArray, List.getElem?_cons_zero, List.getElem?_cons_succ]; rfl
        case hQz1 => exact fun _ _ _ h => h
        case hyz1 => exact Or.inl ⟨by rfl, by intro w hSw; (try dsimp only at hSw); go_simp; with_reducible rfl⟩
        try simp only [Act.put, List.setIfInBounds_toArray, List.set_cons_zero, List.set_cons_succ]
        refine wpAnyH_take (i := 1) (oi := ?oiz2) (v := ?vz2) ?hiz2 (by kernel_rfl) (by kernel_rfl) (by kernel_rfl) ?hQz2 ?hyz2 (by assumption) ?restz2
        case hiz2 => simp only [List.getElem?_toArray, List.getElem?_cons_zero, List.getElem?_cons_succ]; rfl
        case hQz2 => exact fun _ _ _ h => h
        case hyz2 => exact Or.inl ⟨by rfl, by intro w hSw; (try dsimp only at hSw); go_simp; with_reducible rfl⟩
        try simp only [Act.put, List.setIfInBounds_toArray, List.set_cons_zero, List.set_cons_succ]
        refine wpAnyH_take (i := 2) (oi := ?oiz3) (v := ?vz3) ?hiz3 (by kernel_rfl) (by kernel_rfl) (by kernel_rfl) ?hQz3 ?hyz3 (by assumption) ?restz3
        case hiz3 => simp only [List.getElem?_toArray, List.getElem?_cons_zero, List.getElem?_cons_succ]; rfl
        case hQz3 => exact fun _ _ _ h => h
        case hyz3 => exact Or.inl ⟨by rfl, by intro w hSw; (try dsimp only at hSw); go_simp; with_reducible rfl⟩
        try simp only [Act.put, List.setIfInBounds_toArray, List.set_cons_zero, List.set_cons_succ]
        refine wpAnyH_ready (rs := [3]) (by kernel_rfl) (by simp) (AllReadyH.cons (o := ?oy43) ?hy43 (fun K hK => ?sy43) AllReadyH.nil)
        case hy43 => simp only [List.getElem?_toArray, List.getElem?_cons_zero, List.getElem?_cons_succ]; rfl
        go_simp
        refine (hen _ (d0 _ hHeld) (d0b _ hHeld)).mono ?_
        rintro e w' ⟨rfl, rfl⟩
        refine hK.out _ _ hHeld (fun _ => ?_)
        clear hK K
        try simp only [Act.put, List.setIfInBounds_toArray, List.set_cons_zero, List.set_cons_succ]
        refine wpAnyH_take (i := 4) (oi := ?oiz5) (v := ?vz5) ?hiz5 (by kernel_rfl) (by kernel_rfl) (by kernel_rfl) ?hQz5 ?hyz5 (by assumption) ?restz5
        case hiz5 => simp only [List.getElem?_toArray, List.getElem?_cons_zero, List.getElem?_cons_succ]; rfl
        case hQz5 => exact fun _ _ _ h => h
        case hyz5 => exact Or.inl ⟨by rfl, by intro w hSw; (try dsimp only at hSw); go_simp; with_reducible rfl⟩
        try simp only [Act.put, List.setIfInBounds_toArray, List.set_cons_zero, List.set_cons_succ]
        refine wpAnyH_take (i := 5) (oi := ?oiz6) (v := ?vz6) ?hiz6 (by kernel_rfl) (by kernel_rfl) (by kernel_rfl) ?hQz6 ?hyz6 (by assumption) ?restz6
        case hiz6 => simp only [List.getElem?_toArray, List.getElem?_cons_zero, List.getElem?_cons_succ]; rfl
        case hQz6 => exact fun _ _ _ h => h
        case hyz6 => exact Or.inl ⟨by rfl, by intro w hSw; (try dsimp only at hSw); go_simp; with_reducible rfl⟩
        try simp only [Act.put, List.setIfInBounds_toArray, List.set_cons_zero, List.set_cons_succ]
        refine wpAnyH_take (i := 6) (oi := ?oiz7) (v := undef) ?hiz7 (by kernel_rfl) (by kernel_rfl) (by kernel_rfl) ?hQz7 ?hyz7 (by assumption) ?restz7
        case hiz7 => simp only [List.getElem?_toArray, List.getElem?_cons_zero, List.getElem?_cons_succ]; rfl
        case hQz7 => exact fun _ _ _ h => h
        case hyz7 => exact Or.inr ⟨by rfl, rfl⟩
        try simp only [Act.put, List.setIfInBounds_toArray, List.set_cons_zero, List.set_cons_succ]
        refine wpAnyH_take (i := 7) (oi := ?oiz8) (v := undef) ?hiz8 (by kernel_rfl) (by kernel_rfl) (by kernel_rfl) ?hQz8 ?hyz8 (by assumption) ?restz8
        case hiz8 => simp only [List.getElem?_toArray, List.getElem?_cons_zero, List.getElem?_cons_succ]; rfl
        case hQz8 => exact fun _ _ _ h => h
        case hyz8 => exact Or.inr ⟨by rfl, rfl⟩
        try simp only [Act.put, List.setIfInBounds_toArray, List.set_cons_zero, List.set_cons_succ]
        refine wpAnyH_take (i := 8) (oi := ?oiz9) (v := undef) ?hiz9 (by kernel_rfl) (by kernel_rfl) (by kernel_rfl) ?hQz9 ?hyz9 (by assumption) ?restz9
        case hiz9 => simp only [List.getElem?_toArray, List.getElem?_cons_zero, List.getElem?_cons_succ]; rfl
        case hQz9 => exact fun _ _ _ h => h
        case hyz9 => exact Or.inr ⟨by rfl, rfl⟩
        try simp only [Act.put, List.setIfInBounds_toArray, List.set_cons_zero, List.set_cons_succ]
        refine wpAnyH_take (i := 9) (oi := ?oiz10) (v := undef) ?hiz10 (by kernel_rfl) (by kernel_rfl) (by kernel_rfl) ?hQz10 ?hyz10 (by assumption) ?restz10
        case hiz10 => simp only [List.getElem?_toArray, List.getElem?_cons_zero, List.getElem?_cons_succ]; rfl
        case hQz10 => exact fun _ _ _ h => h
        case hyz10 => exact Or.inr ⟨by rfl, rfl⟩
        try simp only [Act.put, List.setIfInBounds_toArray, List.set_cons_zero, List.set_cons_succ]
        refine wpAnyH_take (i := 10) (oi := ?oiz11) (v := undef) ?hiz11 (by kernel_rfl) (by kernel_rfl) (by kernel_rfl) ?hQz11 ?hyz11 (by assumption) ?restz11
        case hiz11 => simp only [List.getElem?_toArray, List.getElem?_cons_zero, List.getElem?_cons_succ]; rfl
        case hQz11 => exact fun _ _ _ h => h
        case hyz11 => exact Or.inr ⟨by rfl, rfl⟩
        try simp only [Act.put, List.setIfInBounds_toArray, List.set_cons_zero, List.set_cons_succ]
        refine wpAnyH_take (i := 11) (oi := ?oiz12) (v := undef) ?hiz12 (by kernel_rfl) (by kernel_rfl) (by kernel_rfl) ?hQz12 ?hyz12 (by assumption) ?restz12
        case hiz12 => simp only [List.getElem?_toArray, List.getElem?_cons_zero, List.getElem?_cons_succ]; rfl
        case hQz12 => exact fun _ _ _ h => h
        case hyz12 => exact Or.inr ⟨by rfl, rfl⟩
        try simp only [Act.put, List.setIfInBounds_toArray, List.set_cons_zero, List.set_cons_succ]
        refine wpAnyH_take (i := 12) (oi := ?oiz13) (v := undef) ?hiz13 (by kernel_rfl) (by kernel_rfl) (by kernel_rfl) ?hQz13 ?hyz13 (by assumption) ?restz13
        case hiz13 => simp only [List.getElem?_toArray, List.getElem?_cons_zero, List.getElem?_cons_succ]; rfl
        case hQz13 => exact fun _ _ _ h => h
        case hyz13 => exact Or.inr ⟨by rfl, rfl⟩
        try simp only [Act.put, List.setIfInBounds_toArray, List.set_cons_zero, List.set_cons_succ]
        refine wpAnyH_take (i := 13) (oi := ?oiz14) (v := undef) ?hiz14 (by kernel_rfl) (by kernel_rfl) (by kernel_rfl) ?hQz14 ?hyz14 (by assumption) ?restz14
        case hiz14 => simp only [List.getElem?_toArray, List.getElem?_cons_zero, List.getElem?_cons_succ]; rfl
        case hQz14 => exact fun _ _ _ h => h
        case hyz14 => exact Or.inr ⟨by rfl, rfl⟩
        try simp only [Act.put, List.setIfInBounds_toArray, List.set_cons_zero, List.set_cons_succ]
        refine wpAnyH_take (i := 14) (oi := ?oiz15) (v := undef) ?hiz15 (by kernel_rfl) (by kernel_rfl) (by kernel_rfl) ?hQz15 ?hyz15 (by assumption) ?restz15
        case hiz15 => simp only [List.getElem?_toArray, List.getElem?_cons_zero, List.getElem?_cons_succ]; rfl
        case hQz15 => exact fun _ _ _ h => h
        case hyz15 => exact Or.inr ⟨by rfl, rfl⟩
        try simp only [Act.put, List.setIfInBounds_toArray, List.set_cons_zero, List.set_cons_succ]
        refine wpAnyH_take (i := 15) (oi := ?oiz16) (v := undef) ?hiz16 (by kernel_rfl) (by kernel_rfl) (by kernel_rfl) ?hQz16 ?hyz16 (by assumption) ?restz16
        case hiz16 => simp only [List.getElem?_toArray, List.getElem?_cons_zero, List.getElem?_cons_succ]; rfl
        case hQz16 => exact fun _ _ _ h => h
        case hyz16 => exact Or.inr ⟨by rfl, rfl⟩
        try simp only [Act.put, List.setIfInBounds_toArray, List.set_cons_zero, List.set_cons_succ]
        refine wpAnyH_take (i := 16) (oi := ?oiz17) (v := undef) ?hiz17 (by kernel_rfl) (by kernel_rfl) (by kernel_rfl) ?hQz17 ?hyz17 (by assumption) ?restz17
        case hiz17 => simp only [List.getElem?_toArray, List.getElem?_cons_zero, List.getElem?_cons_succ]; rfl
        case hQz17 => exact fun _ _ _ h => h
        case hyz17 => exact Or.inr ⟨by rfl, rfl⟩
        try simp only [Act.put, List.setIfInBounds_toArray, List.set_cons_zero, List.set_cons_succ]
        refine wpAnyH_take (i := 17) (oi := ?oiz18) (v := undef) ?hiz18 (by kernel_rfl) (by kernel_rfl) (by kernel_rfl) ?hQz18 ?hyz18 (by assumption) ?restz18
        case hiz18 => simp only [List.getElem?_toArray, List.getElem?_cons_zero, List.getElem?_cons_succ]; rfl
        case hQz18 => exact fun _ _ _ h => h
        case hyz18 => exact Or.inr ⟨by rfl, rfl⟩
        try simp only [Act.put, List.setIfInBounds_toArray, List.set_cons_zero, List.set_cons_succ]
        refine wpAnyH_take (i := 18) (oi := ?oiz19) (v := undef) ?hiz19 (by kernel_rfl) (by kernel_rfl) (by kernel_rfl) ?hQz19 ?hyz19 (by assumption) ?restz19
        case hiz19 => simp only [List.getElem?_toArray, List.getElem?_cons_zero, List.getElem?_cons_succ]; rfl
        case hQz19 => exact fun _ _ _ h => h
        case hyz19 => exact Or.inr ⟨by rfl, rfl⟩
        try simp only [Act.put, List.setIfInBounds_toArray, List.set_cons_zero, List.set_cons_succ]
        refine wpAnyH_take (i := 19) (oi := ?oiz20) (v := undef) ?hiz20 (by kernel_rfl) (by kernel_rfl) (by kernel_rfl) ?hQz20 ?hyz20 (by assumption) ?restz20
        case hiz20 => simp only [List.getElem?_toArray, List.getElem?_cons_zero, List.getElem?_cons_succ]; rfl
        case hQz20 => exact fun _ _ _ h => h
        case hyz20 => exact Or.inr ⟨by rfl, rfl⟩
        try simp only [Act.put, List.setIfInBounds_toArray, List.set_cons_zero, List.set_cons_succ]
        refine wpAnyH_take (i := 20) (oi := ?oiz21) (v := undef) ?hiz21 (by kernel_rfl) (by kernel_rfl) (by kernel_rfl) ?hQz21 ?hyz21 (by assumption) ?restz21
        case hiz21 => simp only [List.getElem?_toArray, List.getElem?_cons_zero, List.getElem?_cons_succ]; rfl
        case hQz21 => exact fun _ _ _ h => h
        case hyz21 => exact Or.inr ⟨by rfl, rfl⟩
        try simp only [Act.put, List.setIfInBounds_toArray, List.set_cons_zero, List.set_cons_succ]
        refine wpAnyH_take (i := 21) (oi := ?oiz22) (v := undef) ?hiz22 (by kernel_rfl) (by kernel_rfl) (by kernel_rfl) ?hQz22 ?hyz22 (by assumption) ?restz22
        case hiz22 => simp only [List.getElem?_toArray, List.getElem?_cons_zero, List.getElem?_cons_succ]; rfl
        case hQz22 => exact fun _ _ _ h => h
        case hyz22 => exact Or.inr ⟨by rfl, rfl⟩
        try simp only [Act.put, List.setIfInBounds_toArray, List.set_cons_zero, List.set_cons_succ]
        refine wpAnyH_take (i := 22) (oi := ?oiz23) (v := ?vz23) ?hiz23 (by kernel_rfl) (by kernel_rfl) (by kernel_rfl) ?hQz23 ?hyz23 (by assumption) ?restz23
        case hiz23 => simp only [List.getElem?_toArray, List.getElem?_cons_zero, List.getElem?_cons_succ]; rfl
        case hQz23 => exact fun _ _ _ h => h
        case hyz23 => exact Or.inl ⟨by rfl, by intro w hSw; (try dsimp only at hSw); go_simp; with_reducible rfl⟩
        try simp only [Act.put, List.setIfInBounds_toArray, List.set_cons_zero, List.set_cons_succ]
        refine wpAnyH_done (by kernel_rfl) ?_ _
        have HX2 := Lib.hid (HX.out.trans hHeld)
        clear hHeld
        go_wp2
        go_ret
        exact ⟨by rw [HE.out, HB.out]; rfl, HX2.out⟩
      | true =>
        have HBk := Lib.hid hb
        simp only [hb] at hen
        clear hb
        rcases k with _ | j
        · simp only [Int.cast_ofNat_Int] at hi2 ⊢
          go_wp2_with fail
          refine wp_region_held_drew (S := fun W => Ext wr W) (by kernel_rfl) (Ext.refl _).drew (fun hHeld => ?_)
          refine wpAnyH_take (i := 0) (oi := ?oiz24) (v := ?vz24) ?hiz24 (by kernel_rfl) (by kernel_rfl) (by kernel_rfl) ?hQz24 ?hyz24 (by assumption) ?restz24
          case hiz24 => simp only [List.getElem?_toArray, List.getElem?_cons_zero, List.getElem?_cons_succ]; rfl
          case hQz24 => exact fun _ _ _ h => h
          case hyz24 => exact Or.inl ⟨by rfl, by intro w hSw; (try dsimp only at hSw); go_simp; with_reducible rfl⟩
          try simp only [Act.put, List.setIfInBounds_toArray, List.set_cons_zero, List.set_cons_succ]
          refine wpAnyH_take (i := 1) (oi := ?oiz25) (v := ?vz25) ?hiz25 (by kernel_rfl) (by kernel_rfl) (by kernel_rfl) ?hQz25 ?hyz25 (by assumption) ?restz25
          case hiz25 => simp only [List.getElem?_toArray, List.getElem?_cons_zero, List.getElem?_cons_succ]; rfl
          case hQz25 => exact fun _ _ _ h => h
          case hyz25 => exact Or.inl ⟨by rfl, by intro w hSw; (try dsimp only at hSw); go_simp; with_reducible rfl⟩
          try simp only [Act.put, List.setIfInBounds_toArray, List.set_cons_zero, List.set_cons_succ]
          refine wpAnyH_take (i := 2) (oi := ?oiz26) (v := ?vz26) ?hiz26 (by kernel_rfl) (by kernel_rfl) (by kernel_rfl) ?hQz26 ?hyz26 (by assumption) ?restz26
          case hiz26 => simp only [List.getElem?_toArray, List.getElem?_cons_zero, List.getElem?_cons_succ]; rfl
          case hQz26 => exact fun _ _ _ h => h
          case hyz26 => exact Or.inl ⟨by rfl, by intro w hSw; (try dsimp only at hSw); go_simp; with_reducible rfl⟩
          try simp only [Act.put, List.setIfInBounds_toArray, List.set_cons_zero, List.set_cons_succ]
          refine wpAnyH_ready (rs := [3]) (by kernel_rfl) (by simp) (AllReadyH.cons (o := ?oy273) ?hy273 (fun K hK => ?sy273) AllReadyH.nil)
          case hy273 => simp only [List.getElem?_toArray, List.getElem?_cons_zero, List.getElem?_cons_succ]; rfl
          go_simp
          refine (hen _ (d0 _ hHeld) (d0b _ hHeld)).mono ?_
          rintro e w' ⟨rfl, rfl⟩
          refine hK.out _ _ hHeld (fun _ => ?_)
          clear hK K
          try simp only [Act.put, List.setIfInBounds_toArray, List.set_cons_zero, List.set_cons_succ]
          refine wpAnyH_take (i := 4) (oi := ?oiz28) (v := ?vz28) ?hiz28 (by kernel_rfl) (by kernel_rfl) (by kernel_rfl) ?hQz28 ?hyz28 (by assumption) ?restz28
          case hiz28 => simp only [List.getElem?_toArray, List.getElem?_cons_zero, List.getElem?_cons_succ]; rfl
          case hQz28 => exact fun _ _ _ h => h
          case hyz28 => exact Or.inl ⟨by rfl, by intro w hSw; (try dsimp only at hSw); go_simp; with_reducible rfl⟩
          try simp only [Act.put, List.setIfInBounds_toArray, List.set_cons_zero, List.set_cons_succ]
          refine wpAnyH_take (i := 5) (oi := ?oiz29) (v := ?vz29) ?hiz29 (by kernel_rfl) (by kernel_rfl) (by kernel_rfl) ?hQz29 ?hyz29 (by assumption) ?restz29
          case hiz29 => simp only [List.getElem?_toArray, List.getElem?_cons_zero, List.getElem?_cons_succ]; rfl
          case hQz29 => exact fun _ _ _ h => h
          case hyz29 => exact Or.inl ⟨by rfl, by intro w hSw; (try dsimp only at hSw); go_simp; with_reducible rfl⟩
          try simp only [Act.put, List.setIfInBounds_toArray, List.set_cons_zero, List.set_cons_succ]
          refine wpAnyH_take (i := 6) (oi := ?oiz30) (v := ?vz30) ?hiz30 (by kernel_rfl) (by kernel_rfl) (by kernel_rfl) ?hQz30 ?hyz30 (by assumption) ?restz30
          case hiz30 => simp only [List.getElem?_toArray, List.getElem?_cons_zero, List.getElem?_cons_succ]; rfl
          case hQz30 => exact fun _ _ _ h => h
          case hyz30 => exact Or.inl ⟨by rfl, by intro w hSw; (try dsimp only at hSw); go_simp; with_reducible rfl⟩
          try simp only [Act.put, List.setIfInBounds_toArray, List.set_cons_zero, List.set_cons_succ]
          refine wpAnyH_take (i := 7) (oi := ?oiz31) (v := ?vz31) ?hiz31 (by kernel_rfl) (by kernel_rfl) (by kernel_rfl) ?hQz31 ?hyz31 (by assumption) ?restz31
          case hiz31 => simp only [List.getElem?_toArray, List.getElem?_cons_zero, List.getElem?_cons_succ]; rfl
          case hQz31 => exact fun _ _ _ h => h
          case hyz31 => exact Or.inl ⟨by rfl, by intro w hSw; (try dsimp only at hSw); go_simp; with_reducible rfl⟩
          try simp only [Act.put, List.setIfInBounds_toArray, List.set_cons_zero, List.set_cons_succ]
          refine wpAnyH_take (i := 8) (oi := ?oiz32) (v := ?vz32) ?hiz32 (by kernel_rfl) (by kernel_rfl) (by kernel_rfl) ?hQz32 ?hyz32 (by assumption) ?restz32
          case hiz32 => simp only [List.getElem?_toArray, List.getElem?_cons_zero, List.getElem?_cons_succ]; rfl
          case hQz32 => exact fun _ _ _ h => h
          case hyz32 => exact Or.inl ⟨by rfl, by intro w hSw; (try dsimp only at hSw); go_simp; with_reducible rfl⟩
          try simp only [Act.put, List.setIfInBounds_toArray, List.set_cons_zero, List.set_cons_succ]
          refine wpAnyH_take (i := 9) (oi := ?oiz33) (v := undef) ?hiz33 (by kernel_rfl) (by kernel_rfl) (by kernel_rfl) ?hQz33 ?hyz33 (by assumption) ?restz33
          case hiz33 => simp only [List.getElem?_toArray, List.getElem?_cons_zero, List.getElem?_cons_succ]; rfl
          case hQz33 => exact fun _ _ _ h => h
          case hyz33 => exact Or.inr ⟨by rfl, rfl⟩
          try simp only [Act.put, List.setIfInBounds_toArray, List.set_cons_zero, List.set_cons_succ]
          refine wpAnyH_take (i := 10) (oi := ?oiz34) (v := undef) ?hiz34 (by kernel_rfl) (by kernel_rfl) (by kernel_rfl) ?hQz34 ?hyz34 (by assumption) ?restz34
          case hiz34 => simp only [List.getElem?_toArray, List.getElem?_cons_zero, List.getElem?_cons_succ]; rfl
          case hQz34 => exact fun _ _ _ h => h
          case hyz34 => exact Or.inr ⟨by rfl, rfl⟩
          try simp only [Act.put, List.setIfInBounds_toArray, List.set_cons_zero, List.set_cons_succ]
          refine wpAnyH_take (i := 11) (oi := ?oiz35) (v := undef) ?hiz35 (by kernel_rfl) (by kernel_rfl) (by kernel_rfl) ?hQz35 ?hyz35 (by assumption) ?restz35
          case hiz35 => simp only [List.getElem?_toArray, List.getElem?_cons_zero, List.getElem?_cons_succ]; rfl
          case hQz35 => exact fun _ _ _ h => h
          case hyz35 => exact Or.inr ⟨by rfl, rfl⟩
          try simp only [Act.put, List.setIfInBounds_toArray, List.set_cons_zero, List.set_cons_succ]
          refine wpAnyH_take (i := 12) (oi := ?oiz36) (v := undef) ?hiz36 (by kernel_rfl) (by kernel_rfl) (by kernel_rfl) ?hQz36 ?hyz36 (by assumption) ?restz36
          case hiz36 => simp only [List.getElem?_toArray, List.getElem?_cons_zero, List.getElem?_cons_succ]; rfl
          case hQz36 => exact fun _ _ _ h => h
          case hyz36 => exact Or.inr ⟨by rfl, rfl⟩
          try simp only [Act.put, List.setIfInBounds_toArray, List.set_cons_zero, List.set_cons_succ]
          refine wpAnyH_take (i := 13) (oi := ?oiz37) (v := undef) ?hiz37 (by kernel_rfl) (by kernel_rfl) (by kernel_rfl) ?hQz37 ?hyz37 (by assumption) ?restz37
          case hiz37 => simp only [List.getElem?_toArray, List.getElem?_cons_zero, List.getElem?_cons_succ]; rfl
          case hQz37 => exact fun _ _ _ h => h
          case hyz37 => exact Or.inr ⟨by rfl, rfl⟩
          try simp only [Act.put, List.setIfInBounds_toArray, List.set_cons_zero, List.set_cons_succ]
          refine wpAnyH_take (i := 14) (oi := ?oiz38) (v := undef) ?hiz38 (by kernel_rfl) (by kernel_rfl) (by kernel_rfl) ?hQz38 ?hyz38 (by assumption) ?restz38
          case hiz38 => simp only [List.getElem?_toArray, List.getElem?_cons_zero, List.getElem?_cons_succ]; rfl
          case hQz38 => exact fun _ _ _ h => h
          case hyz38 => exact Or.inr ⟨by rfl, rfl⟩
          try simp only [Act.put, List.setIfInBounds_toArray, List.set_cons_zero, List.set_cons_succ]
          refine wpAnyH_take (i := 15) (oi := ?oiz39) (v := undef) ?hiz39 (by kernel_rfl) (by kernel_rfl) (by kernel_rfl) ?hQz39 ?hyz39 (by assumption) ?restz39
          case hiz39 => simp only [List.getElem?_toArray, List.getElem?_cons_zero, List.getElem?_cons_succ]; rfl
          case hQz39 => exact fun _ _ _ h => h
          case hyz39 => exact Or.inr ⟨by rfl, rfl⟩
          try simp only [Act.put, List.setIfInBounds_toArray, List.set_cons_zero, List.set_cons_succ]
          refine wpAnyH_take (i := 16) (oi := ?oiz40) (v := undef) ?hiz40 (by kernel_rfl) (by kernel_rfl) (by kernel_rfl) ?hQz40 ?hyz40 (by assumption) ?restz40
          case hiz40 => simp only [List.getElem?_toArray, List.getElem?_cons_zero, List.getElem?_cons_succ]; rfl
          case hQz40 => exact fun _ _ _ h => h
          case hyz40 => exact Or.inr ⟨by rfl, rfl⟩
          try simp only [Act.put, List.setIfInBounds_toArray, List.set_cons_zero, List.set_cons_succ]
          refine wpAnyH_take (i := 17) (oi := ?oiz41) (v := undef) ?hiz41 (by kernel_rfl) (by kernel_rfl) (by kernel_rfl) ?hQz41 ?hyz41 (by assumption) ?restz41
          case hiz41 => simp only [List.getElem?_toArray, List.getElem?_cons_zero, List.getElem?_cons_succ]; rfl
          case hQz41 => exact fun _ _ _ h => h
          case hyz41 => exact Or.inr ⟨by rfl, rfl⟩
          try simp only [Act.put, List.setIfInBounds_toArray, List.set_cons_zero, List.set_cons_succ]
          refine wpAnyH_take (i := 18) (oi := ?oiz42) (v := undef) ?hiz42 (by kernel_rfl) (by kernel_rfl) (by kernel_rfl) ?hQz42 ?hyz42 (by assumption) ?restz42
          case hiz42 => simp only [List.getElem?_toArray, List.getElem?_cons_zero, List.getElem?_cons_succ]; rfl
          case hQz42 => exact fun _ _ _ h => h
          case hyz42 => exact Or.inr ⟨by rfl, rfl⟩
          try simp only [Act.put, List.setIfInBounds_toArray, List.set_cons_zero, List.set_cons_succ]
          refine wpAnyH_take (i := 19) (oi := ?oiz43) (v := undef) ?hiz43 (by kernel_rfl) (by kernel_rfl) (by kernel_rfl) ?hQz43 ?hyz43 (by assumption) ?restz43
          case hiz43 => simp only [List.getElem?_toArray, List.getElem?_cons_zero, List.getElem?_cons_succ]; rfl
          case hQz43 => exact fun _ _ _ h => h
          case hyz43 => exact Or.inr ⟨by rfl, rfl⟩
          try simp only [Act.put, List.setIfInBounds_toArray, List.set_cons_zero, List.set_cons_succ]
          refine wpAnyH_take (i := 20) (oi := ?oiz44) (v := undef) ?hiz44 (by kernel_rfl) (by kernel_rfl) (by kernel_rfl) ?hQz44 ?hyz44 (by assumption) ?restz44
          case hiz44 => simp only [List.getElem?_toArray, List.getElem?_cons_zero, List.getElem?_cons_succ]; rfl
          case hQz44 => exact fun _ _ _ h => h
          case hyz44 => exact Or.inr ⟨by rfl, rfl⟩
          try simp only [Act.put, List.setIfInBounds_toArray, List.set_cons_zero, List.set_cons_succ]
          refine wpAnyH_take (i := 21) (oi := ?oiz45) (v := ?vz45) ?hiz45 (by kernel_rfl) (by kernel_rfl) (by kernel_rfl) ?hQz45 ?hyz45 (by assumption) ?restz45
          case hiz45 => simp only [List.getElem?_toArray, List.getElem?_cons_zero, List.getElem?_cons_succ]; rfl
          case hQz45 => exact fun _ _ _ h => h
          case hyz45 => exact Or.inl ⟨by rfl, by intro w hSw; (try dsimp only at hSw); go_simp; with_reducible rfl⟩
          try simp only [Act.put, List.setIfInBounds_toArray, List.set_cons_zero, List.set_cons_succ]
          refine wpAnyH_take (i := 22) (oi := ?oiz46) (v := ?vz46) ?hiz46 (by kernel_rfl) (by kernel_rfl) (by kernel_rfl) ?hQz46 ?hyz46 (by assumption) ?restz46
          case hiz46 => simp only [List.getElem?_toArray, List.getElem?_cons_zero, List.getElem?_cons_succ]; rfl
          case hQz46 => exact fun _ _ _ h => h
          case hyz46 => exact Or.inl ⟨by rfl, by intro w hSw; (try dsimp only at hSw); go_simp; with_reducible rfl⟩
          try simp only [Act.put, List.setIfInBounds_toArray, List.set_cons_zero, List.set_cons_succ]
          refine wpAnyH_done (by kernel_rfl) ?_ _
          have HX2 := Lib.hid (HX.out.trans hHeld)
          clear hHeld
          go_wp2
          go_roundw
          case rel => exact ⟨1, by omega, rfl, by rw [HSN.out, HS.out, incC, HGk.out, HBk.out]; rfl, HX2.out⟩
          case measure => simp [intOf]; omega
        · obtain ⟨g2, o2, e, hs1, hc⟩ := Hrd.out.elem Hok.out j (by omega)
          injection e with e
          injection e with e1 e2
          subst e1
          subst e2
          have d1 : ∀ W, Ext wr W → W.cell? ⟨g, o + j * 2, none⟩ = some (.string L[j].1) := fun W hW => (HX.out.trans hW).cell (hc 0 _ rfl)
          have HGj := Lib.hid (gE_lt (L := L) (i := j) (by omega))
          have W1 : IntKind.i64.wrap (j : Int) = j := IntWalk.i64_in _ (by omega)
          have hj0 : (0 : Int) ≤ (j : Int) := by omega
          have hj1 : (j : Int) < (L.length : Int) := by omega
          have hj2 : (0 : Int) ≤ (j : Int) + 1 := by omega
          have hj3 : (0 : Int) < (j : Int) + 1 := by omega
          have hj4 : (j : Int) + 1 < (L.length : Int) := by omega
          clear hc
          cases hl : ltB L[j].1 L[j + 1].1 with
          | true =>
            have hl2 : Op.bytesLess L[j].1.toList L[j + 1].1.toList = true := by rw [ltB_eq]; exact hl
            have HLT := Lib.hid hl
            clear hl
            go_wp2_with fail
            refine wp_region_held_drew (S := fun W => Ext wr W) (by kernel_rfl) (Ext.refl _).drew (fun hHeld => ?_)
            refine wpAnyH_take (i := 0) (oi := ?oiz47) (v := ?vz47) ?hiz47 (by kernel_rfl) (by kernel_rfl) (by kernel_rfl) ?hQz47 ?hyz47 (by assumption) ?restz47
            case hiz47 => simp only [List.getElem?_toArray, List.getElem?_cons_zero, List.getElem?_cons_succ]; rfl
            case hQz47 => exact fun _ _ _ h => h
            case hyz47 => exact Or.inl ⟨by rfl, by intro w hSw; (try dsimp only at hSw); go_simp; with_reducible rfl⟩
            try simp only [Act.put, List.setIfInBounds_toArray, List.set_cons_zero, List.set_cons_succ]
            refine wpAnyH_take (i := 1) (oi := ?oiz48) (v := ?vz48) ?hiz48 (by kernel_rfl) (by kernel_rfl) (by kernel_rfl) ?hQz48 ?hyz48 (by assumption) ?restz48
            case hiz48 => simp only [List.getElem?_toArray, List.getElem?_cons_zero, List.getElem?_cons_succ]; rfl
            case hQz48 => exact fun _ _ _ h => h
            case hyz48 => exact Or.inl ⟨by rfl, by intro w hSw; (try dsimp only at hSw); go_simp; with_reducible rfl⟩
            try simp only [Act.put, List.setIfInBounds_toArray, List.set_cons_zero, List.set_cons_succ]
            refine wpAnyH_take (i := 2) (oi := ?oiz49) (v := ?vz49) ?hiz49 (by kernel_rfl) (by kernel_rfl) (by kernel_rfl) ?hQz49 ?hyz49 (by assumption) ?restz49
            case hiz49 => simp only [List.getElem?_toArray, List.getElem?_cons_zero, List.getElem?_cons_succ]; rfl
            case hQz49 => exact fun _ _ _ h => h
            case hyz49 => exact Or.inl ⟨by rfl, by intro w hSw; (try dsimp only at hSw); go_simp; with_reducible rfl⟩
            try simp only [Act.put, List.setIfInBounds_toArray, List.set_cons_zero, List.set_cons_succ]
            refine wpAnyH_ready (rs := [3]) (by kernel_rfl) (by simp) (AllReadyH.cons (o := ?oy503) ?hy503 (fun K hK => ?sy503) AllReadyH.nil)
            case hy503 => simp only [List.getElem?_toArray, List.getElem?_cons_zero, List.getElem?_cons_succ]; rfl
            go_simp
            refine (hen _ (d0 _ hHeld) (d0b _ hHeld)).mono ?_
            rintro e w' ⟨rfl, rfl⟩
            refine hK.out _ _ hHeld (fun _ => ?_)
            clear hK K
            try simp only [Act.put, List.setIfInBounds_toArray, List.set_cons_zero, List.set_cons_succ]
            refine wpAnyH_take (i := 4) (oi := ?oiz51) (v := ?vz51) ?hiz51 (by kernel_rfl) (by kernel_rfl) (by kernel_rfl) ?hQz51 ?hyz51 (by assumption) ?restz51
            case hiz51 => simp only [List.getElem?_toArray, List.getElem?_cons_zero, List.getElem?_cons_succ]; rfl
            case hQz51 => exact fun _ _ _ h => h
            case hyz51 => exact Or.inl ⟨by rfl, by intro w hSw; (try dsimp only at hSw); go_simp; with_reducible rfl⟩
            try simp only [Act.put, List.setIfInBounds_toArray, List.set_cons_zero, List.set_cons_succ]
            refine wpAnyH_take (i := 5) (oi := ?oiz52) (v := ?vz52) ?hiz52 (by kernel_rfl) (by kernel_rfl) (by kernel_rfl) ?hQz52 ?hyz52 (by assumption) ?restz52
            case hiz52 => simp only [List.getElem?_toArray, List.getElem?_cons_zero, List.getElem?_cons_succ]; rfl
            case hQz52 => exact fun _ _ _ h => h
            case hyz52 => exact Or.inl ⟨by rfl, by intro w hSw; (try dsimp only at hSw); go_simp; with_reducible rfl⟩
            try simp only [Act.put, List.setIfInBounds_toArray, List.set_cons_zero, List.set_cons_succ]
            refine wpAnyH_take (i := 6) (oi := ?oiz53) (v := ?vz53) ?hiz53 (by kernel_rfl) (by kernel_rfl) (by kernel_rfl) ?hQz53 ?hyz53 (by assumption) ?restz53
            case hiz53 => simp only [List.getElem?_toArray, List.getElem?_cons_zero, List.getElem?_cons_succ]; rfl
            case hQz53 => exact fun _ _ _ h => h
            case hyz53 => exact Or.inl ⟨by rfl, by intro w hSw; (try dsimp only at hSw); go_simp; with_reducible rfl⟩
            try simp only [Act.put, List.setIfInBounds_toArray, List.set_cons_zero, List.set_cons_succ]
            refine wpAnyH_take (i := 7) (oi := ?oiz54) (v := ?vz54) ?hiz54 (by kernel_rfl) (by kernel_rfl) (by kernel_rfl) ?hQz54 ?hyz54 (by assumption) ?restz54
            case hiz54 => simp only [List.getElem?_toArray, List.getElem?_cons_zero, List.getElem?_cons_succ]; rfl
            case hQz54 => exact fun _ _ _ h => h
            case hyz54 => exact Or.inl ⟨by rfl, by intro w hSw; (try dsimp only at hSw); go_simp; with_reducible rfl⟩
            try simp only [Act.put, List.setIfInBounds_toArray, List.set_cons_zero, List.set_cons_succ]
            refine wpAnyH_take (i := 8) (oi := ?oiz55) (v := ?vz55) ?hiz55 (by kernel_rfl) (by kernel_rfl) (by kernel_rfl) ?hQz55 ?hyz55 (by assumption) ?restz55
            case hiz55 => simp only [List.getElem?_toArray, List.getElem?_cons_zero, List.getElem?_cons_succ]; rfl
            case hQz55 => exact fun _ _ _ h => h
            case hyz55 => exact Or.inl ⟨by rfl, by intro w hSw; (try dsimp only at hSw); go_simp; with_reducible rfl⟩
            try simp only [Act.put, List.setIfInBounds_toArray, List.set_cons_zero, List.set_cons_succ]
            refine wpAnyH_take (i := 9) (oi := ?oiz56) (v := ?vz56) ?hiz56 (by kernel_rfl) (by kernel_rfl) (by kernel_rfl) ?hQz56 ?hyz56 (by assumption) ?restz56
            case hiz56 => simp only [List.getElem?_toArray, List.getElem?_cons_zero, List.getElem?_cons_succ]; rfl
            case hQz56 => exact fun _ _ _ h => h
            case hyz56 => exact Or.inl ⟨by rfl, by intro w hSw; (try dsimp only at hSw); go_simp; with_reducible rfl⟩
            try simp only [Act.put, List.setIfInBounds_toArray, List.set_cons_zero, List.set_cons_succ]
            refine wpAnyH_take (i := 10) (oi := ?oiz57) (v := ?vz57) ?hiz57 (by kernel_rfl) (by kernel_rfl) (by kernel_rfl) ?hQz57 ?hyz57 (by assumption) ?restz57
            case hiz57 => simp only [List.getElem?_toArray, List.getElem?_cons_zero, List.getElem?_cons_succ]; rfl
            case hQz57 => exact fun _ _ _ h => h
            case hyz57 => exact Or.inl ⟨by rfl, by intro w hSw; (try dsimp only at hSw); go_simp; with_reducible rfl⟩
            try simp only [Act.put, List.setIfInBounds_toArray, List.set_cons_zero, List.set_cons_succ]
            refine wpAnyH_take (i := 11) (oi := ?oiz58) (v := ?vz58) ?hiz58 (by kernel_rfl) (by kernel_rfl) (by kernel_rfl) ?hQz58 ?hyz58 (by assumption) ?restz58
            case hiz58 => simp only [List.getElem?_toArray, List.getElem?_cons_zero, List.getElem?_cons_succ]; rfl
            case hQz58 => exact fun _ _ _ h => h
            case hyz58 => exact Or.inl ⟨by rfl, by intro w hSw; (try dsimp only at hSw); go_simp; with_reducible rfl⟩
            try simp only [Act.put, List.setIfInBounds_toArray, List.set_cons_zero, List.set_cons_succ]
            refine wpAnyH_take (i := 12) (oi := ?oiz59) (v := ?vz59) ?hiz59 (by kernel_rfl) (by kernel_rfl) (by kernel_rfl) ?hQz59 ?hyz59 (by assumption) ?restz59
            case hiz59 => simp only [List.getElem?_toArray, List.getElem?_cons_zero, List.getElem?_cons_succ]; rfl
            case hQz59 => exact fun _ _ _ h => h
            case hyz59 => exact Or.inl ⟨by rfl, by intro w hSw; (try dsimp only at hSw); go_simp; with_reducible rfl⟩
            try simp only [Act.put, List.setIfInBounds_toArray, List.set_cons_zero, List.set_cons_succ]
            refine wpAnyH_take (i := 13) (oi := ?oiz60) (v := ?vz60) ?hiz60 (by kernel_rfl) (by kernel_rfl) (by kernel_rfl) ?hQz60 ?hyz60 (by assumption) ?restz60
            case hiz60 => simp only [List.getElem?_toArray, List.getElem?_cons_zero, List.getElem?_cons_succ]; rfl
            case hQz60 => exact fun _ _ _ h => h
            case hyz60 => exact Or.inl ⟨by rfl, by intro w hSw; (try dsimp only at hSw); go_simp; with_reducible rfl⟩
            try simp only [Act.put, List.setIfInBounds_toArray, List.set_cons_zero, List.set_cons_succ]
            refine wpAnyH_take (i := 14) (oi := ?oiz61) (v := ?vz61) ?hiz61 (by kernel_rfl) (by kernel_rfl) (by kernel_rfl) ?hQz61 ?hyz61 (by assumption) ?restz61
            case hiz61 => simp only [List.getElem?_toArray, List.getElem?_cons_zero, List.getElem?_cons_succ]; rfl
            case hQz61 => exact fun _ _ _ h => h
            case hyz61 => exact Or.inl ⟨by rfl, by intro w hSw; (try dsimp only at hSw); go_simp; with_reducible rfl⟩
            try simp only [Act.put, List.setIfInBounds_toArray, List.set_cons_zero, List.set_cons_succ]
            refine wpAnyH_take (i := 15) (oi := ?oiz62) (v := ?vz62) ?hiz62 (by kernel_rfl) (by kernel_rfl) (by kernel_rfl) ?hQz62 ?hyz62 (by assumption) ?restz62
            case hiz62 => simp only [List.getElem?_toArray, List.getElem?_cons_zero, List.getElem?_cons_succ]; rfl
            case hQz62 => exact fun _ _ _ h => h
            case hyz62 => exact Or.inl ⟨by rfl, by intro w hSw; (try dsimp only at hSw); go_simp; with_reducible rfl⟩
            try simp only [Act.put, List.setIfInBounds_toArray, List.set_cons_zero, List.set_cons_succ]
            refine wpAnyH_take (i := 16) (oi := ?oiz63) (v := ?vz63) ?hiz63 (by kernel_rfl) (by kernel_rfl) (by kernel_rfl) ?hQz63 ?hyz63 (by assumption) ?restz63
            case hiz63 => simp only [List.getElem?_toArray, List.getElem?_cons_zero, List.getElem?_cons_succ]; rfl
            case hQz63 => exact fun _ _ _ h => h
            case hyz63 => exact Or.inl ⟨by rfl, by intro w hSw; (try dsimp only at hSw); go_simp; with_reducible rfl⟩
            try simp only [Act.put, List.setIfInBounds_toArray, List.set_cons_zero, List.set_cons_succ]
            refine wpAnyH_take (i := 17) (oi := ?oiz64) (v := ?vz64) ?hiz64 (by kernel_rfl) (by kernel_rfl) (by kernel_rfl) ?hQz64 ?hyz64 (by assumption) ?restz64
            case hiz64 => simp only [List.getElem?_toArray, List.getElem?_cons_zero, List.getElem?_cons_succ]; rfl
            case hQz64 => exact fun _ _ _ h => h
            case hyz64 => exact Or.inl ⟨by rfl, by intro w hSw; (try dsimp only at hSw); go_simp; with_reducible rfl⟩
            try simp only [Act.put, List.setIfInBounds_toArray, List.set_cons_zero, List.set_cons_succ]
            refine wpAnyH_take (i := 18) (oi := ?oiz65) (v := ?vz65) ?hiz65 (by kernel_rfl) (by kernel_rfl) (by kernel_rfl) ?hQz65 ?hyz65 (by assumption) ?restz65
            case hiz65 => simp only [List.getElem?_toArray, List.getElem?_cons_zero, List.getElem?_cons_succ]; rfl
            case hQz65 => exact fun _ _ _ h => h
            case hyz65 => exact Or.inl ⟨by rfl, by intro w hSw; (try dsimp only at hSw); go_simp; with_reducible rfl⟩
            try simp only [Act.put, List.setIfInBounds_toArray, List.set_cons_zero, List.set_cons_succ]
            refine wpAnyH_take (i := 19) (oi := ?oiz66) (v := ?vz66) ?hiz66 (by kernel_rfl) (by kernel_rfl) (by kernel_rfl) ?hQz66 ?hyz66 (by assumption) ?restz66
            case hiz66 => simp only [List.getElem?_toArray, List.getElem?_cons_zero, List.getElem?_cons_succ]; rfl
            case hQz66 => exact fun _ _ _ h => h
            case hyz66 => exact Or.inl ⟨by rfl, by intro w hSw; (try dsimp only at hSw); go_simp; with_reducible rfl⟩
            try simp only [Act.put, List.setIfInBounds_toArray, List.set_cons_zero, List.set_cons_succ]
            refine wpAnyH_take (i := 20) (oi := ?oiz67) (v := ?vz67) ?hiz67 (by kernel_rfl) (by kernel_rfl) (by kernel_rfl) ?hQz67 ?hyz67 (by assumption) ?restz67
            case hiz67 => simp only [List.getElem?_toArray, List.getElem?_cons_zero, List.getElem?_cons_succ]; rfl
            case hQz67 => exact fun _ _ _ h => h
            case hyz67 => exact Or.inl ⟨by rfl, by intro w hSw; (try dsimp only at hSw); go_simp; with_reducible rfl⟩
            try simp only [Act.put, List.setIfInBounds_toArray, List.set_cons_zero, List.set_cons_succ]
            refine wpAnyH_take (i := 21) (oi := ?oiz68) (v := ?vz68) ?hiz68 (by kernel_rfl) (by kernel_rfl) (by kernel_rfl) ?hQz68 ?hyz68 (by assumption) ?restz68
            case hiz68 => simp only [List.getElem?_toArray, List.getElem?_cons_zero, List.getElem?_cons_succ]; rfl
            case hQz68 => exact fun _ _ _ h => h
            case hyz68 => exact Or.inl ⟨by rfl, by intro w hSw; (try dsimp only at hSw); go_simp; with_reducible rfl⟩
            try simp only [Act.put, List.setIfInBounds_toArray, List.set_cons_zero, List.set_cons_succ]
            refine wpAnyH_take (i := 22) (oi := ?oiz69) (v := ?vz69) ?hiz69 (by kernel_rfl) (by kernel_rfl) (by kernel_rfl) ?hQz69 ?hyz69 (by assumption) ?restz69
            case hiz69 => simp only [List.getElem?_toArray, List.getElem?_cons_zero, List.getElem?_cons_succ]; rfl
            case hQz69 => exact fun _ _ _ h => h
            case hyz69 => exact Or.inl ⟨by rfl, by intro w hSw; (try dsimp only at hSw); go_simp; with_reducible rfl⟩
            try simp only [Act.put, List.setIfInBounds_toArray, List.set_cons_zero, List.set_cons_succ]
            refine wpAnyH_done (by kernel_rfl) ?_ _
            have HX2 := Lib.hid (HX.out.trans hHeld)
            clear hHeld
            go_wp2
            go_roundw
            case rel => exact ⟨j + 2, by omega, by go_num, by rw [HSN.out, HS.out, incC, HGk.out, HBk.out, show j + 1 - 1 = j by omega, HGj.out, HLT.out]; rfl, HX2.out⟩
            case measure => simp [intOf]; omega
          | false =>
            have hl2 : Op.bytesLess L[j].1.toList L[j + 1].1.toList = false := by rw [ltB_eq]; exact hl
            have HB := Lib.hid (incs_bad L (j + 1) L.length hlt (by rw [incC, HGk.out, HBk.out, show j + 1 - 1 = j by omega, HGj.out, hl]; rfl))
            clear hl
            go_wp2_with fail
            refine wp_region_held_drew (S := fun W => Ext wr W) (by kernel_rfl) (Ext.refl _).drew (fun hHeld => ?_)
            refine wpAnyH_take (i := 0) (oi := ?oiz70) (v := ?vz70) ?hiz70 (by kernel_rfl) (by kernel_rfl) (by kernel_rfl) ?hQz70 ?hyz70 (by assumption) ?restz70
            case hiz70 => simp only [List.getElem?_toArray, List.getElem?_cons_zero, List.getElem?_cons_succ]; rfl
            case hQz70 => exact fun _ _ _ h => h
            case hyz70 => exact Or.inl ⟨by rfl, by intro w hSw; (try dsimp only at hSw); go_simp; with_reducible rfl⟩
            try simp only [Act.put, List.setIfInBounds_toArray, List.set_cons_zero, List.set_cons_succ]
            refine wpAnyH_take (i := 1) (oi := ?oiz71) (v := ?vz71) ?hiz71 (by kernel_rfl) (by kernel_rfl) (by kernel_rfl) ?hQz71 ?hyz71 (by assumption) ?restz71
            case hiz71 => simp only [List.getElem?_toArray, List.getElem?_cons_zero, List.getElem?_cons_succ]; rfl
            case hQz71 => exact fun _ _ _ h => h
            case hyz71 => exact Or.inl ⟨by rfl, by intro w hSw; (try dsimp only at hSw); go_simp; with_reducible rfl⟩
            try simp only [Act.put, List.setIfInBounds_toArray, List.set_cons_zero, List.set_cons_succ]
            refine wpAnyH_take (i := 2) (oi := ?oiz72) (v := ?vz72) ?hiz72 (by kernel_rfl) (by kernel_rfl) (by kernel_rfl) ?hQz72 ?hyz72 (by assumption) ?restz72
            case hiz72 => simp only [List.getElem?_toArray, List.getElem?_cons_zero, List.getElem?_cons_succ]; rfl
            case hQz72 => exact fun _ _ _ h => h
            case hyz72 => exact Or.inl ⟨by rfl, by intro w hSw; (try dsimp only at hSw); go_simp; with_reducible rfl⟩
            try simp only [Act.put, List.setIfInBounds_toArray, List.set_cons_zero, List.set_cons_succ]
            refine wpAnyH_ready (rs := [3]) (by kernel_rfl) (by simp) (AllReadyH.cons (o := ?oy733) ?hy733 (fun K hK => ?sy733) AllReadyH.nil)
            case hy733 => simp only [List.getElem?_toArray, List.getElem?_cons_zero, List.getElem?_cons_succ]; rfl
            go_simp
            refine (hen _ (d0 _ hHeld) (d0b _ hHeld)).mono ?_
            rintro e w' ⟨rfl, rfl⟩
            refine hK.out _ _ hHeld (fun _ => ?_)
            clear hK K
            try simp only [Act.put, List.setIfInBounds_toArray, List.set_cons_zero, List.set_cons_succ]
            refine wpAnyH_take (i := 4) (oi := ?oiz74) (v := ?vz74) ?hiz74 (by kernel_rfl) (by kernel_rfl) (by kernel_rfl) ?hQz74 ?hyz74 (by assumption) ?restz74
            case hiz74 => simp only [List.getElem?_toArray, List.getElem?_cons_zero, List.getElem?_cons_succ]; rfl
            case hQz74 => exact fun _ _ _ h => h
            case hyz74 => exact Or.inl ⟨by rfl, by intro w hSw; (try dsimp only at hSw); go_simp; with_reducible rfl⟩
            try simp only [Act.put, List.setIfInBounds_toArray, List.set_cons_zero, List.set_cons_succ]
            refine wpAnyH_take (i := 5) (oi := ?oiz75) (v := ?vz75) ?hiz75 (by kernel_rfl) (by kernel_rfl) (by kernel_rfl) ?hQz75 ?hyz75 (by assumption) ?restz75
            case hiz75 => simp only [List.getElem?_toArray, List.getElem?_cons_zero, List.getElem?_cons_succ]; rfl
            case hQz75 => exact fun _ _ _ h => h
            case hyz75 => exact Or.inl ⟨by rfl, by intro w hSw; (try dsimp only at hSw); go_simp; with_reducible rfl⟩
            try simp only [Act.put, List.setIfInBounds_toArray, List.set_cons_zero, List.set_cons_succ]
            refine wpAnyH_take (i := 6) (oi := ?oiz76) (v := ?vz76) ?hiz76 (by kernel_rfl) (by kernel_rfl) (by kernel_rfl) ?hQz76 ?hyz76 (by assumption) ?restz76
            case hiz76 => simp only [List.getElem?_toArray, List.getElem?_cons_zero, List.getElem?_cons_succ]; rfl
            case hQz76 => exact fun _ _ _ h => h
            case hyz76 => exact Or.inl ⟨by rfl, by intro w hSw; (try dsimp only at hSw); go_simp; with_reducible rfl⟩
            try simp only [Act.put, List.setIfInBounds_toArray, List.set_cons_zero, List.set_cons_succ]
            refine wpAnyH_take (i := 7) (oi := ?oiz77) (v := ?vz77) ?hiz77 (by kernel_rfl) (by kernel_rfl) (by kernel_rfl) ?hQz77 ?hyz77 (by assumption) ?restz77
            case hiz77 => simp only [List.getElem?_toArray, List.getElem?_cons_zero, List.getElem?_cons_succ]; rfl
            case hQz77 => exact fun _ _ _ h => h
            case hyz77 => exact Or.inl ⟨by rfl, by intro w hSw; (try dsimp only at hSw); go_simp; with_reducible rfl⟩
            try simp only [Act.put, List.setIfInBounds_toArray, List.set_cons_zero, List.set_cons_succ]
            refine wpAnyH_take (i := 8) (oi := ?oiz78) (v := ?vz78) ?hiz78 (by kernel_rfl) (by kernel_rfl) (by kernel_rfl) ?hQz78 ?hyz78 (by assumption) ?restz78
            case hiz78 => simp only [List.getElem?_toArray, List.getElem?_cons_zero, List.getElem?_cons_succ]; rfl
            case hQz78 => exact fun _ _ _ h => h
            case hyz78 => exact Or.inl ⟨by rfl, by intro w hSw; (try dsimp only at hSw); go_simp; with_reducible rfl⟩
            try simp only [Act.put, List.setIfInBounds_toArray, List.set_cons_zero, List.set_cons_succ]
            refine wpAnyH_take (i := 9) (oi := ?oiz79) (v := ?vz79) ?hiz79 (by kernel_rfl) (by kernel_rfl) (by kernel_rfl) ?hQz79 ?hyz79 (by assumption) ?restz79
            case hiz79 => simp only [List.getElem?_toArray, List.getElem?_cons_zero, List.getElem?_cons_succ]; rfl
            case hQz79 => exact fun _ _ _ h => h
            case hyz79 => exact Or.inl ⟨by rfl, by intro w hSw; (try dsimp only at hSw); go_simp; with_reducible rfl⟩
            try simp only [Act.put, List.setIfInBounds_toArray, List.set_cons_zero, List.set_cons_succ]
            refine wpAnyH_take (i := 10) (oi := ?oiz80) (v := ?vz80) ?hiz80 (by kernel_rfl) (by kernel_rfl) (by kernel_rfl) ?hQz80 ?hyz80 (by assumption) ?restz80
            case hiz80 => simp only [List.getElem?_toArray, List.getElem?_cons_zero, List.getElem?_cons_succ]; rfl
            case hQz80 => exact fun _ _ _ h => h
            case hyz80 => exact Or.inl ⟨by rfl, by intro w hSw; (try dsimp only at hSw); go_simp; with_reducible rfl⟩
            try simp only [Act.put, List.setIfInBounds_toArray, List.set_cons_zero, List.set_cons_succ]
            refine wpAnyH_take (i := 11) (oi := ?oiz81) (v := ?vz81) ?hiz81 (by kernel_rfl) (by kernel_rfl) (by kernel_rfl) ?hQz81 ?hyz81 (by assumption) ?restz81
            case hiz81 => simp only [List.getElem?_toArray, List.getElem?_cons_zero, List.getElem?_cons_succ]; rfl
            case hQz81 => exact fun _ _ _ h => h
            case hyz81 => exact Or.inl ⟨by rfl, by intro w hSw; (try dsimp only at hSw); go_simp; with_reducible rfl⟩
            try simp only [Act.put, List.setIfInBounds_toArray, List.set_cons_zero, List.set_cons_succ]
            refine wpAnyH_take (i := 12) (oi := ?oiz82) (v := ?vz82) ?hiz82 (by kernel_rfl) (by kernel_rfl) (by kernel_rfl) ?hQz82 ?hyz82 (by assumption) ?restz82
            case hiz82 => simp only [List.getElem?_toArray, List.getElem?_cons_zero, List.getElem?_cons_succ]; rfl
            case hQz82 => exact fun _ _ _ h => h
            case hyz82 => exact Or.inl ⟨by rfl, by intro w hSw; (try dsimp only at hSw); go_simp; with_reducible rfl⟩
            try simp only [Act.put, List.setIfInBounds_toArray, List.set_cons_zero, List.set_cons_succ]
            refine wpAnyH_take (i := 13) (oi := ?oiz83) (v := ?vz83) ?hiz83 (by kernel_rfl) (by kernel_rfl) (by kernel_rfl) ?hQz83 ?hyz83 (by assumption) ?restz83
            case hiz83 => simp only [List.getElem?_toArray, List.getElem?_cons_zero, List.getElem?_cons_succ]; rfl
            case hQz83 => exact fun _ _ _ h => h
            case hyz83 => exact Or.inl ⟨by rfl, by intro w hSw; (try dsimp only at hSw); go_simp; with_reducible rfl⟩
            try simp only [Act.put, List.setIfInBounds_toArray, List.set_cons_zero, List.set_cons_succ]
            refine wpAnyH_take (i := 14) (oi := ?oiz84) (v := ?vz84) ?hiz84 (by kernel_rfl) (by kernel_rfl) (by kernel_rfl) ?hQz84 ?hyz84 (by assumption) ?restz84
            case hiz84 => simp only [List.getElem?_toArray, List.getElem?_cons_zero, List.getElem?_cons_succ]; rfl
            case hQz84 => exact fun _ _ _ h => h
            case hyz84 => exact Or.inl ⟨by rfl, by intro w hSw; (try dsimp only at hSw); go_simp; with_reducible rfl⟩
            try simp only [Act.put, List.setIfInBounds_toArray, List.set_cons_zero, List.set_cons_succ]
            refine wpAnyH_take (i := 15) (oi := ?oiz85) (v := ?vz85) ?hiz85 (by kernel_rfl) (by kernel_rfl) (by kernel_rfl) ?hQz85 ?hyz85 (by assumption) ?restz85
            case hiz85 => simp only [List.getElem?_toArray, List.getElem?_cons_zero, List.getElem?_cons_succ]; rfl
            case hQz85 => exact fun _ _ _ h => h
            case hyz85 => exact Or.inl ⟨by rfl, by intro w hSw; (try dsimp only at hSw); go_simp; with_reducible rfl⟩
            try simp only [Act.put, List.setIfInBounds_toArray, List.set_cons_zero, List.set_cons_succ]
            refine wpAnyH_take (i := 16) (oi := ?oiz86) (v := ?vz86) ?hiz86 (by kernel_rfl) (by kernel_rfl) (by kernel_rfl) ?hQz86 ?hyz86 (by assumption) ?restz86
            case hiz86 => simp only [List.getElem?_toArray, List.getElem?_cons_zero, List.getElem?_cons_succ]; rfl
            case hQz86 => exact fun _ _ _ h => h
            case hyz86 => exact Or.inl ⟨by rfl, by intro w hSw; (try dsimp only at hSw); go_simp; with_reducible rfl⟩
            try simp only [Act.put, List.setIfInBounds_toArray, List.set_cons_zero, List.set_cons_succ]
            refine wpAnyH_take (i := 17) (oi := ?oiz87) (v := ?vz87) ?hiz87 (by kernel_rfl) (by kernel_rfl) (by kernel_rfl) ?hQz87 ?hyz87 (by assumption) ?restz87
            case hiz87 => simp only [List.getElem?_toArray, List.getElem?_cons_zero, List.getElem?_cons_succ]; rfl
            case hQz87 => exact fun _ _ _ h => h
            case hyz87 => exact Or.inl ⟨by rfl, by intro w hSw; (try dsimp only at hSw); go_simp; with_reducible rfl⟩
            try simp only [Act.put, List.setIfInBounds_toArray, List.set_cons_zero, List.set_cons_succ]
            refine wpAnyH_take (i := 18) (oi := ?oiz88) (v := ?vz88) ?hiz88 (by kernel_rfl) (by kernel_rfl) (by kernel_rfl) ?hQz88 ?hyz88 (by assumption) ?restz88
            case hiz88 => simp only [List.getElem?_toArray, List.getElem?_cons_zero, List.getElem?_cons_succ]; rfl
            case hQz88 => exact fun _ _ _ h => h
            case hyz88 => exact Or.inl ⟨by rfl, by intro w hSw; (try dsimp only at hSw); go_simp; with_reducible rfl⟩
            try simp only [Act.put, List.setIfInBounds_toArray, List.set_cons_zero, List.set_cons_succ]
            refine wpAnyH_take (i := 19) (oi := ?oiz89) (v := ?vz89) ?hiz89 (by kernel_rfl) (by kernel_rfl) (by kernel_rfl) ?hQz89 ?hyz89 (by assumption) ?restz89
            case hiz89 => simp only [List.getElem?_toArray, List.getElem?_cons_zero, List.getElem?_cons_succ]; rfl
            case hQz89 => exact fun _ _ _ h => h
            case hyz89 => exact Or.inl ⟨by rfl, by intro w hSw; (try dsimp only at hSw); go_simp; with_reducible rfl⟩
            try simp only [Act.put, List.setIfInBounds_toArray, List.set_cons_zero, List.set_cons_succ]
            refine wpAnyH_take (i := 20) (oi := ?oiz90) (v := ?vz90) ?hiz90 (by kernel_rfl) (by kernel_rfl) (by kernel_rfl) ?hQz90 ?hyz90 (by assumption) ?restz90
            case hiz90 => simp only [List.getElem?_toArray, List.getElem?_cons_zero, List.getElem?_cons_succ]; rfl
            case hQz90 => exact fun _ _ _ h => h
            case hyz90 => exact Or.inl ⟨by rfl, by intro w hSw; (try dsimp only at hSw); go_simp; with_reducible rfl⟩
            try simp only [Act.put, List.setIfInBounds_toArray, List.set_cons_zero, List.set_cons_succ]
            refine wpAnyH_take (i := 21) (oi := ?oiz91) (v := ?vz91) ?hiz91 (by kernel_rfl) (by kernel_rfl) (by kernel_rfl) ?hQz91 ?hyz91 (by assumption) ?restz91
            case hiz91 => simp only [List.getElem?_toArray, List.getElem?_cons_zero, List.getElem?_cons_succ]; rfl
            case hQz91 => exact fun _ _ _ h => h
            case hyz91 => exact Or.inl ⟨by rfl, by intro w hSw; (try dsimp only at hSw); go_simp; with_reducible rfl⟩
            try simp only [Act.put, List.setIfInBounds_toArray, List.set_cons_zero, List.set_cons_succ]
            refine wpAnyH_take (i := 22) (oi := ?oiz92) (v := ?vz92) ?hiz92 (by kernel_rfl) (by kernel_rfl) (by kernel_rfl) ?hQz92 ?hyz92 (by assumption) ?restz92
            case hiz92 => simp only [List.getElem?_toArray, List.getElem?_cons_zero, List.getElem?_cons_succ]; rfl
            case hQz92 => exact fun _ _ _ h => h
            case hyz92 => exact Or.inl ⟨by rfl, by intro w hSw; (try dsimp only at hSw); go_simp; with_reducible rfl⟩
            try simp only [Act.put, List.setIfInBounds_toArray, List.set_cons_zero, List.set_cons_succ]
            refine wpAnyH_done (by kernel_rfl) ?_ _
            have HX2 := Lib.hid (HX.out.trans hHeld)
            clear hHeld
            go_wp2
            go_ret
            exact ⟨by rw [HE.out, HB.out]; rfl, HX2.out⟩
    · obtain rfl : k = L.length := by omega
      go_wp2
      go_ret
      exact ⟨by rw [HE.out, HS.out, Bool.true_and]; exact ret_bool (by simp; omega), HX.out⟩

set_option maxHeartbeats 1000000 in
set_option maxRecDepth 100000 in
theorem validEntries_any (v : Value) (L : List En) (w : World) (S : Nat → Prop) (h : RdL tEnt w S v L) :
    Calls Try.prog 69 #[v] w fun e w' => e = .returned (.bool (okE L)) ∧ Ext w w' := by
  obtain ⟨A, cap, rfl, hcap, hlen, hrd, hok⟩ := h
  have Hrd := Lib.hid hrd
  have Hok := Lib.hid hok
  have HE := Lib.hid (okE_eq L)
  have HZ := Lib.hid (incs_zero L)
  clear hrd hok
  go_enter Try.func69, Try.ntmps69
  go_wp2
  go_loopw [7] (fun i wr => ∃ k : Nat, k ≤ L.length ∧ i = .int .i64 k ∧ incs L k = true ∧ Ext w wr) (fun i _ => L.length - (intOf i).toNat)
  case atStart => exact ⟨0, by omega, rfl, HZ.out, Ext.refl _⟩
  case round =>
    obtain ⟨k, hk, rfl, hs, hx⟩ := hrel
    have HS := Lib.hid hs
    have HX := Lib.hid hx
    clear hs hx HZ
    by_cases hlt : k < L.length
    · obtain ⟨g, o, rfl, hs0, hc⟩ := Hrd.out.elem Hok.out k hlt
      have HO := Lib.hid (show tEnt.ok L[k] from Hok.out _ (List.getElem_mem hlt))
      have HD := Lib.hid (show ∀ j u, (tEnt.enc L[k])[j]? = some u → wr.cell? ⟨g, o + k * 2 + j, none⟩ = some u from fun j u hu => HX.out.cell (hc j u hu))
      have HST := Lib.hid (show St 2 (tEnt.enc L[k]).toArray from stEnt _ _)
      have HB2 := Lib.hid (Blk.new wr 29 (tEnt.enc L[k]).toArray)
      have E2 := Lib.hid (ext_alloc wr (.cells (tEnt.enc L[k]).toArray 29))
      have HXW := Lib.hid (HX.out.trans E2.out)
      have d0 : ∀ W, Ext (wr.alloc (.cells (tEnt.enc L[k]).toArray 29)) W → W.cell? ⟨wr.heap.size, 0, none⟩ = some (.string L[k].1) := fun W hW => (HB2.out.ext hW).at_ 0 rfl
      have hen := fun W => validEntry_any L[k].1 L[k].2 HO.out.1 HO.out.2 W
      have HSN := Lib.hid (incs_succ L k)
      have HGk := Lib.hid (gE_lt hlt)
      have hi : (0 : Int) ≤ (k : Int) := by omega
      have hi2 : (k : Int) < (L.length : Int) := by omega
      clear hc
      cases hb : entB L[k].1 L[k].2 with
      | false =>
        have HB := Lib.hid (incs_bad L k L.length hlt (by rw [incC, HGk.out, hb]; rfl))
        simp only [hb] at hen
        clear hb
        go_wp2_with (first
          | (refine wpl_load ⟨g, o + k * 2, none⟩ (tEnt.enc L[k]) aggEntryI rfl _ rfl rfl (fun j u hu => by rw [Addr.add_lit]; exact HD.out j u hu) ?_)
          | (refine wpl_storeNewB aggEntryI HST.out rfl rfl _ _ rfl rfl rfl rfl ?_))
        generalize World.alloc wr (.cells (tEnt.enc L[k]).toArray 29) = w2 at HB2 E2 d0 HXW ⊢
        have R2 := Ext.refl w2
        refine wp_region_held_drew (S := fun W => Ext w2 W) (by kernel_rfl) (Ext.refl _).drew (fun hHeld => ?_)
        refine wpAnyH_take (i := 0) (oi := ?oiz93) (v := (.agg (tEnt.enc L[k]).toArray)) ?hiz93 (by kernel_rfl) (by kernel_rfl) (by kernel_rfl) ?hQz93 ?hyz93 (by assumption) ?restz93
        case hiz93 => simp only [List.getElem?_toArray, List.getElem?_cons_zero, List.getElem?_cons_succ]; rfl
        case hQz93 => exact fun _ _ _ h => h
        case hyz93 => refine yields_loadB HB2.out aggEntryI rfl ?_ _ rfl rfl; rfl
        try simp only [Act.put, List.setIfInBounds_toArray, List.set_cons_zero, List.set_cons_succ]
        refine wpAnyH_ready (rs := [1]) (by kernel_rfl) (by simp) (AllReadyH.cons (o := ?oy941) ?hy941 (fun K hK => ?sy941) AllReadyH.nil)
        case hy941 => simp only [List.getElem?_toArray, List.getElem?_cons_zero, List.getElem?_cons_succ]; rfl
        go_simp
        refine (hen _).mono ?_
        rintro e w3 ⟨rfl, hx⟩
        have hH2 := hHeld.trans hx
        refine hK.out _ _ hH2 (fun _ => ?_)
        clear hHeld hK K
        have hHeld := hH2
        clear hH2
        try simp only [Act.put, List.setIfInBounds_toArray, List.set_cons_zero, List.set_cons_succ]
        refine wpAnyH_take (i := 2) (oi := ?oiz95) (v := ?vz95) ?hiz95 (by kernel_rfl) (by kernel_rfl) (by kernel_rfl) ?hQz95 ?hyz95 (by assumption) ?restz95
        case hiz95 => simp only [List.getElem?_toArray, List.getElem?_cons_zero, List.getElem?_cons_succ]; rfl
        case hQz95 => exact fun _ _ _ h => h
        case hyz95 => exact Or.inl ⟨by rfl, by intro w hSw; (try dsimp only at hSw); go_simp; with_reducible rfl⟩
        try simp only [Act.put, List.setIfInBounds_toArray, List.set_cons_zero, List.set_cons_succ]
        refine wpAnyH_take (i := 3) (oi := ?oiz96) (v := ?vz96) ?hiz96 (by kernel_rfl) (by kernel_rfl) (by kernel_rfl) ?hQz96 ?hyz96 (by assumption) ?restz96
        case hiz96 => simp only [List.getElem?_toArray, List.getElem?_cons_zero, List.getElem?_cons_succ]; rfl
        case hQz96 => exact fun _ _ _ h => h
        case hyz96 => exact Or.inl ⟨by rfl, by intro w hSw; (try dsimp only at hSw); go_simp; with_reducible rfl⟩
        try simp only [Act.put, List.setIfInBounds_toArray, List.set_cons_zero, List.set_cons_succ]
        refine wpAnyH_take (i := 4) (oi := ?oiz97) (v := undef) ?hiz97 (by kernel_rfl) (by kernel_rfl) (by kernel_rfl) ?hQz97 ?hyz97 (by assumption) ?restz97
        case hiz97 => simp only [List.getElem?_toArray, List.getElem?_cons_zero, List.getElem?_cons_succ]; rfl
        case hQz97 => exact fun _ _ _ h => h
        case hyz97 => exact Or.inr ⟨by rfl, rfl⟩
        try simp only [Act.put, List.setIfInBounds_toArray, List.set_cons_zero, List.set_cons_succ]
        refine wpAnyH_take (i := 5) (oi := ?oiz98) (v := undef) ?hiz98 (by kernel_rfl) (by kernel_rfl) (by kernel_rfl) ?hQz98 ?hyz98 (by assumption) ?restz98
        case hiz98 => simp only [List.getElem?_toArray, List.getElem?_cons_zero, List.getElem?_cons_succ]; rfl
        case hQz98 => exact fun _ _ _ h => h
        case hyz98 => exact Or.inr ⟨by rfl, rfl⟩
        try simp only [Act.put, List.setIfInBounds_toArray, List.set_cons_zero, List.set_cons_succ]
        refine wpAnyH_take (i := 6) (oi := ?oiz99) (v := undef) ?hiz99 (by kernel_rfl) (by kernel_rfl) (by kernel_rfl) ?hQz99 ?hyz99 (by assumption) ?restz99
        case hiz99 => simp only [List.getElem?_toArray, List.getElem?_cons_zero, List.getElem?_cons_succ]; rfl
        case hQz99 => exact fun _ _ _ h => h
        case hyz99 => exact Or.inr ⟨by rfl, rfl⟩
        try simp only [Act.put, List.setIfInBounds_toArray, List.set_cons_zero, List.set_cons_succ]
        refine wpAnyH_take (i := 7) (oi := ?oiz100) (v := undef) ?hiz100 (by kernel_rfl) (by kernel_rfl) (by kernel_rfl) ?hQz100 ?hyz100 (by assumption) ?restz100
        case hiz100 => simp only [List.getElem?_toArray, List.getElem?_cons_zero, List.getElem?_cons_succ]; rfl
        case hQz100 => exact fun _ _ _ h => h
        case hyz100 => exact Or.inr ⟨by rfl, rfl⟩
        try simp only [Act.put, List.setIfInBounds_toArray, List.set_cons_zero, List.set_cons_succ]
        refine wpAnyH_take (i := 8) (oi := ?oiz101) (v := undef) ?hiz101 (by kernel_rfl) (by kernel_rfl) (by kernel_rfl) ?hQz101 ?hyz101 (by assumption) ?restz101
        case hiz101 => simp only [List.getElem?_toArray, List.getElem?_cons_zero, List.getElem?_cons_succ]; rfl
        case hQz101 => exact fun _ _ _ h => h
        case hyz101 => exact Or.inr ⟨by rfl, rfl⟩
        try simp only [Act.put, List.setIfInBounds_toArray, List.set_cons_zero, List.set_cons_succ]
        refine wpAnyH_take (i := 9) (oi := ?oiz102) (v := undef) ?hiz102 (by kernel_rfl) (by kernel_rfl) (by kernel_rfl) ?hQz102 ?hyz102 (by assumption) ?restz102
        case hiz102 => simp only [List.getElem?_toArray, List.getElem?_cons_zero, List.getElem?_cons_succ]; rfl
        case hQz102 => exact fun _ _ _ h => h
        case hyz102 => exact Or.inr ⟨by rfl, rfl⟩
        try simp only [Act.put, List.setIfInBounds_toArray, List.set_cons_zero, List.set_cons_succ]
        refine wpAnyH_take (i := 10) (oi := ?oiz103) (v := undef) ?hiz103 (by kernel_rfl) (by kernel_rfl) (by kernel_rfl) ?hQz103 ?hyz103 (by assumption) ?restz103
        case hiz103 => simp only [List.getElem?_toArray, List.getElem?_cons_zero, List.getElem?_cons_succ]; rfl
        case hQz103 => exact fun _ _ _ h => h
        case hyz103 => exact Or.inr ⟨by rfl, rfl⟩
        try simp only [Act.put, List.setIfInBounds_toArray, List.set_cons_zero, List.set_cons_succ]
        refine wpAnyH_take (i := 11) (oi := ?oiz104) (v := undef) ?hiz104 (by kernel_rfl) (by kernel_rfl) (by kernel_rfl) ?hQz104 ?hyz104 (by assumption) ?restz104
        case hiz104 => simp only [List.getElem?_toArray, List.getElem?_cons_zero, List.getElem?_cons_succ]; rfl
        case hQz104 => exact fun _ _ _ h => h
        case hyz104 => exact Or.inr ⟨by rfl, rfl⟩
        try simp only [Act.put, List.setIfInBounds_toArray, List.set_cons_zero, List.set_cons_succ]
        refine wpAnyH_take (i := 12) (oi := ?oiz105) (v := undef) ?hiz105 (by kernel_rfl) (by kernel_rfl) (by kernel_rfl) ?hQz105 ?hyz105 (by assumption) ?restz105
        case hiz105 => simp only [List.getElem?_toArray, List.getElem?_cons_zero, List.getElem?_cons_succ]; rfl
        case hQz105 => exact fun _ _ _ h => h
        case hyz105 => exact Or.inr ⟨by rfl, rfl⟩
        try simp only [Act.put, List.setIfInBounds_toArray, List.set_cons_zero, List.set_cons_succ]
        refine wpAnyH_take (i := 13) (oi := ?oiz106) (v := undef) ?hiz106 (by kernel_rfl) (by kernel_rfl) (by kernel_rfl) ?hQz106 ?hyz106 (by assumption) ?restz106
        case hiz106 => simp only [List.getElem?_toArray, List.getElem?_cons_zero, List.getElem?_cons_succ]; rfl
        case hQz106 => exact fun _ _ _ h => h
        case hyz106 => exact Or.inr ⟨by rfl, rfl⟩
        try simp only [Act.put, List.setIfInBounds_toArray, List.set_cons_zero, List.set_cons_succ]
        refine wpAnyH_take (i := 14) (oi := ?oiz107) (v := undef) ?hiz107 (by kernel_rfl) (by kernel_rfl) (by kernel_rfl) ?hQz107 ?hyz107 (by assumption) ?restz107
        case hiz107 => simp only [List.getElem?_toArray, List.getElem?_cons_zero, List.getElem?_cons_succ]; rfl
        case hQz107 => exact fun _ _ _ h => h
        case hyz107 => exact Or.inr ⟨by rfl, rfl⟩
        try simp only [Act.put, List.setIfInBounds_toArray, List.set_cons_zero, List.set_cons_succ]
        refine wpAnyH_take (i := 15) (oi := ?oiz108) (v := undef) ?hiz108 (by kernel_rfl) (by kernel_rfl) (by kernel_rfl) ?hQz108 ?hyz108 (by assumption) ?restz108
        case hiz108 => simp only [List.getElem?_toArray, List.getElem?_cons_zero, List.getElem?_cons_succ]; rfl
        case hQz108 => exact fun _ _ _ h => h
        case hyz108 => exact Or.inr ⟨by rfl, rfl⟩
        try simp only [Act.put, List.setIfInBounds_toArray, List.set_cons_zero, List.set_cons_succ]
        refine wpAnyH_take (i := 16) (oi := ?oiz109) (v := undef) ?hiz109 (by kernel_rfl) (by kernel_rfl) (by kernel_rfl) ?hQz109 ?hyz109 (by assumption) ?restz109
        case hiz109 => simp only [List.getElem?_toArray, List.getElem?_cons_zero, List.getElem?_cons_succ]; rfl
        case hQz109 => exact fun _ _ _ h => h
        case hyz109 => exact Or.inr ⟨by rfl, rfl⟩
        try simp only [Act.put, List.setIfInBounds_toArray, List.set_cons_zero, List.set_cons_succ]
        refine wpAnyH_take (i := 17) (oi := ?oiz110) (v := ?vz110) ?hiz110 (by kernel_rfl) (by kernel_rfl) (by kernel_rfl) ?hQz110 ?hyz110 (by assumption) ?restz110
        case hiz110 => simp only [List.getElem?_toArray, List.getElem?_cons_zero, List.getElem?_cons_succ]; rfl
        case hQz110 => exact fun _ _ _ h => h
        case hyz110 => exact Or.inl ⟨by rfl, by intro w hSw; (try dsimp only at hSw); go_simp; with_reducible rfl⟩
        try simp only [Act.put, List.setIfInBounds_toArray, List.set_cons_zero, List.set_cons_succ]
        refine wpAnyH_done (by kernel_rfl) ?_ _
        have HX2 := Lib.hid (HXW.out.trans hHeld)
        clear hHeld
        go_wp2
        go_ret
        exact ⟨by rw [HE.out, HB.out]; rfl, HX2.out⟩
      | true =>
        have HBk := Lib.hid hb
        simp only [hb] at hen
        clear hb
        rcases k with _ | j
        · simp only [Int.cast_ofNat_Int] at hi2 ⊢
          go_wp2_with (first
            | (refine wpl_load ⟨g, o + 0 * 2, none⟩ (tEnt.enc L[0]) aggEntryI rfl _ rfl rfl (fun j u hu => by rw [Addr.add_lit]; exact HD.out j u hu) ?_)
            | (refine wpl_storeNewB aggEntryI HST.out rfl rfl _ _ rfl rfl rfl rfl ?_))
          generalize World.alloc wr (.cells (tEnt.enc L[0]).toArray 29) = w2 at HB2 E2 d0 HXW ⊢
          have R2 := Ext.refl w2
          refine wp_region_held_drew (S := fun W => Ext w2 W) (by kernel_rfl) (Ext.refl _).drew (fun hHeld => ?_)
          refine wpAnyH_take (i := 0) (oi := ?oiz111) (v := (.agg (tEnt.enc L[0]).toArray)) ?hiz111 (by kernel_rfl) (by kernel_rfl) (by kernel_rfl) ?hQz111 ?hyz111 (by assumption) ?restz111
          case hiz111 => simp only [List.getElem?_toArray, List.getElem?_cons_zero, List.getElem?_cons_succ]; rfl
          case hQz111 => exact fun _ _ _ h => h
          case hyz111 => refine yields_loadB HB2.out aggEntryI rfl ?_ _ rfl rfl; rfl
          try simp only [Act.put, List.setIfInBounds_toArray, List.set_cons_zero, List.set_cons_succ]
          refine wpAnyH_ready (rs := [1]) (by kernel_rfl) (by simp) (AllReadyH.cons (o := ?oy1121) ?hy1121 (fun K hK => ?sy1121) AllReadyH.nil)
          case hy1121 => simp only [List.getElem?_toArray, List.getElem?_cons_zero, List.getElem?_cons_succ]; rfl
          go_simp
          refine (hen _).mono ?_
          rintro e w3 ⟨rfl, hx⟩
          have hH2 := hHeld.trans hx
          refine hK.out _ _ hH2 (fun _ => ?_)
          clear hHeld hK K
          have hHeld := hH2
          clear hH2
          try simp only [Act.put, List.setIfInBounds_toArray, List.set_cons_zero, List.set_cons_succ]
          refine wpAnyH_take (i := 2) (oi := ?oiz113) (v := ?vz113) ?hiz113 (by kernel_rfl) (by kernel_rfl) (by kernel_rfl) ?hQz113 ?hyz113 (by assumption) ?restz113
          case hiz113 => simp only [List.getElem?_toArray, List.getElem?_cons_zero, List.getElem?_cons_succ]; rfl
          case hQz113 => exact fun _ _ _ h => h
          case hyz113 => exact Or.inl ⟨by rfl, by intro w hSw; (try dsimp only at hSw); go_simp; with_reducible rfl⟩
          try simp only [Act.put, List.setIfInBounds_toArray, List.set_cons_zero, List.set_cons_succ]
          refine wpAnyH_take (i := 3) (oi := ?oiz114) (v := ?vz114) ?hiz114 (by kernel_rfl) (by kernel_rfl) (by kernel_rfl) ?hQz114 ?hyz114 (by assumption) ?restz114
          case hiz114 => simp only [List.getElem?_toArray, List.getElem?_cons_zero, List.getElem?_cons_succ]; rfl
          case hQz114 => exact fun _ _ _ h => h
          case hyz114 => exact Or.inl ⟨by rfl, by intro w hSw; (try dsimp only at hSw); go_simp; with_reducible rfl⟩
          try simp only [Act.put, List.setIfInBounds_toArray, List.set_cons_zero, List.set_cons_succ]
          refine wpAnyH_take (i := 4) (oi := ?oiz115) (v := ?vz115) ?hiz115 (by kernel_rfl) (by kernel_rfl) (by kernel_rfl) ?hQz115 ?hyz115 (by assumption) ?restz115
          case hiz115 => simp only [List.getElem?_toArray, List.getElem?_cons_zero, List.getElem?_cons_succ]; rfl
          case hQz115 => exact fun _ _ _ h => h
          case hyz115 => exact Or.inl ⟨by rfl, by intro w hSw; (try dsimp only at hSw); go_simp; with_reducible rfl⟩
          try simp only [Act.put, List.setIfInBounds_toArray, List.set_cons_zero, List.set_cons_succ]
          refine wpAnyH_take (i := 5) (oi := ?oiz116) (v := ?vz116) ?hiz116 (by kernel_rfl) (by kernel_rfl) (by kernel_rfl) ?hQz116 ?hyz116 (by assumption) ?restz116
          case hiz116 => simp only [List.getElem?_toArray, List.getElem?_cons_zero, List.getElem?_cons_succ]; rfl
          case hQz116 => exact fun _ _ _ h => h
          case hyz116 => exact Or.inl ⟨by rfl, by intro w hSw; (try dsimp only at hSw); go_simp; with_reducible rfl⟩
          try simp only [Act.put, List.setIfInBounds_toArray, List.set_cons_zero, List.set_cons_succ]
          refine wpAnyH_take (i := 6) (oi := ?oiz117) (v := ?vz117) ?hiz117 (by kernel_rfl) (by kernel_rfl) (by kernel_rfl) ?hQz117 ?hyz117 (by assumption) ?restz117
          case hiz117 => simp only [List.getElem?_toArray, List.getElem?_cons_zero, List.getElem?_cons_succ]; rfl
          case hQz117 => exact fun _ _ _ h => h
          case hyz117 => exact Or.inl ⟨by rfl, by intro w hSw; (try dsimp only at hSw); go_simp; with_reducible rfl⟩
          try simp only [Act.put, List.setIfInBounds_toArray, List.set_cons_zero, List.set_cons_succ]
          refine wpAnyH_take (i := 7) (oi := ?oiz118) (v := undef) ?hiz118 (by kernel_rfl) (by kernel_rfl) (by kernel_rfl) ?hQz118 ?hyz118 (by assumption) ?restz118
          case hiz118 => simp only [List.getElem?_toArray, List.getElem?_cons_zero, List.getElem?_cons_succ]; rfl
          case hQz118 => exact fun _ _ _ h => h
          case hyz118 => exact Or.inr ⟨by rfl, rfl⟩
          try simp only [Act.put, List.setIfInBounds_toArray, List.set_cons_zero, List.set_cons_succ]
          refine wpAnyH_take (i := 8) (oi := ?oiz119) (v := undef) ?hiz119 (by kernel_rfl) (by kernel_rfl) (by kernel_rfl) ?hQz119 ?hyz119 (by assumption) ?restz119
          case hiz119 => simp only [List.getElem?_toArray, List.getElem?_cons_zero, List.getElem?_cons_succ]; rfl
          case hQz119 => exact fun _ _ _ h => h
          case hyz119 => exact Or.inr ⟨by rfl, rfl⟩
          try simp only [Act.put, List.setIfInBounds_toArray, List.set_cons_zero, List.set_cons_succ]
          refine wpAnyH_take (i := 9) (oi := ?oiz120) (v := undef) ?hiz120 (by kernel_rfl) (by kernel_rfl) (by kernel_rfl) ?hQz120 ?hyz120 (by assumption) ?restz120
          case hiz120 => simp only [List.getElem?_toArray, List.getElem?_cons_zero, List.getElem?_cons_succ]; rfl
          case hQz120 => exact fun _ _ _ h => h
          case hyz120 => exact Or.inr ⟨by rfl, rfl⟩
          try simp only [Act.put, List.setIfInBounds_toArray, List.set_cons_zero, List.set_cons_succ]
          refine wpAnyH_take (i := 10) (oi := ?oiz121) (v := undef) ?hiz121 (by kernel_rfl) (by kernel_rfl) (by kernel_rfl) ?hQz121 ?hyz121 (by assumption) ?restz121
          case hiz121 => simp only [List.getElem?_toArray, List.getElem?_cons_zero, List.getElem?_cons_succ]; rfl
          case hQz121 => exact fun _ _ _ h => h
          case hyz121 => exact Or.inr ⟨by rfl, rfl⟩
          try simp only [Act.put, List.setIfInBounds_toArray, List.set_cons_zero, List.set_cons_succ]
          refine wpAnyH_take (i := 11) (oi := ?oiz122) (v := undef) ?hiz122 (by kernel_rfl) (by kernel_rfl) (by kernel_rfl) ?hQz122 ?hyz122 (by assumption) ?restz122
          case hiz122 => simp only [List.getElem?_toArray, List.getElem?_cons_zero, List.getElem?_cons_succ]; rfl
          case hQz122 => exact fun _ _ _ h => h
          case hyz122 => exact Or.inr ⟨by rfl, rfl⟩
          try simp only [Act.put, List.setIfInBounds_toArray, List.set_cons_zero, List.set_cons_succ]
          refine wpAnyH_take (i := 12) (oi := ?oiz123) (v := undef) ?hiz123 (by kernel_rfl) (by kernel_rfl) (by kernel_rfl) ?hQz123 ?hyz123 (by assumption) ?restz123
          case hiz123 => simp only [List.getElem?_toArray, List.getElem?_cons_zero, List.getElem?_cons_succ]; rfl
          case hQz123 => exact fun _ _ _ h => h
          case hyz123 => exact Or.inr ⟨by rfl, rfl⟩
          try simp only [Act.put, List.setIfInBounds_toArray, List.set_cons_zero, List.set_cons_succ]
          refine wpAnyH_take (i := 13) (oi := ?oiz124) (v := undef) ?hiz124 (by kernel_rfl) (by kernel_rfl) (by kernel_rfl) ?hQz124 ?hyz124 (by assumption) ?restz124
          case hiz124 => simp only [List.getElem?_toArray, List.getElem?_cons_zero, List.getElem?_cons_succ]; rfl
          case hQz124 => exact fun _ _ _ h => h
          case hyz124 => exact Or.inr ⟨by rfl, rfl⟩
          try simp only [Act.put, List.setIfInBounds_toArray, List.set_cons_zero, List.set_cons_succ]
          refine wpAnyH_take (i := 14) (oi := ?oiz125) (v := undef) ?hiz125 (by kernel_rfl) (by kernel_rfl) (by kernel_rfl) ?hQz125 ?hyz125 (by assumption) ?restz125
          case hiz125 => simp only [List.getElem?_toArray, List.getElem?_cons_zero, List.getElem?_cons_succ]; rfl
          case hQz125 => exact fun _ _ _ h => h
          case hyz125 => exact Or.inr ⟨by rfl, rfl⟩
          try simp only [Act.put, List.setIfInBounds_toArray, List.set_cons_zero, List.set_cons_succ]
          refine wpAnyH_take (i := 15) (oi := ?oiz126) (v := undef) ?hiz126 (by kernel_rfl) (by kernel_rfl) (by kernel_rfl) ?hQz126 ?hyz126 (by assumption) ?restz126
          case hiz126 => simp only [List.getElem?_toArray, List.getElem?_cons_zero, List.getElem?_cons_succ]; rfl
          case hQz126 => exact fun _ _ _ h => h
          case hyz126 => exact Or.inr ⟨by rfl, rfl⟩
          try simp only [Act.put, List.setIfInBounds_toArray, List.set_cons_zero, List.set_cons_succ]
          refine wpAnyH_take (i := 16) (oi := ?oiz127) (v := ?vz127) ?hiz127 (by kernel_rfl) (by kernel_rfl) (by kernel_rfl) ?hQz127 ?hyz127 (by assumption) ?restz127
          case hiz127 => simp only [List.getElem?_toArray, List.getElem?_cons_zero, List.getElem?_cons_succ]; rfl
          case hQz127 => exact fun _ _ _ h => h
          case hyz127 => exact Or.inl ⟨by rfl, by intro w hSw; (try dsimp only at hSw); go_simp; with_reducible rfl⟩
          try simp only [Act.put, List.setIfInBounds_toArray, List.set_cons_zero, List.set_cons_succ]
          refine wpAnyH_take (i := 17) (oi := ?oiz128) (v := ?vz128) ?hiz128 (by kernel_rfl) (by kernel_rfl) (by kernel_rfl) ?hQz128 ?hyz128 (by assumption) ?restz128
          case hiz128 => simp only [List.getElem?_toArray, List.getElem?_cons_zero, List.getElem?_cons_succ]; rfl
          case hQz128 => exact fun _ _ _ h => h
          case hyz128 => exact Or.inl ⟨by rfl, by intro w hSw; (try dsimp only at hSw); go_simp; with_reducible rfl⟩
          try simp only [Act.put, List.setIfInBounds_toArray, List.set_cons_zero, List.set_cons_succ]
          refine wpAnyH_done (by kernel_rfl) ?_ _
          have HX2 := Lib.hid (HXW.out.trans hHeld)
          clear hHeld
          go_wp2
          go_roundw
          case rel => exact ⟨1, by omega, rfl, by rw [HSN.out, HS.out, incC, HGk.out, HBk.out]; rfl, HX2.out⟩
          case measure => simp [intOf]; omega
        · obtain ⟨g2, o2, e, hs1, hc⟩ := Hrd.out.elem Hok.out j (by omega)
          injection e with e
          injection e with e1 e2
          subst e1
          subst e2
          have d1' : ∀ W, Ext (wr.alloc (.cells (tEnt.enc L[j + 1]).toArray 29)) W → W.cell? ⟨g, o + j * 2, none⟩ = some (.string L[j].1) := fun W hW => (HXW.out.trans hW).cell (hc 0 _ rfl)
          have D1 := Lib.hid d1'
          have HGj := Lib.hid (gE_lt (L := L) (i := j) (by omega))
          have W1 : IntKind.i64.wrap (j : Int) = j := IntWalk.i64_in _ (by omega)
          have hj0 : (0 : Int) ≤ (j : Int) := by omega
          have hj1 : (j : Int) < (L.length : Int) := by omega
          have hj2 : (0 : Int) ≤ (j : Int) + 1 := by omega
          have hj3 : (0 : Int) < (j : Int) + 1 := by omega
          have hj4 : (j : Int) + 1 < (L.length : Int) := by omega
          clear hc d1'
          cases hl : ltB L[j].1 L[j + 1].1 with
          | true =>
            have hl2 : Op.bytesLess L[j + 1].1.toList L[j].1.toList = false := by rw [ltB_eq]; exact ltB_asymm hl
            have hl3 : (L[j + 1].1.toList == L[j].1.toList) = false := by
              rw [beq_eq_false_iff_ne]
              exact fun e => ltB_ne hl (toList_inj e).symm
            have HLT := Lib.hid hl
            clear hl
            go_wp2_with (first
              | (refine wpl_load ⟨g, o + (j + 1) * 2, none⟩ (tEnt.enc L[j + 1]) aggEntryI rfl _ rfl rfl (fun j u hu => by rw [Addr.add_lit]; exact HD.out j u hu) ?_)
              | (refine wpl_storeNewB aggEntryI HST.out rfl rfl _ _ rfl rfl rfl rfl ?_))
            generalize World.alloc wr (.cells (tEnt.enc L[j + 1]).toArray 29) = w2 at HB2 E2 d0 HXW D1 ⊢
            have R2 := Ext.refl w2
            have d1 := D1.out
            refine wp_region_held_drew (S := fun W => Ext w2 W) (by kernel_rfl) (Ext.refl _).drew (fun hHeld => ?_)
            refine wpAnyH_take (i := 0) (oi := ?oiz129) (v := (.agg (tEnt.enc L[j + 1]).toArray)) ?hiz129 (by kernel_rfl) (by kernel_rfl) (by kernel_rfl) ?hQz129 ?hyz129 (by assumption) ?restz129
            case hiz129 => simp only [List.getElem?_toArray, List.getElem?_cons_zero, List.getElem?_cons_succ]; rfl
            case hQz129 => exact fun _ _ _ h => h
            case hyz129 => refine yields_loadB HB2.out aggEntryI rfl ?_ _ rfl rfl; rfl
            try simp only [Act.put, List.setIfInBounds_toArray, List.set_cons_zero, List.set_cons_succ]
            refine wpAnyH_ready (rs := [1]) (by kernel_rfl) (by simp) (AllReadyH.cons (o := ?oy1301) ?hy1301 (fun K hK => ?sy1301) AllReadyH.nil)
            case hy1301 => simp only [List.getElem?_toArray, List.getElem?_cons_zero, List.getElem?_cons_succ]; rfl
            go_simp
            refine (hen _).mono ?_
            rintro e w3 ⟨rfl, hx⟩
            have hH2 := hHeld.trans hx
            refine hK.out _ _ hH2 (fun _ => ?_)
            clear hHeld hK K
            have hHeld := hH2
            clear hH2
            try simp only [Act.put, List.setIfInBounds_toArray, List.set_cons_zero, List.set_cons_succ]
            refine wpAnyH_take (i := 2) (oi := ?oiz131) (v := ?vz131) ?hiz131 (by kernel_rfl) (by kernel_rfl) (by kernel_rfl) ?hQz131 ?hyz131 (by assumption) ?restz131
            case hiz131 => simp only [List.getElem?_toArray, List.getElem?_cons_zero, List.getElem?_cons_succ]; rfl
            case hQz131 => exact fun _ _ _ h => h
            case hyz131 => exact Or.inl ⟨by rfl, by intro w hSw; (try dsimp only at hSw); go_simp; with_reducible rfl⟩
            try simp only [Act.put, List.setIfInBounds_toArray, List.set_cons_zero, List.set_cons_succ]
            refine wpAnyH_take (i := 3) (oi := ?oiz132) (v := ?vz132) ?hiz132 (by kernel_rfl) (by kernel_rfl) (by kernel_rfl) ?hQz132 ?hyz132 (by assumption) ?restz132
            case hiz132 => simp only [List.getElem?_toArray, List.getElem?_cons_zero, List.getElem?_cons_succ]; rfl
            case hQz132 => exact fun _ _ _ h => h
            case hyz132 => exact Or.inl ⟨by rfl, by intro w hSw; (try dsimp only at hSw); go_simp; with_reducible rfl⟩
            try simp only [Act.put, List.setIfInBounds_toArray, List.set_cons_zero, List.set_cons_succ]
            refine wpAnyH_take (i := 4) (oi := ?oiz133) (v := ?vz133) ?hiz133 (by kernel_rfl) (by kernel_rfl) (by kernel_rfl) ?hQz133 ?hyz133 (by assumption) ?restz133
            case hiz133 => simp only [List.getElem?_toArray, List.getElem?_cons_zero, List.getElem?_cons_succ]; rfl
            case hQz133 => exact fun _ _ _ h => h
            case hyz133 => exact Or.inl ⟨by rfl, by intro w hSw; (try dsimp only at hSw); go_simp; with_reducible rfl⟩
            try simp only [Act.put, List.setIfInBounds_toArray, List.set_cons_zero, List.set_cons_succ]
            refine wpAnyH_take (i := 5) (oi := ?oiz134) (v := ?vz134) ?hiz134 (by kernel_rfl) (by kernel_rfl) (by kernel_rfl) ?hQz134 ?hyz134 (by assumption) ?restz134
            case hiz134 => simp only [List.getElem?_toArray, List.getElem?_cons_zero, List.getElem?_cons_succ]; rfl
            case hQz134 => exact fun _ _ _ h => h
            case hyz134 => exact Or.inl ⟨by rfl, by intro w hSw; (try dsimp only at hSw); go_simp; with_reducible rfl⟩
            try simp only [Act.put, List.setIfInBounds_toArray, List.set_cons_zero, List.set_cons_succ]
            refine wpAnyH_take (i := 6) (oi := ?oiz135) (v := ?vz135) ?hiz135 (by kernel_rfl) (by kernel_rfl) (by kernel_rfl) ?hQz135 ?hyz135 (by assumption) ?restz135
            case hiz135 => simp only [List.getElem?_toArray, List.getElem?_cons_zero, List.getElem?_cons_succ]; rfl
            case hQz135 => exact fun _ _ _ h => h
            case hyz135 => exact Or.inl ⟨by rfl, by intro w hSw; (try dsimp only at hSw); go_simp; with_reducible rfl⟩
            try simp only [Act.put, List.setIfInBounds_toArray, List.set_cons_zero, List.set_cons_succ]
            refine wpAnyH_take (i := 7) (oi := ?oiz136) (v := ?vz136) ?hiz136 (by kernel_rfl) (by kernel_rfl) (by kernel_rfl) ?hQz136 ?hyz136 (by assumption) ?restz136
            case hiz136 => simp only [List.getElem?_toArray, List.getElem?_cons_zero, List.getElem?_cons_succ]; rfl
            case hQz136 => exact fun _ _ _ h => h
            case hyz136 => exact Or.inl ⟨by rfl, by intro w hSw; (try dsimp only at hSw); go_simp; with_reducible rfl⟩
            try simp only [Act.put, List.setIfInBounds_toArray, List.set_cons_zero, List.set_cons_succ]
            refine wpAnyH_take (i := 8) (oi := ?oiz137) (v := ?vz137) ?hiz137 (by kernel_rfl) (by kernel_rfl) (by kernel_rfl) ?hQz137 ?hyz137 (by assumption) ?restz137
            case hiz137 => simp only [List.getElem?_toArray, List.getElem?_cons_zero, List.getElem?_cons_succ]; rfl
            case hQz137 => exact fun _ _ _ h => h
            case hyz137 => exact Or.inl ⟨by rfl, by intro w hSw; (try dsimp only at hSw); go_simp; with_reducible rfl⟩
            try simp only [Act.put, List.setIfInBounds_toArray, List.set_cons_zero, List.set_cons_succ]
            refine wpAnyH_take (i := 9) (oi := ?oiz138) (v := ?vz138) ?hiz138 (by kernel_rfl) (by kernel_rfl) (by kernel_rfl) ?hQz138 ?hyz138 (by assumption) ?restz138
            case hiz138 => simp only [List.getElem?_toArray, List.getElem?_cons_zero, List.getElem?_cons_succ]; rfl
            case hQz138 => exact fun _ _ _ h => h
            case hyz138 => exact Or.inl ⟨by rfl, by intro w hSw; (try dsimp only at hSw); go_simp; with_reducible rfl⟩
            try simp only [Act.put, List.setIfInBounds_toArray, List.set_cons_zero, List.set_cons_succ]
            refine wpAnyH_take (i := 10) (oi := ?oiz139) (v := ?vz139) ?hiz139 (by kernel_rfl) (by kernel_rfl) (by kernel_rfl) ?hQz139 ?hyz139 (by assumption) ?restz139
            case hiz139 => simp only [List.getElem?_toArray, List.getElem?_cons_zero, List.getElem?_cons_succ]; rfl
            case hQz139 => exact fun _ _ _ h => h
            case hyz139 => exact Or.inl ⟨by rfl, by intro w hSw; (try dsimp only at hSw); go_simp; with_reducible rfl⟩
            try simp only [Act.put, List.setIfInBounds_toArray, List.set_cons_zero, List.set_cons_succ]
            refine wpAnyH_take (i := 11) (oi := ?oiz140) (v := ?vz140) ?hiz140 (by kernel_rfl) (by kernel_rfl) (by kernel_rfl) ?hQz140 ?hyz140 (by assumption) ?restz140
            case hiz140 => simp only [List.getElem?_toArray, List.getElem?_cons_zero, List.getElem?_cons_succ]; rfl
            case hQz140 => exact fun _ _ _ h => h
            case hyz140 => exact Or.inl ⟨by rfl, by intro w hSw; (try dsimp only at hSw); go_simp; with_reducible rfl⟩
            try simp only [Act.put, List.setIfInBounds_toArray, List.set_cons_zero, List.set_cons_succ]
            refine wpAnyH_take (i := 12) (oi := ?oiz141) (v := ?vz141) ?hiz141 (by kernel_rfl) (by kernel_rfl) (by kernel_rfl) ?hQz141 ?hyz141 (by assumption) ?restz141
            case hiz141 => simp only [List.getElem?_toArray, List.getElem?_cons_zero, List.getElem?_cons_succ]; rfl
            case hQz141 => exact fun _ _ _ h => h
            case hyz141 => exact Or.inl ⟨by rfl, by intro w hSw; (try dsimp only at hSw); go_simp; with_reducible rfl⟩
            try simp only [Act.put, List.setIfInBounds_toArray, List.set_cons_zero, List.set_cons_succ]
            refine wpAnyH_take (i := 13) (oi := ?oiz142) (v := ?vz142) ?hiz142 (by kernel_rfl) (by kernel_rfl) (by kernel_rfl) ?hQz142 ?hyz142 (by assumption) ?restz142
            case hiz142 => simp only [List.getElem?_toArray, List.getElem?_cons_zero, List.getElem?_cons_succ]; rfl
            case hQz142 => exact fun _ _ _ h => h
            case hyz142 => exact Or.inl ⟨by rfl, by intro w hSw; (try dsimp only at hSw); go_simp; with_reducible rfl⟩
            try simp only [Act.put, List.setIfInBounds_toArray, List.set_cons_zero, List.set_cons_succ]
            refine wpAnyH_take (i := 14) (oi := ?oiz143) (v := ?vz143) ?hiz143 (by kernel_rfl) (by kernel_rfl) (by kernel_rfl) ?hQz143 ?hyz143 (by assumption) ?restz143
            case hiz143 => simp only [List.getElem?_toArray, List.getElem?_cons_zero, List.getElem?_cons_succ]; rfl
            case hQz143 => exact fun _ _ _ h => h
            case hyz143 => exact Or.inl ⟨by rfl, by intro w hSw; (try dsimp only at hSw); go_simp; with_reducible rfl⟩
            try simp only [Act.put, List.setIfInBounds_toArray, List.set_cons_zero, List.set_cons_succ]
            refine wpAnyH_take (i := 15) (oi := ?oiz144) (v := ?vz144) ?hiz144 (by kernel_rfl) (by kernel_rfl) (by kernel_rfl) ?hQz144 ?hyz144 (by assumption) ?restz144
            case hiz144 => simp only [List.getElem?_toArray, List.getElem?_cons_zero, List.getElem?_cons_succ]; rfl
            case hQz144 => exact fun _ _ _ h => h
            case hyz144 => exact Or.inl ⟨by rfl, by intro w hSw; (try dsimp only at hSw); go_simp; with_reducible rfl⟩
            try simp only [Act.put, List.setIfInBounds_toArray, List.set_cons_zero, List.set_cons_succ]
            refine wpAnyH_take (i := 16) (oi := ?oiz145) (v := ?vz145) ?hiz145 (by kernel_rfl) (by kernel_rfl) (by kernel_rfl) ?hQz145 ?hyz145 (by assumption) ?restz145
            case hiz145 => simp only [List.getElem?_toArray, List.getElem?_cons_zero, List.getElem?_cons_succ]; rfl
            case hQz145 => exact fun _ _ _ h => h
            case hyz145 => exact Or.inl ⟨by rfl, by intro w hSw; (try dsimp only at hSw); go_simp; with_reducible rfl⟩
            try simp only [Act.put, List.setIfInBounds_toArray, List.set_cons_zero, List.set_cons_succ]
            refine wpAnyH_take (i := 17) (oi := ?oiz146) (v := ?vz146) ?hiz146 (by kernel_rfl) (by kernel_rfl) (by kernel_rfl) ?hQz146 ?hyz146 (by assumption) ?restz146
            case hiz146 => simp only [List.getElem?_toArray, List.getElem?_cons_zero, List.getElem?_cons_succ]; rfl
            case hQz146 => exact fun _ _ _ h => h
            case hyz146 => exact Or.inl ⟨by rfl, by intro w hSw; (try dsimp only at hSw); go_simp; with_reducible rfl⟩
            try simp only [Act.put, List.setIfInBounds_toArray, List.set_cons_zero, List.set_cons_succ]
            refine wpAnyH_done (by kernel_rfl) ?_ _
            have HX2 := Lib.hid (HXW.out.trans hHeld)
            clear hHeld
            go_wp2
            go_roundw
            case rel => exact ⟨j + 2, by omega, by go_num, by rw [HSN.out, HS.out, incC, HGk.out, HBk.out, show j + 1 - 1 = j by omega, HGj.out, HLT.out]; rfl, HX2.out⟩
            case measure => simp [intOf]; omega
          | false =>
            have HB := Lib.hid (incs_bad L (j + 1) L.length hlt (by rw [incC, HGk.out, HBk.out, show j + 1 - 1 = j by omega, HGj.out, hl]; rfl))
            have hl2 : (Op.bytesLess L[j + 1].1.toList L[j].1.toList || (L[j + 1].1.toList == L[j].1.toList)) = true := by
              rw [ltB_eq]
              cases hm : ltB L[j + 1].1 L[j].1 with
              | true => rfl
              | false => rw [ltB_total hl hm]; simp
            clear hl
            go_wp2_with (first
              | (refine wpl_load ⟨g, o + (j + 1) * 2, none⟩ (tEnt.enc L[j + 1]) aggEntryI rfl _ rfl rfl (fun j u hu => by rw [Addr.add_lit]; exact HD.out j u hu) ?_)
              | (refine wpl_storeNewB aggEntryI HST.out rfl rfl _ _ rfl rfl rfl rfl ?_))
            generalize World.alloc wr (.cells (tEnt.enc L[j + 1]).toArray 29) = w2 at HB2 E2 d0 HXW D1 ⊢
            have R2 := Ext.refl w2
            have d1 := D1.out
            refine wp_region_held_drew (S := fun W => Ext w2 W) (by kernel_rfl) (Ext.refl _).drew (fun hHeld => ?_)
            refine wpAnyH_take (i := 0) (oi := ?oiz147) (v := (.agg (tEnt.enc L[j + 1]).toArray)) ?hiz147 (by kernel_rfl) (by kernel_rfl) (by kernel_rfl) ?hQz147 ?hyz147 (by assumption) ?restz147
            case hiz147 => simp only [List.getElem?_toArray, List.getElem?_cons_zero, List.getElem?_cons_succ]; rfl
            case hQz147 => exact fun _ _ _ h => h
            case hyz147 => refine yields_loadB HB2.out aggEntryI rfl ?_ _ rfl rfl; rfl
            try simp only [Act.put, List.setIfInBounds_toArray, List.set_cons_zero, List.set_cons_succ]
            refine wpAnyH_ready (rs := [1]) (by kernel_rfl) (by simp) (AllReadyH.cons (o := ?oy1481) ?hy1481 (fun K hK => ?sy1481) AllReadyH.nil)
            case hy1481 => simp only [List.getElem?_toArray, List.getElem?_cons_zero, List.getElem?_cons_succ]; rfl
            go_simp
            refine (hen _).mono ?_
            rintro e w3 ⟨rfl, hx⟩
            have hH2 := hHeld.trans hx
            refine hK.out _ _ hH2 (fun _ => ?_)
            clear hHeld hK K
            have hHeld := hH2
            clear hH2
            try simp only [Act.put, List.setIfInBounds_toArray, List.set_cons_zero, List.set_cons_succ]
            refine wpAnyH_take (i := 2) (oi := ?oiz149) (v := ?vz149) ?hiz149 (by kernel_rfl) (by kernel_rfl) (by kernel_rfl) ?hQz149 ?hyz149 (by assumption) ?restz149
            case hiz149 => simp only [List.getElem?_toArray, List.getElem?_cons_zero, List.getElem?_cons_succ]; rfl
            case hQz149 => exact fun _ _ _ h => h
            case hyz149 => exact Or.inl ⟨by rfl, by intro w hSw; (try dsimp only at hSw); go_simp; with_reducible rfl⟩
            try simp only [Act.put, List.setIfInBounds_toArray, List.set_cons_zero, List.set_cons_succ]
            refine wpAnyH_take (i := 3) (oi := ?oiz150) (v := ?vz150) ?hiz150 (by kernel_rfl) (by kernel_rfl) (by kernel_rfl) ?hQz150 ?hyz150 (by assumption) ?restz150
            case hiz150 => simp only [List.getElem?_toArray, List.getElem?_cons_zero, List.getElem?_cons_succ]; rfl
            case hQz150 => exact fun _ _ _ h => h
            case hyz150 => exact Or.inl ⟨by rfl, by intro w hSw; (try dsimp only at hSw); go_simp; with_reducible rfl⟩
            try simp only [Act.put, List.setIfInBounds_toArray, List.set_cons_zero, List.set_cons_succ]
            refine wpAnyH_take (i := 4) (oi := ?oiz151) (v := ?vz151) ?hiz151 (by kernel_rfl) (by kernel_rfl) (by kernel_rfl) ?hQz151 ?hyz151 (by assumption) ?restz151
            case hiz151 => simp only [List.getElem?_toArray, List.getElem?_cons_zero, List.getElem?_cons_succ]; rfl
            case hQz151 => exact fun _ _ _ h => h
            case hyz151 => exact Or.inl ⟨by rfl, by intro w hSw; (try dsimp only at hSw); go_simp; with_reducible rfl⟩
            try simp only [Act.put, List.setIfInBounds_toArray, List.set_cons_zero, List.set_cons_succ]
            refine wpAnyH_take (i := 5) (oi := ?oiz152) (v := ?vz152) ?hiz152 (by kernel_rfl) (by kernel_rfl) (by kernel_rfl) ?hQz152 ?hyz152 (by assumption) ?restz152
            case hiz152 => simp only [List.getElem?_toArray, List.getElem?_cons_zero, List.getElem?_cons_succ]; rfl
            case hQz152 => exact fun _ _ _ h => h
            case hyz152 => exact Or.inl ⟨by rfl, by intro w hSw; (try dsimp only at hSw); go_simp; with_reducible rfl⟩
            try simp only [Act.put, List.setIfInBounds_toArray, List.set_cons_zero, List.set_cons_succ]
            refine wpAnyH_take (i := 6) (oi := ?oiz153) (v := ?vz153) ?hiz153 (by kernel_rfl) (by kernel_rfl) (by kernel_rfl) ?hQz153 ?hyz153 (by assumption) ?restz153
            case hiz153 => simp only [List.getElem?_toArray, List.getElem?_cons_zero, List.getElem?_cons_succ]; rfl
            case hQz153 => exact fun _ _ _ h => h
            case hyz153 => exact Or.inl ⟨by rfl, by intro w hSw; (try dsimp only at hSw); go_simp; with_reducible rfl⟩
            try simp only [Act.put, List.setIfInBounds_toArray, List.set_cons_zero, List.set_cons_succ]
            refine wpAnyH_take (i := 7) (oi := ?oiz154) (v := ?vz154) ?hiz154 (by kernel_rfl) (by kernel_rfl) (by kernel_rfl) ?hQz154 ?hyz154 (by assumption) ?restz154
            case hiz154 => simp only [List.getElem?_toArray, List.getElem?_cons_zero, List.getElem?_cons_succ]; rfl
            case hQz154 => exact fun _ _ _ h => h
            case hyz154 => exact Or.inl ⟨by rfl, by intro w hSw; (try dsimp only at hSw); go_simp; with_reducible rfl⟩
            try simp only [Act.put, List.setIfInBounds_toArray, List.set_cons_zero, List.set_cons_succ]
            refine wpAnyH_take (i := 8) (oi := ?oiz155) (v := ?vz155) ?hiz155 (by kernel_rfl) (by kernel_rfl) (by kernel_rfl) ?hQz155 ?hyz155 (by assumption) ?restz155
            case hiz155 => simp only [List.getElem?_toArray, List.getElem?_cons_zero, List.getElem?_cons_succ]; rfl
            case hQz155 => exact fun _ _ _ h => h
            case hyz155 => exact Or.inl ⟨by rfl, by intro w hSw; (try dsimp only at hSw); go_simp; with_reducible rfl⟩
            try simp only [Act.put, List.setIfInBounds_toArray, List.set_cons_zero, List.set_cons_succ]
            refine wpAnyH_take (i := 9) (oi := ?oiz156) (v := ?vz156) ?hiz156 (by kernel_rfl) (by kernel_rfl) (by kernel_rfl) ?hQz156 ?hyz156 (by assumption) ?restz156
            case hiz156 => simp only [List.getElem?_toArray, List.getElem?_cons_zero, List.getElem?_cons_succ]; rfl
            case hQz156 => exact fun _ _ _ h => h
            case hyz156 => exact Or.inl ⟨by rfl, by intro w hSw; (try dsimp only at hSw); go_simp; with_reducible rfl⟩
            try simp only [Act.put, List.setIfInBounds_toArray, List.set_cons_zero, List.set_cons_succ]
            refine wpAnyH_take (i := 10) (oi := ?oiz157) (v := ?vz157) ?hiz157 (by kernel_rfl) (by kernel_rfl) (by kernel_rfl) ?hQz157 ?hyz157 (by assumption) ?restz157
            case hiz157 => simp only [List.getElem?_toArray, List.getElem?_cons_zero, List.getElem?_cons_succ]; rfl
            case hQz157 => exact fun _ _ _ h => h
            case hyz157 => exact Or.inl ⟨by rfl, by intro w hSw; (try dsimp only at hSw); go_simp; with_reducible rfl⟩
            try simp only [Act.put, List.setIfInBounds_toArray, List.set_cons_zero, List.set_cons_succ]
            refine wpAnyH_take (i := 11) (oi := ?oiz158) (v := ?vz158) ?hiz158 (by kernel_rfl) (by kernel_rfl) (by kernel_rfl) ?hQz158 ?hyz158 (by assumption) ?restz158
            case hiz158 => simp only [List.getElem?_toArray, List.getElem?_cons_zero, List.getElem?_cons_succ]; rfl
            case hQz158 => exact fun _ _ _ h => h
            case hyz158 => exact Or.inl ⟨by rfl, by intro w hSw; (try dsimp only at hSw); go_simp; with_reducible rfl⟩
            try simp only [Act.put, List.setIfInBounds_toArray, List.set_cons_zero, List.set_cons_succ]
            refine wpAnyH_take (i := 12) (oi := ?oiz159) (v := ?vz159) ?hiz159 (by kernel_rfl) (by kernel_rfl) (by kernel_rfl) ?hQz159 ?hyz159 (by assumption) ?restz159
            case hiz159 => simp only [List.getElem?_toArray, List.getElem?_cons_zero, List.getElem?_cons_succ]; rfl
            case hQz159 => exact fun _ _ _ h => h
            case hyz159 => exact Or.inl ⟨by rfl, by intro w hSw; (try dsimp only at hSw); go_simp; with_reducible rfl⟩
            try simp only [Act.put, List.setIfInBounds_toArray, List.set_cons_zero, List.set_cons_succ]
            refine wpAnyH_take (i := 13) (oi := ?oiz160) (v := ?vz160) ?hiz160 (by kernel_rfl) (by kernel_rfl) (by kernel_rfl) ?hQz160 ?hyz160 (by assumption) ?restz160
            case hiz160 => simp only [List.getElem?_toArray, List.getElem?_cons_zero, List.getElem?_cons_succ]; rfl
            case hQz160 => exact fun _ _ _ h => h
            case hyz160 => exact Or.inl ⟨by rfl, by intro w hSw; (try dsimp only at hSw); go_simp; with_reducible rfl⟩
            try simp only [Act.put, List.setIfInBounds_toArray, List.set_cons_zero, List.set_cons_succ]
            refine wpAnyH_take (i := 14) (oi := ?oiz161) (v := ?vz161) ?hiz161 (by kernel_rfl) (by kernel_rfl) (by kernel_rfl) ?hQz161 ?hyz161 (by assumption) ?restz161
            case hiz161 => simp only [List.getElem?_toArray, List.getElem?_cons_zero, List.getElem?_cons_succ]; rfl
            case hQz161 => exact fun _ _ _ h => h
            case hyz161 => exact Or.inl ⟨by rfl, by intro w hSw; (try dsimp only at hSw); go_simp; with_reducible rfl⟩
            try simp only [Act.put, List.setIfInBounds_toArray, List.set_cons_zero, List.set_cons_succ]
            refine wpAnyH_take (i := 15) (oi := ?oiz162) (v := ?vz162) ?hiz162 (by kernel_rfl) (by kernel_rfl) (by kernel_rfl) ?hQz162 ?hyz162 (by assumption) ?restz162
            case hiz162 => simp only [List.getElem?_toArray, List.getElem?_cons_zero, List.getElem?_cons_succ]; rfl
            case hQz162 => exact fun _ _ _ h => h
            case hyz162 => exact Or.inl ⟨by rfl, by intro w hSw; (try dsimp only at hSw); go_simp; with_reducible rfl⟩
            try simp only [Act.put, List.setIfInBounds_toArray, List.set_cons_zero, List.set_cons_succ]
            refine wpAnyH_take (i := 16) (oi := ?oiz163) (v := ?vz163) ?hiz163 (by kernel_rfl) (by kernel_rfl) (by kernel_rfl) ?hQz163 ?hyz163 (by assumption) ?restz163
            case hiz163 => simp only [List.getElem?_toArray, List.getElem?_cons_zero, List.getElem?_cons_succ]; rfl
            case hQz163 => exact fun _ _ _ h => h
            case hyz163 => exact Or.inl ⟨by rfl, by intro w hSw; (try dsimp only at hSw); go_simp; with_reducible rfl⟩
            try simp only [Act.put, List.setIfInBounds_toArray, List.set_cons_zero, List.set_cons_succ]
            refine wpAnyH_take (i := 17) (oi := ?oiz164) (v := ?vz164) ?hiz164 (by kernel_rfl) (by kernel_rfl) (by kernel_rfl) ?hQz164 ?hyz164 (by assumption) ?restz164
            case hiz164 => simp only [List.getElem?_toArray, List.getElem?_cons_zero, List.getElem?_cons_succ]; rfl
            case hQz164 => exact fun _ _ _ h => h
            case hyz164 => exact Or.inl ⟨by rfl, by intro w hSw; (try dsimp only at hSw); go_simp; with_reducible rfl⟩
            try simp only [Act.put, List.setIfInBounds_toArray, List.set_cons_zero, List.set_cons_succ]
            refine wpAnyH_done (by kernel_rfl) ?_ _
            have HX2 := Lib.hid (HXW.out.trans hHeld)
            clear hHeld
            go_wp2
            go_ret
            exact ⟨by rw [HE.out, HB.out]; rfl, HX2.out⟩
    · obtain rfl : k = L.length := by omega
      go_wp2
      go_ret
      exact ⟨by rw [HE.out, HS.out, Bool.true_and]; exact ret_bool (by simp; omega), HX.out⟩

end Go.Proofs.Ytmndkbheehcoaaa
/- Mixing of blocks into a state, in plain words. No condition. -/
namespace Go.Proofs.Ytmndkbheehcoaaa
open Go.RowKit
set_option linter.unusedVariables false
set_option linter.unusedSimpArgs false

/-- words of 32 bits -/
def U32 (xs : List Int) : Prop := ∀ x ∈ xs, 0 ≤ x ∧ x ≤ 4294967295
theorem U32.get {xs : List Int} (h : U32 xs) (i : Nat) : 0 ≤ gI xs i ∧ gI xs i ≤ 4294967295 := by
  unfold gI
  by_cases hi : i < xs.length
  · have := h (xs[i]) (List.getElem_mem hi); simpa [List.getD_eq_getElem?_getD, List.getElem?_eq_getElem hi] using this
  · simp [List.getD_eq_getElem?_getD, List.getElem?_eq_none (by omega : xs.length ≤ i)]
theorem U32.set {xs : List Int} (h : U32 xs) (i : Nat) {x : Int} (hx : 0 ≤ x ∧ x ≤ 4294967295) : U32 (xs.set i x) := by
  intro y hy
  rcases List.mem_or_eq_of_mem_set hy with hy | rfl
  · exact h y hy
  · exact hx
theorem gI_set (xs : List Int) (i j : Nat) (x : Int) (hi : i < xs.length) : gI (xs.set i x) j = if i = j then x else gI xs j := by
  unfold gI
  simp only [List.getD_eq_getElem?_getD, List.getElem?_set, hi, if_true]
  split <;> simp
theorem set_same (xs : List Int) (i : Nat) (h : i < xs.length) : xs.set i (gI xs i) = xs := by
  rw [gI_lt h]; exact List.set_getElem_self h
theorem mod32 (x : Int) : 0 ≤ x % 4294967296 ∧ x % 4294967296 ≤ 4294967295 := by omega
theorem bits32 (op : BinOp) (x y : Int) : 0 ≤ bits op .u32 x y ∧ bits op .u32 x y ≤ 4294967295 := by
  have h : ∀ z, 0 ≤ IntKind.u32.wrap z ∧ IntKind.u32.wrap z ≤ 4294967295 := fun z => by rw [IntKind.wrap_u32]; omega
  unfold bits
  exact h _
@[irreducible] def turn7 (x : Int) : Int := bits .or .u32 (x * 128 % 4294967296) (x / 33554432)
@[irreducible] def turn13 (x : Int) : Int := bits .or .u32 (x * 8192 % 4294967296) (x / 524288)
/-- word i of a block -/
def word (b : List Int) (i : Nat) : Int := littleN ((b.drop (4 * i)).take 4)
@[irreducible] def words (b : List Int) : List Int := (List.range 8).map (word b)
/-- one step of the mixing -/
@[irreducible] def mixStep (m : List Int) (r i : Nat) (s : List Int) : List Int :=
  s.set i ((bits .xor .u32 (turn7 ((gI s i + gI m ((i + 3 * r) % 8) + 2654435769 * (8 * (r : Int) + (i : Int) + 1)) % 4294967296)) (gI s ((i + 1) % 8)) + turn13 (gI s ((i + 5) % 8))) % 4294967296)
def mixInR (m : List Int) (r : Nat) : Nat → List Int → List Int
  | 0, s => s
  | i + 1, s => mixStep m r i (mixInR m r i s)
@[irreducible] def mixIn (m : List Int) (r i : Nat) (s : List Int) : List Int := mixInR m r i s
def mixOutR (m : List Int) : Nat → List Int → List Int
  | 0, s => s
  | r + 1, s => mixIn m r 8 (mixOutR m r s)
@[irreducible] def mixOut (m : List Int) (r : Nat) (s : List Int) : List Int := mixOutR m r s
def xorInR (st : List Int) : Nat → List Int → List Int
  | 0, s => s
  | i + 1, s => (xorInR st i s).set i (bits .xor .u32 (gI (xorInR st i s) i) (gI st i))
@[irreducible] def xorIn (st : List Int) (i : Nat) (s : List Int) : List Int := xorInR st i s
theorem mixIn_zero (m : List Int) (r : Nat) (s : List Int) : mixIn m r 0 s = s := by unfold mixIn; rfl
theorem mixIn_succ (m : List Int) (r i : Nat) (s : List Int) : mixIn m r (i + 1) s = mixStep m r i (mixIn m r i s) := by unfold mixIn; rfl
theorem mixOut_zero (m s : List Int) : mixOut m 0 s = s := by unfold mixOut; rfl
theorem mixOut_succ (m : List Int) (r : Nat) (s : List Int) : mixOut m (r + 1) s = mixIn m r 8 (mixOut m r s) := by unfold mixOut; rfl
theorem xorIn_zero (st s : List Int) : xorIn st 0 s = s := by unfold xorIn; rfl
theorem xorIn_succ (st : List Int) (i : Nat) (s : List Int) : xorIn st (i + 1) s = (xorIn st i s).set i (bits .xor .u32 (gI (xorIn st i s) i) (gI st i)) := by unfold xorIn; rfl
/-- a block mixed into a state -/
@[irreducible] def mixL (st b : List Int) : List Int := xorIn st 8 (mixOut (words b) 12 st)
theorem words_eq (b : List Int) : words b = (List.range 8).map (word b) := by rw [words]
theorem words_length (b : List Int) : (words b).length = 8 := by simp [words]
theorem mixStep_length (m : List Int) (r i : Nat) (s : List Int) : (mixStep m r i s).length = s.length := by simp [mixStep]
theorem mixIn_length (m : List Int) (r i : Nat) (s : List Int) : (mixIn m r i s).length = s.length := by
  induction i with
  | zero => rw [mixIn_zero]
  | succ i ih => simp [mixIn_succ, mixStep_length, ih]
theorem mixOut_length (m : List Int) (r : Nat) (s : List Int) : (mixOut m r s).length = s.length := by
  induction r with
  | zero => rw [mixOut_zero]
  | succ r ih => rw [mixOut_succ, mixIn_length, ih]
theorem xorIn_length (st : List Int) (i : Nat) (s : List Int) : (xorIn st i s).length = s.length := by
  induction i with
  | zero => rw [xorIn_zero]
  | succ i ih => simp [xorIn_succ, ih]
theorem mixIn_ok (m : List Int) (r i : Nat) (s : List Int) (h : U32 s) : U32 (mixIn m r i s) := by
  induction i with
  | zero => rwa [mixIn_zero]
  | succ i ih => rw [mixIn_succ, mixStep]; exact ih.set _ (mod32 _)
theorem mixOut_ok (m : List Int) (r : Nat) (s : List Int) (h : U32 s) : U32 (mixOut m r s) := by
  induction r with
  | zero => rwa [mixOut_zero]
  | succ r ih => rw [mixOut_succ]; exact mixIn_ok _ _ _ _ ih
theorem xorIn_ok (st : List Int) (i : Nat) (s : List Int) (h : U32 s) : U32 (xorIn st i s) := by
  induction i with
  | zero => rwa [xorIn_zero]
  | succ i ih => rw [xorIn_succ]; exact ih.set _ (bits32 _ _ _)
theorem mixL_length (st b : List Int) (h : st.length = 8) : (mixL st b).length = 8 := by simp [mixL, xorIn_length, mixOut_length, h]
theorem mixL_ok (st b : List Int) (h : U32 st) : U32 (mixL st b) := by rw [mixL]; exact xorIn_ok _ _ _ (mixOut_ok _ _ _ h)
/-- the state of a tag -/
@[irreducible] def startL (tag : Int) : List Int := (List.range 8).map fun (i : Nat) => 16777619 * ((i : Int) + 1) + tag
theorem startL_length (tag : Int) : (startL tag).length = 8 := by simp [startL]
theorem startL_ok (tag : Int) (h : 0 ≤ tag ∧ tag ≤ 255) : U32 (startL tag) := by
  intro x hx
  rw [startL] at hx
  obtain ⟨i, hi, rfl⟩ := List.mem_map.1 hx
  have := List.mem_range.1 hi
  omega
theorem mapRange_set (f : Nat → Int) (n i : Nat) (h : i < n) : ((List.range i).map f ++ List.replicate (n - i) 0).set i (f i) = (List.range (i + 1)).map f ++ List.replicate (n - (i + 1)) 0 := by
  obtain ⟨k, rfl⟩ : ∃ k, n = i + 1 + k := ⟨n - (i + 1), by omega⟩
  rw [show i + 1 + k - i = k + 1 by omega, show i + 1 + k - (i + 1) = k by omega, List.range_succ, List.map_append, List.replicate_succ]
  rw [List.set_append_right _ _ (by simp)]
  simp

end Go.Proofs.Ytmndkbheehcoaaa
/- The key of bytes, in plain words. No condition. -/
namespace Go.Proofs.Ytmndkbheehcoaaa
open Go.RowKit
set_option linter.unusedVariables false
set_option linter.unusedSimpArgs false

theorem fill_step (xs : List Int) (n k : Nat) (hk : k < n) (hl : xs.length = n) : (xs.take k ++ List.replicate (n - k) 0).set k (gI xs k) = xs.take (k + 1) ++ List.replicate (n - (k + 1)) 0 := by
  obtain ⟨m, hm⟩ : ∃ m, n = k + 1 + m := ⟨n - (k + 1), by omega⟩
  have h1 : (xs.take k).length = k := by rw [List.length_take]; omega
  rw [List.set_append_right _ _ (by omega), h1, Nat.sub_self, show n - k = m + 1 by omega, show n - (k + 1) = m by omega, List.replicate_succ, List.set_cons_zero]
  rw [List.take_succ_eq_append_getElem (by omega), ← gI_lt (by omega), List.append_assoc]
  rfl
@[irreducible] def padZ (n : Nat) : Nat := (55 - n % 32) % 32
theorem padZ_eq (n : Nat) : padZ n = (55 - n % 32) % 32 := by unfold padZ; rfl
@[irreducible] def bytesLE (n : Int) (k : Nat) : List Int := (List.range k).map fun i => n / 256 ^ i % 256
theorem bytesLE_zero (n : Int) : bytesLE n 0 = [] := by simp [bytesLE]
theorem bytesLE_succ (n : Int) (k : Nat) : bytesLE n (k + 1) = bytesLE n k ++ [n / 256 ^ k % 256] := by simp [bytesLE, List.range_succ]
theorem bytesLE_length (n : Int) (k : Nat) : (bytesLE n k).length = k := by simp [bytesLE]
theorem bytesLE_ok (n : Int) (k : Nat) : B8 (bytesLE n k) := by
  intro x hx
  rw [bytesLE] at hx
  obtain ⟨i, _, rfl⟩ := List.mem_map.1 hx
  omega
/-- what stands behind the bytes -/
@[irreducible] def padL (n : Nat) (len : Int) : List Int := [128] ++ List.replicate (padZ n) 0 ++ bytesLE len 8
theorem padL_eq (n : Nat) (len : Int) : padL n len = [128] ++ List.replicate (padZ n) 0 ++ bytesLE len 8 := by rw [padL]
theorem padL_length (n : Nat) (len : Int) : (padL n len).length = padZ n + 9 := by rw [padL]; simp only [List.length_append, List.length_cons, List.length_nil, List.length_replicate, bytesLE_length]; omega
theorem replicate_ok (z : Nat) : B8 (List.replicate z (0 : Int)) := by
  intro x hx
  obtain rfl := (List.mem_replicate.1 hx).2
  omega
theorem padL_ok (n : Nat) (len : Int) : B8 (padL n len) := by
  rw [padL]
  exact ((show B8 [128] from fun x hx => by simp at hx; omega).append (replicate_ok _)).append (bytesLE_ok _ _)
/-- a block -/
@[irreducible] def blockL (all : List Int) (i : Nat) : List Int := (all.drop (32 * i)).take 32
theorem blockL_eq (all : List Int) (i : Nat) : blockL all i = (all.drop (32 * i)).take 32 := by rw [blockL]
theorem blockL_ok (all : List Int) (i : Nat) (h : B8 all) (hi : 32 * i + 32 ≤ all.length) : K32 (blockL all i) := by
  rw [blockL]
  exact ⟨by simp; omega, (h.drop _).take _⟩
def blocksL (all : List Int) (n : Nat) : List (List Int) := (List.range n).map (blockL all)
theorem blocksL_succ (all : List Int) (n : Nat) : blocksL all (n + 1) = blocksL all n ++ [blockL all n] := by simp [blocksL, List.range_succ]
/-- n blocks mixed in -/
def mixNR (all st : List Int) : Nat → List Int
  | 0 => st
  | n + 1 => mixL (mixNR all st n) (blockL all n)
@[irreducible] def mixN (all st : List Int) (n : Nat) : List Int := mixNR all st n
theorem mixN_zero (all st : List Int) : mixN all st 0 = st := by unfold mixN; rfl
theorem mixN_succ (all st : List Int) (n : Nat) : mixN all st (n + 1) = mixL (mixN all st n) (blockL all n) := by unfold mixN; rfl
theorem mixN_length (all st : List Int) (n : Nat) (h : st.length = 8) : (mixN all st n).length = 8 := by
  induction n with
  | zero => rwa [mixN_zero]
  | succ n ih => rw [mixN_succ]; exact mixL_length _ _ ih
theorem mixN_ok (all st : List Int) (n : Nat) (h : U32 st) : U32 (mixN all st n) := by
  induction n with
  | zero => rwa [mixN_zero]
  | succ n ih => rw [mixN_succ]; exact mixL_ok _ _ ih
/-- the key of a state -/
@[irreducible] def keyL (s : List Int) : List Int := (List.range 32).map fun i => gI s (i / 4) / 2 ^ (8 * (i % 4)) % 256
theorem keyL_length (s : List Int) : (keyL s).length = 32 := by simp [keyL]
theorem keyL_at (s : List Int) (k : Nat) (h : k < 32) : gI (keyL s) k = gI s (k / 4) / 2 ^ (8 * (k % 4)) % 256 := by
  rw [gI_lt (by rw [keyL_length]; exact h)]
  simp [keyL]
theorem keyL_ok (s : List Int) : K32 (keyL s) := by
  refine ⟨keyL_length s, fun x hx => ?_⟩
  rw [keyL] at hx
  obtain ⟨i, _, rfl⟩ := List.mem_map.1 hx
  omega
/-- the key behind a state and what is left of the bytes -/
@[irreducible] def endL (st held : List Int) (len : Int) : List Int := keyL (mixN (held ++ padL held.length len) st ((held.length + padZ held.length + 9) / 32))
@[irreducible] def hashL (tag : Int) (data : List Int) : List Int := endL (startL tag) data data.length
theorem endL_ok (st held : List Int) (len : Int) : K32 (endL st held len) := by rw [endL]; exact keyL_ok _
theorem hashL_ok (tag : Int) (data : List Int) : K32 (hashL tag data) := by rw [hashL]; exact endL_ok _ _ _
theorem padded_mod (n : Nat) : (n + padZ n + 9) % 32 = 0 := by rw [padZ_eq]; omega

end Go.Proofs.Ytmndkbheehcoaaa
/- The statements' key of bytes: blocks and what stands behind the bytes. No condition. -/
namespace Go.Proofs.Ytmndkbheehcoaaa
open Go.RowKit
set_option linter.unusedVariables false
set_option linter.unusedSimpArgs false

set_option maxHeartbeats 1000000 in
set_option maxRecDepth 100000 in
theorem l01Block_any (v : Value) (xs : List Int) (w : World) (S : Nat → Prop) (h : RdL tByte w S v xs) (i : Nat) (hi : 32 * i + 32 ≤ xs.length) :
    Calls Try.prog 172 #[v, .int .i64 ((32 * i : Nat) : Int)] w fun e w' => e = .returned (.agg (numsA .u8 (blockL xs i))) ∧ Ext w w' := by
  obtain ⟨A, cap, rfl, hcap, hlen, hrd, hok⟩ := h
  have hrd' : Rd w S 1 A xs.length (nums .u8 xs) := by rw [← flat_bytes]; exact hrd
  obtain ⟨g, o, rfl, hs, hc⟩ := hrd'.2 (by omega)
  have cellx : ∀ j, j < xs.length → w.cell? ⟨g, o + j, none⟩ = some (.int .u8 (gI xs j)) := fun j hj => hc j _ (nums_at _ _ _ hj)
  have CX := Lib.hid cellx
  clear hrd hrd' hok hc cellx
  have HB := Lib.hid (blockL_eq xs i)
  have hbl : (blockL xs i).length = 32 := by rw [HB.out]; simp; omega
  go_enter Try.func172, Try.ntmps172
  go_wp2_with (refine wpl_storeN (k := .u8) (xs := List.replicate 32 0) (Blk.new' (g := w.heap.size + 1) (by simp) _ _) aggB32 (by simp) rfl rfl _ _ rfl rfl rfl rfl ?_)
  go_loopw [6] (fun q wr => ∃ (k : Nat) (z : Array Value), k ≤ 32 ∧ q = .int .i64 k ∧ z.size = 32 ∧ Blk wr w.heap.size 26 z ∧ Blk wr (w.heap.size + 1) 26 (numsA .u8 ((blockL xs i).take k ++ List.replicate (32 - k) 0)) ∧ Ext w wr) (fun q _ => 32 - (intOf q).toNat)
  case atStart => exact ⟨0, _, by omega, rfl, rfl, ((Blk.new w _ _).alloc _).row_far (by omega) _, by rw [List.take_zero, List.nil_append, Nat.sub_zero]; exact (Blk.new' (by simp) _ _).setRow _, ((ext_alloc _ _).alloc _).setRow (by omega) _⟩
  case round =>
    obtain ⟨k, z, hk, rfl, hz, hb1, hb2, hx⟩ := hrel
    have HX := Lib.hid hx
    have HB1 := Lib.hid hb1
    have HB2 := Lib.hid hb2
    clear hx hb1 hb2
    by_cases hlt : k < 32
    · have hc := HB2.out.num k (by simp; omega)
      have hf := HB2.out.free k
      have hd := HX.out.cell (CX.out (32 * i + k) (by omega))
      have e1 : IntKind.i64.wrap (32 * (i : Int) + k) = ((32 * i + k : Nat) : Int) := by rw [IntWalk.i64_in _ (by omega)]; omega
      have e2 : ((32 * i + k : Nat) : Int) < (xs.length : Int) := by omega
      have hnew : ((blockL xs i).take k ++ List.replicate (32 - k) 0).set k (gI xs (32 * i + k)) = (blockL xs i).take (k + 1) ++ List.replicate (32 - (k + 1)) 0 := by
        have h1 : gI (blockL xs i) k = gI xs (32 * i + k) := by
          unfold gI
          rw [HB.out, List.getD_eq_getElem?_getD, List.getD_eq_getElem?_getD, List.getElem?_take, if_pos hlt, List.getElem?_drop]
        rw [← h1]
        exact fill_step _ 32 k hlt hbl
      have HN := Lib.hid hnew
      clear hnew
      go_wp2_with fail
      go_roundw
      case rel =>
        have h2 := HB2.out.set k (.int .u8 (gI xs (32 * i + k)))
        rw [numsA_set, HN.out] at h2
        exact ⟨k + 1, z, by omega, by go_num, hz, HB1.out.far (by simp) _, h2, HX.out.set (by simp) _⟩
      case measure => simp [intOf]; omega
    · obtain rfl : k = 32 := by omega
      have hb := HB2.out
      rw [Nat.sub_self, List.replicate_zero, List.append_nil, List.take_of_length_le (by omega)] at hb
      have HB3 := Lib.hid hb
      clear hb
      go_wp2_with (first
        | (refine wpl_loadN HB3.out aggB32 hbl rfl _ rfl rfl ?_)
        | (refine wpl_storeN HB1.out aggB32 hbl hz rfl _ _ rfl rfl rfl rfl ?_))
      refine bodyPost_ret (results_blk rfl _ rfl aggB32 hbl (HB1.out.setRow _)) rfl ?_
      exact ⟨rfl, HX.out.setRow (Nat.le_refl _) _⟩

end Go.Proofs.Ytmndkbheehcoaaa
/- The statements' key of bytes: what stands behind the bytes. No condition. -/
namespace Go.Proofs.Ytmndkbheehcoaaa
open Go.RowKit
set_option linter.unusedVariables false
set_option linter.unusedSimpArgs false

theorem okOne {x : Int} (h : 0 ≤ x ∧ x ≤ 255) : ∀ y ∈ [x], tByte.ok y := by
  intro y hy
  obtain rfl := List.mem_singleton.1 hy
  exact h
theorem rd_byte (w : World) (x : Int) (h : 0 ≤ x ∧ x ≤ 255) (t : TypeId) : Rd (w.alloc (.cells #[.int .u8 x] t)) (fun _ => True) tByte.sz (some ⟨w.heap.size, 0, none⟩) [x].length ([x].flatMap tByte.enc) := rd_one (T := tByte) w x h t
theorem Own.len {α : Type} {T : Ty α} {e : TypeId} {w : World} {base : Nat} {A : Option Addr} {n c : Nat} {xs : List α} (h : Own T e w base (.slice A n c) xs) : n = xs.length := by
  obtain ⟨A', c', he⟩ := h.shape
  injection he
set_option maxHeartbeats 1000000 in
set_option maxRecDepth 100000 in
theorem l01Padded_any (v : Value) (xs : List Int) (w : World) (S : Nat → Prop) (h : RdL tByte w S v xs) (hl : xs.length ≤ 70368744177664) (len : Int) (h0 : 0 ≤ len) (h1 : len ≤ 9223372036854775807) :
    Calls Try.prog 170 #[v, .int .i64 len] w fun e w' => ∃ v', e = .returned v' ∧ Own tByte 5 w' w.heap.size v' (xs ++ padL xs.length len) ∧ Ext w w' := by
  obtain ⟨A, cap, rfl, hcap, hlen, hrd, hok⟩ := h
  have Hrd := Lib.hid hrd
  have Hok := Lib.hid hok
  clear hrd hok
  go_enter Try.func170, Try.ntmps170
  go_wp2_with (first
    | (at_builtin; refine wpl_append rowByte rfl _ _ rfl (v := .slice (some ⟨w.heap.size, 0, none⟩) 0 0) rfl (Own.empty tByte _ 5 w.heap.size (Nat.le_refl _)) _ _ rfl rfl (Hrd.out.ext (by decide) (ext_alloc _ _)) Hok.out (by simp; omega) (by simp) ?_; intro v1 w1 ho1 hg1 hat1; rw [List.nil_append] at ho1; have HX1 := Lib.hid ((ext_alloc w _).grown hg1 (fun k hk => Nat.le_of_eq (Option.some.inj hk))); have HO1 := Lib.hid ho1; obtain ⟨B1, bn1, bc1, rfl⟩ := ho1.shape3; clear ho1 hg1 hat1)
    | (at_builtin; refine wpl_append rowByte rfl _ _ rfl (v := .slice B1 bn1 bc1) rfl (HO1.out.alloc _) _ _ rfl (A := some ⟨w1.heap.size, 0, none⟩) (ys := [128]) rfl (rd_byte w1 128 (by decide) _) (okOne (by decide)) (by simp; omega) (HX1.out.alloc _).size ?_; intro v2 w2 ho1 hg1 hat1; have HX2 := Lib.hid ((HO1.out.alloc _).ext_app (HX1.out.alloc _) hg1); have HO2 := Lib.hid ho1; clear ho1 hg1 hat1 HX1 HO1))
  go_loopw [5] (fun o wr => ∃ z : Nat, z ≤ padZ xs.length ∧ Own tByte 5 wr w.heap.size o (xs ++ [128] ++ List.replicate z 0) ∧ Ext w wr) (fun o _ => xs.length + 40 - lenV o)
  case atStart => exact ⟨0, by omega, by rw [List.replicate_zero, List.append_nil]; exact HO2.out, HX2.out⟩
  case round =>
    clear HO2 HX2
    obtain ⟨z, hz, ho, hx⟩ := hrel
    have HX := Lib.hid hx
    have HO := Lib.hid ho
    obtain ⟨B, bn, bc, rfl⟩ := ho.shape3
    have hbn := ho.len
    simp only [List.length_append, List.length_cons, List.length_nil, List.length_replicate] at hbn
    clear hx ho
    have hp := padZ_eq xs.length
    have hbl : (bn : Int) ≤ 9223372036854775807 := by omega
    by_cases hlt : z < padZ xs.length
    · have hm : ¬ ((bn : Int) % 32 = 24) := by omega
      have hz31 : z ≤ 31 := by omega
      have HP := Lib.hid hp
      have HN := Lib.hid hbn
      clear hp hbn
      go_wp2_with (at_builtin; refine wpl_append rowByte rfl _ _ rfl (v := .slice B bn bc) rfl (HO.out.alloc _) _ _ rfl (A := some ⟨wr.heap.size, 0, none⟩) (ys := [0]) rfl (rd_byte wr (0) (by decide) _) (okOne (by decide)) (by simp; omega) (HX.out.alloc _).size ?_; intro v9 w9 ho1 hg1 hat1; have HX9 := Lib.hid ((HO.out.alloc _).ext_app (HX.out.alloc _) hg1); have HO9 := Lib.hid ho1; clear ho1 hg1 hat1)
      go_roundw
      case rel => exact ⟨z + 1, by omega, by rw [List.replicate_succ', ← List.append_assoc]; exact HO9.out, HX9.out⟩
      case measure =>
        have h1 := HO9.out.shape
        obtain ⟨_, _, rfl⟩ := h1
        have := HN.out
        have := HP.out
        simp [lenV]
        omega
    · have hm : (bn : Int) % 32 = 24 := by omega
      obtain rfl : z = padZ xs.length := by omega
      have HP := Lib.hid hp
      have HN := Lib.hid hbn
      clear hp hbn
      go_wp2_with fail
      clear hm
      go_loopw [1, 5, 6] (fun l o i wq => ∃ k : Nat, k ≤ 8 ∧ i = .int .i64 k ∧ l = .int .i64 (len / 256 ^ k) ∧ Own tByte 5 wq w.heap.size o (xs ++ [128] ++ List.replicate (padZ xs.length) 0 ++ bytesLE len k) ∧ Ext w wq) (fun _ _ i _ => 8 - (intOf i).toNat)
      case atStart => exact ⟨0, by omega, rfl, by simp, by rw [bytesLE_zero, List.append_nil]; exact HO.out, HX.out⟩
      case round =>
        clear HO HX
        obtain ⟨k, hk, rfl, rfl, ho, hx⟩ := hrel
        have HX := Lib.hid hx
        have HO := Lib.hid ho
        obtain ⟨C, cn, cc, rfl⟩ := ho.shape3
        clear hx ho
        by_cases hk8 : k < 8
        · have hd0 : 0 ≤ len / 256 ^ k := Int.ediv_nonneg h0 (Int.pow_nonneg (by decide))
          have hd1 : len / 256 ^ k ≤ len := Int.ediv_le_self _ h0
          have hs1 : len / 256 ^ (k + 1) = len / 256 ^ k / 256 := by rw [Int.pow_succ, Int.ediv_ediv_of_nonneg (Int.pow_nonneg (by decide))]
          have hs2 := bytesLE_succ len k
          generalize len / 256 ^ k = d at *
          have HS1 := Lib.hid hs1
          have HS2 := Lib.hid hs2
          have hpz : padZ xs.length ≤ 31 := by have := padZ_eq xs.length; omega
          clear hs1 hs2
          go_wp2_with (at_builtin; refine wpl_append rowByte rfl _ _ rfl (v := .slice C cn cc) rfl (HO.out.alloc _) _ _ rfl (A := some ⟨wr.heap.size, 0, none⟩) (ys := [d % 256]) rfl (rd_byte wr (d % 256) (by omega) _) (okOne (by omega)) (by simp [bytesLE_length]; omega) (HX.out.alloc _).size ?_; intro v9 w9 ho1 hg1 hat1; have HX9 := Lib.hid ((HO.out.alloc _).ext_app (HX.out.alloc _) hg1); have HO9 := Lib.hid ho1; clear ho1 hg1 hat1)
          go_roundw
          case rel => exact ⟨k + 1, by omega, by go_num, by rw [HS1.out], by rw [HS2.out, ← List.append_assoc]; exact HO9.out, HX9.out⟩
          case measure => simp [intOf]; omega
        · obtain rfl : k = 8 := by omega
          go_wp2_with fail
          go_ret
          have ho := HO.out
          rw [List.append_assoc xs, List.append_assoc xs, ← padL_eq] at ho
          exact ⟨_, rfl, ho, HX.out⟩

end Go.Proofs.Ytmndkbheehcoaaa
/- The program's number of bytes. No condition. -/
namespace Go.Proofs.Ytmndkbheehcoaaa
open Go.RowKit
set_option linter.unusedVariables false
set_option linter.unusedSimpArgs false

set_option maxHeartbeats 1000000 in
set_option maxRecDepth 100000 in
theorem littleNumber_any (v : Value) (xs : List Int) (w : World) (S : Nat → Prop) (h : RdL tByte w S v xs) (hl : xs.length ≤ 7) :
    Calls Try.prog 177 #[v] w fun e w' => e = .returned (.int .u64 (littleN xs)) ∧ w = w' := by
  obtain ⟨A, cap, rfl, hcap, hlen, hrd, hok⟩ := h
  have Hrd := Lib.hid (show Rd w S 1 A xs.length (nums .u8 xs) by rw [← flat_bytes]; exact hrd)
  have Hok := Lib.hid hok
  clear hrd hok
  go_enter Try.func177, Try.ntmps177
  go_wp2
  go_loop [3, 8] (fun q i => ∃ k : Nat, k ≤ xs.length ∧ i = .int .i64 k ∧ q = .int .u64 (littleN (xs.take k))) (fun _ i => xs.length - (intOf i).toNat)
  case atStart => exact ⟨0, by omega, rfl, by simp [littleN]⟩
  case round =>
    obtain ⟨k, hk, rfl, rfl⟩ := hrel
    by_cases hlt : k < xs.length
    · obtain ⟨g, o, rfl, hs, hc⟩ := (Hrd.out).byte k hlt
      have hb := B8.get Hok.out k
      go_wp2
      go_round
      case rel => exact ⟨k + 1, by omega, by go_num, by rw [little_step xs Hok.out k hlt (by omega)]⟩
      case measure => simp [intOf]; omega
    · go_wp2
      go_ret
      obtain rfl : k = xs.length := by omega
      rw [List.take_length]
      exact ⟨rfl, rfl⟩

end Go.Proofs.Ytmndkbheehcoaaa
/- Mixing of blocks into a state: the words. No condition. -/
namespace Go.Proofs.Ytmndkbheehcoaaa
open Go.RowKit
set_option linter.unusedVariables false
set_option linter.unusedSimpArgs false

set_option maxHeartbeats 1000000 in
set_option maxRecDepth 100000 in
theorem l01Turn_7 (x : Int) (w : World) : Calls Try.prog 179 #[.int .u32 x, .int .u64 7] w fun e w' => e = .returned (.int .u32 (turn7 x)) ∧ w = w' := by
  unfold turn7
  go_enter Try.func179, Try.ntmps179
  go_wp2
  go_ret
  exact ⟨rfl, rfl⟩
set_option maxHeartbeats 1000000 in
set_option maxRecDepth 100000 in
theorem l01Turn_13 (x : Int) (w : World) : Calls Try.prog 179 #[.int .u32 x, .int .u64 13] w fun e w' => e = .returned (.int .u32 (turn13 x)) ∧ w = w' := by
  unfold turn13
  go_enter Try.func179, Try.ntmps179
  go_wp2
  go_ret
  exact ⟨rfl, rfl⟩
set_option maxHeartbeats 1000000 in
set_option maxRecDepth 100000 in
theorem rot_7 (x : Int) (w : World) : Calls Try.prog 178 #[.int .u32 x, .int .i64 7] w fun e w' => e = .returned (.int .u32 (turn7 x)) ∧ w = w' := by
  have hb : bits .and .u64 7 31 = 7 := by decide
  unfold turn7
  go_enter Try.func178, Try.ntmps178
  go_wp2
  go_ret
  exact ⟨rfl, rfl⟩
set_option maxHeartbeats 1000000 in
set_option maxRecDepth 100000 in
theorem rot_13 (x : Int) (w : World) : Calls Try.prog 178 #[.int .u32 x, .int .i64 13] w fun e w' => e = .returned (.int .u32 (turn13 x)) ∧ w = w' := by
  have hb : bits .and .u64 13 31 = 13 := by decide
  unfold turn13
  go_enter Try.func178, Try.ntmps178
  go_wp2
  go_ret
  exact ⟨rfl, rfl⟩
set_option maxHeartbeats 1000000 in
set_option maxRecDepth 100000 in
theorem l01Start_any (tag : Int) (h : 0 ≤ tag ∧ tag ≤ 255) (w : World) : Calls Try.prog 152 #[.int .u8 tag] w fun e w' => e = .returned (.agg (numsA .u32 (startL tag))) ∧ Ext w w' := by
  go_enter Try.func152, Try.ntmps152
  go_wp2
  go_loopw [4] (fun i wr => ∃ (k : Nat) (z : Array Value), k ≤ 8 ∧ i = .int .i64 k ∧ z.size = 8 ∧ Blk wr w.heap.size 176 z ∧ Blk wr (w.heap.size + 1) 176 (numsA .u32 ((List.range k).map (fun (i : Nat) => 16777619 * ((i : Int) + 1) + tag) ++ List.replicate (8 - k) 0)) ∧ Ext w wr) (fun i _ => 8 - (intOf i).toNat)
  case atStart => exact ⟨0, _, by omega, rfl, rfl, (Blk.new _ _ _).alloc _, Blk.new' (by simp) _ _, (ext_alloc _ _).alloc _⟩
  case round =>
    obtain ⟨k, z, hk, rfl, hz, hb1, hb2, hx⟩ := hrel
    have HX := Lib.hid hx
    have HB1 := Lib.hid hb1
    have HB2 := Lib.hid hb2
    clear hx hb1 hb2
    by_cases hlt : k < 8
    · have hc := HB2.out.num k (by simp; omega)
      have hf := HB2.out.free k
      go_wp2
      go_roundw
      case rel =>
        have h2 := HB2.out.set k (.int .u32 (16777619 * ((k : Int) + 1) + tag))
        rw [numsA_set, mapRange_set (fun (i : Nat) => 16777619 * ((i : Int) + 1) + tag) 8 k hlt] at h2
        exact ⟨k + 1, z, by omega, by go_num, hz, HB1.out.far (by simp) _, h2, HX.out.set (by simp) _⟩
      case measure => simp [intOf]; omega
    · obtain rfl : k = 8 := by omega
      have hb := HB2.out
      rw [Nat.sub_self, List.replicate_zero, List.append_nil] at hb
      have hst : (List.range 8).map (fun (i : Nat) => 16777619 * ((i : Int) + 1) + tag) = startL tag := by rw [startL]
      rw [hst] at hb
      have HB := Lib.hid hb
      clear hb hst
      go_wp2_with (first
        | (refine wpl_loadN HB.out aggU32 (startL_length tag) rfl _ rfl rfl ?_)
        | (refine wpl_storeN HB1.out aggU32 (startL_length tag) hz rfl _ _ rfl rfl rfl rfl ?_))
      refine bodyPost_ret (results_blk rfl _ rfl aggU32 (startL_length tag) (HB1.out.setRow _)) rfl ?_
      exact ⟨rfl, HX.out.setRow (Nat.le_refl _) _⟩
set_option maxHeartbeats 1000000 in
set_option maxRecDepth 100000 in
theorem startState_any (tag : Int) (h : 0 ≤ tag ∧ tag ≤ 255) (w : World) : Calls Try.prog 150 #[.int .u8 tag] w fun e w' => e = .returned (.agg (numsA .u32 (startL tag))) ∧ Ext w w' := by
  go_enter Try.func150, Try.ntmps150
  go_wp2
  go_loopw [6] (fun i wr => ∃ (k : Nat) (z : Array Value), k ≤ 8 ∧ i = .int .i64 k ∧ z.size = 8 ∧ Blk wr w.heap.size 176 z ∧ Blk wr (w.heap.size + 1) 176 (numsA .u32 ((List.range k).map (fun (i : Nat) => 16777619 * ((i : Int) + 1) + tag) ++ List.replicate (8 - k) 0)) ∧ Ext w wr) (fun i _ => 8 - (intOf i).toNat)
  case atStart => exact ⟨0, _, by omega, rfl, rfl, (Blk.new _ _ _).alloc _, Blk.new' (by simp) _ _, (ext_alloc _ _).alloc _⟩
  case round =>
    obtain ⟨k, z, hk, rfl, hz, hb1, hb2, hx⟩ := hrel
    have HX := Lib.hid hx
    have HB1 := Lib.hid hb1
    have HB2 := Lib.hid hb2
    clear hx hb1 hb2
    by_cases hlt : k < 8
    · have hc := HB2.out.num k (by simp; omega)
      have hf := HB2.out.free k
      go_wp2
      go_roundw
      case rel =>
        have h2 := HB2.out.set k (.int .u32 (16777619 * ((k : Int) + 1) + tag))
        rw [numsA_set, mapRange_set (fun (i : Nat) => 16777619 * ((i : Int) + 1) + tag) 8 k hlt] at h2
        exact ⟨k + 1, z, by omega, by go_num, hz, HB1.out.far (by simp) _, h2, HX.out.set (by simp) _⟩
      case measure => simp [intOf]; omega
    · obtain rfl : k = 8 := by omega
      have hb := HB2.out
      rw [Nat.sub_self, List.replicate_zero, List.append_nil] at hb
      have hst : (List.range 8).map (fun (i : Nat) => 16777619 * ((i : Int) + 1) + tag) = startL tag := by rw [startL]
      rw [hst] at hb
      have HB := Lib.hid hb
      clear hb hst
      go_wp2_with (first
        | (refine wpl_loadN HB.out aggU32 (startL_length tag) rfl _ rfl rfl ?_)
        | (refine wpl_storeN HB1.out aggU32 (startL_length tag) hz rfl _ _ rfl rfl rfl rfl ?_))
      refine bodyPost_ret (results_blk rfl _ rfl aggU32 (startL_length tag) (HB1.out.setRow _)) rfl ?_
      exact ⟨rfl, HX.out.setRow (Nat.le_refl _) _⟩

end Go.Proofs.Ytmndkbheehcoaaa
/- The program's mixing of a block into a state. No condition. -/
namespace Go.Proofs.Ytmndkbheehcoaaa
open Go.RowKit
set_option linter.unusedVariables false
set_option linter.unusedSimpArgs false

set_option maxHeartbeats 8000000 in
set_option maxRecDepth 100000 in
theorem mixBlock_any (st b : List Int) (hs : st.length = 8) (hu : U32 st) (hk : K32 b) (w : World) : Calls Try.prog 169 #[.agg (numsA .u32 st), .agg (numsA .u8 b)] w fun e w' => e = .returned (.agg (numsA .u32 (mixL st b))) ∧ Ext w w' := by
  have HU := Lib.hid hu
  have HK := Lib.hid hk
  have HS := Lib.hid hs
  clear hu hk hs
  go_enter Try.func169, Try.ntmps169
  go_wp2_with fail
  go_loopw [14] (fun i wr => ∃ (k : Nat) (z : Array Value), k ≤ 8 ∧ i = .int .i64 k ∧ z.size = 8 ∧ Blk wr w.heap.size 176 (numsA .u32 st) ∧ Blk wr (w.heap.size + 1) 26 (numsA .u8 b) ∧ Blk wr (w.heap.size + 2) 176 z ∧ Blk wr (w.heap.size + 3) 176 (numsA .u32 ((List.range k).map (word b) ++ List.replicate (8 - k) 0)) ∧ Ext w wr) (fun i _ => 8 - (intOf i).toNat)
  case atStart => exact ⟨0, _, by omega, rfl, rfl, ((((Blk.new _ _ _).alloc _).alloc _).alloc _), ((Blk.new' (by simp) _ _).alloc _).alloc _, (Blk.new' (by simp) _ _).alloc _, Blk.new' (by simp) _ _, (((ext_alloc _ _).alloc _).alloc _).alloc _⟩
  case round =>
    obtain ⟨k, z, hk, rfl, hz, hb1, hb2, hb3, hb4, hx⟩ := hrel
    have HX := Lib.hid hx
    have HB1 := Lib.hid hb1
    have HB2 := Lib.hid hb2
    have HB3 := Lib.hid hb3
    have HB4 := Lib.hid hb4
    clear hx hb1 hb2 hb3 hb4
    by_cases hlt : k < 8
    · have hl : ((List.range k).map (word b) ++ List.replicate (8 - k) 0).length = 8 := by simp; omega
      have hc := HB4.out.num k (by omega)
      have hf := HB4.out.free k
      have hN := mapRange_set (word b) 8 k hlt
      generalize (List.range k).map (word b) ++ List.replicate (8 - k) 0 = M at *
      have HN := Lib.hid hN
      clear hN
      have hw : 0 ≤ word b k ∧ word b k ≤ 4294967295 := by
        have h1 := littleN_bound ((b.drop (4 * k)).take 4) ((HK.out.2.drop _).take _)
        have h2 : ((b.drop (4 * k)).take 4).length = 4 := by simp [HK.out.1]; omega
        rw [h2] at h1
        unfold word
        omega
      have HLN := Lib.hid (littleNumber_any (.slice (some ⟨w.heap.size + 1, 4 * k, none⟩) 4 (32 - 4 * k)) ((b.drop (4 * k)).take 4) wr (fun _ => True) ⟨some ⟨w.heap.size + 1, 4 * k, none⟩, 32 - 4 * k, by simp [HK.out.1]; omega, by simp [HK.out.1]; omega, by simp; omega, by
        refine ⟨by rw [flat_bytes, nums_length]; exact (Nat.mul_one _).symm, fun _ => ⟨_, _, rfl, trivial, fun j u hu => ?_⟩⟩
        rw [flat_bytes] at hu
        rw [HB2.out.cell]
        have hj : j < 4 := by
          have := (List.getElem?_eq_some_iff.1 hu).1
          rw [nums_length, List.length_take] at this
          omega
        rw [← hu]
        simp [numsA, nums, List.getElem?_take, hj], (HK.out.2.drop _).take _⟩ (by simp; omega))
      have hwd : littleN ((b.drop (4 * k)).take 4) = word b k := by unfold word; rfl
      rw [hwd] at HLN
      clear hwd
      generalize word b k = W at *
      have hw0 := hw.1
      have hw1 := hw.2
      have e0 : IntKind.i64.wrap (4 * (k : Int)) = 4 * k := IntWalk.i64_in _ (by omega)
      have e1 : IntKind.i64.wrap (4 * (k : Int) + 4) = 4 * k + 4 := IntWalk.i64_in _ (by omega)
      have e2 : (4 * (k : Int) + 4).toNat = 4 * k + 4 := by omega
      have e3 : (4 * (k : Int)).toNat = 4 * k := by omega
      have e4 : ¬ 32 = 4 * k := by omega
      have e5 : 4 * k + 4 - 4 * k = 4 := by omega
      have A0 : (0 : Int) ≤ 4 * k := by omega
      have A1 : (4 * (k : Int)) ≤ 4 * k + 4 := by omega
      have A2 : (4 * (k : Int) + 4) ≤ 32 := by omega
      clear hw
      go_wp2_with (go_at_call 177; refine (HLN.out).mono ?_; rintro e w' ⟨rfl, rfl⟩)
      go_roundw
      case rel =>
        have h4 := HB4.out.set k (.int .u32 W)
        rw [numsA_set, HN.out] at h4
        exact ⟨k + 1, z, by omega, by go_num, hz, HB1.out.far (by simp; omega) _, HB2.out.far (by simp) _, HB3.out.far (by simp) _, h4, HX.out.set (by simp; omega) _⟩
      case measure => simp [intOf]; omega
    · obtain rfl : k = 8 := by omega
      go_wp2_with (first
        | (refine wpl_loadN HB1.out aggU32 HS.out rfl _ rfl rfl ?_)
        | (refine wpl_storeN (Blk.new wr _ _) aggU32 HS.out rfl rfl _ _ rfl rfl rfl rfl ?_))
      have h4 := HB4.out
      rw [Nat.sub_self, List.replicate_zero, List.append_nil, ← words_eq] at h4
      have h5 : Blk _ wr.heap.size 176 (numsA .u32 st) := (Blk.new wr 176 #[Value.int IntKind.u32 0, Value.int IntKind.u32 0, Value.int IntKind.u32 0, Value.int IntKind.u32 0, Value.int IntKind.u32 0, Value.int IntKind.u32 0, Value.int IntKind.u32 0, Value.int IntKind.u32 0]).setRow (numsA .u32 st)
      have lt4 := h4.lt
      have n1 : w.heap.size ≠ wr.heap.size := by omega
      have n3 : w.heap.size + 2 ≠ wr.heap.size := by omega
      have n4 : w.heap.size + 3 ≠ wr.heap.size := by omega
      have hgs : w.heap.size + 4 ≤ wr.heap.size := by omega
      have hx0 := (HX.out.alloc (.cells #[Value.int IntKind.u32 0, Value.int IntKind.u32 0, Value.int IntKind.u32 0, Value.int IntKind.u32 0, Value.int IntKind.u32 0, Value.int IntKind.u32 0, Value.int IntKind.u32 0, Value.int IntKind.u32 0] 176)).setRow HX.out.size (numsA .u32 st)
      have hb1 := (HB1.out.alloc (.cells #[Value.int IntKind.u32 0, Value.int IntKind.u32 0, Value.int IntKind.u32 0, Value.int IntKind.u32 0, Value.int IntKind.u32 0, Value.int IntKind.u32 0, Value.int IntKind.u32 0, Value.int IntKind.u32 0] 176)).row_far n1 (numsA .u32 st)
      have hb3 := (HB3.out.alloc (.cells #[Value.int IntKind.u32 0, Value.int IntKind.u32 0, Value.int IntKind.u32 0, Value.int IntKind.u32 0, Value.int IntKind.u32 0, Value.int IntKind.u32 0, Value.int IntKind.u32 0, Value.int IntKind.u32 0] 176)).row_far n3 (numsA .u32 st)
      have hb4 := (h4.alloc (.cells #[Value.int IntKind.u32 0, Value.int IntKind.u32 0, Value.int IntKind.u32 0, Value.int IntKind.u32 0, Value.int IntKind.u32 0, Value.int IntKind.u32 0, Value.int IntKind.u32 0, Value.int IntKind.u32 0] 176)).row_far n4 (numsA .u32 st)
      clear h4 lt4 HB1 HB2 HB3 HB4 HX n1 n3 n4
      generalize wr.heap.size = gs at *
      have HW := Lib.hid (words_eq b)
      go_loopw [29] (fun i wq => ∃ r : Nat, r ≤ 12 ∧ i = .int .i64 r ∧ Blk wq w.heap.size 176 (numsA .u32 st) ∧ Blk wq (w.heap.size + 2) 176 z ∧ Blk wq (w.heap.size + 3) 176 (numsA .u32 (words b)) ∧ Blk wq gs 176 (numsA .u32 (mixOut (words b) r st)) ∧ Ext w wq) (fun i _ => 12 - (intOf i).toNat)
      case atStart => exact ⟨0, by omega, rfl, hb1, hb3, hb4, by rw [mixOut_zero]; exact h5, hx0⟩
      case round =>
        clear hx0 hb1 hb3 hb4 h5
        obtain ⟨r, hr, rfl, hb1, hb3, hb4, hb5, hx⟩ := hrel
        have HX := Lib.hid hx
        have HB1 := Lib.hid hb1
        have HB3 := Lib.hid hb3
        have HB4 := Lib.hid hb4
        have HB5 := Lib.hid hb5
        clear hx hb1 hb3 hb4 hb5
        by_cases hlr : r < 12
        · go_wp2_with fail
          have hd12 : decide ((r : Int) < 12) = true := by simp; omega
          simp only [hd12]
          go_loopw [32] (fun i wq => ∃ k : Nat, k ≤ 8 ∧ i = .int .i64 k ∧ Blk wq w.heap.size 176 (numsA .u32 st) ∧ Blk wq (w.heap.size + 2) 176 z ∧ Blk wq (w.heap.size + 3) 176 (numsA .u32 (words b)) ∧ Blk wq gs 176 (numsA .u32 (mixIn (words b) r k (mixOut (words b) r st))) ∧ Ext w wq) (fun i _ => 8 - (intOf i).toNat)
          case atStart => exact ⟨0, by omega, rfl, HB1.out, HB3.out, HB4.out, by rw [mixIn_zero]; exact HB5.out, HX.out⟩
          case round =>
            clear HX HB1 HB3 HB4 HB5
            obtain ⟨k, hk, rfl, hb1, hb3, hb4, hb5, hx⟩ := hrel
            have HX := Lib.hid hx
            have HB1 := Lib.hid hb1
            have HB3 := Lib.hid hb3
            have HB4 := Lib.hid hb4
            have HB5 := Lib.hid hb5
            clear hx hb1 hb3 hb4 hb5
            by_cases hlk : k < 8
            · have hl := (mixIn_length (words b) r k (mixOut (words b) r st)).trans ((mixOut_length (words b) r st).trans HS.out)
              have hu := mixIn_ok (words b) r k _ (mixOut_ok (words b) r st HU.out)
              have HE := Lib.hid (mixIn_succ (words b) r k (mixOut (words b) r st))
              generalize mixIn (words b) r k (mixOut (words b) r st) = s at *
              have p1 : (k + 3 * r) % 8 < 8 := Nat.mod_lt _ (by decide)
              have p2 : (k + 1) % 8 < 8 := Nat.mod_lt _ (by decide)
              have p3 : (k + 5) % 8 < 8 := Nat.mod_lt _ (by decide)
              have c0 := HB5.out.num k (by omega)
              have c1 := HB4.out.num ((k + 3 * r) % 8) (by rw [words_length]; omega)
              have c2 := HB5.out.num ((k + 1) % 8) (by omega)
              have c3 := HB5.out.num ((k + 5) % 8) (by omega)
              have hf := HB5.out.free k
              have u0 := hu.get k
              have u2 := hu.get ((k + 1) % 8)
              have u3 := hu.get ((k + 5) % 8)
              have q1 : ((k : Int) + 3 * r) % 8 = (((k + 3 * r) % 8 : Nat) : Int) := by omega
              have q2 : ((k : Int) + 1) % 8 = (((k + 1) % 8 : Nat) : Int) := by omega
              have q3 : ((k : Int) + 5) % 8 = (((k + 5) % 8 : Nat) : Int) := by omega
              generalize hj1 : (k + 3 * r) % 8 = j1 at *
              generalize hj2 : (k + 1) % 8 = j2 at *
              generalize hj3 : (k + 5) % 8 = j3 at *
              have J1 := Lib.hid hj1
              have J2 := Lib.hid hj2
              have J3 := Lib.hid hj3
              clear hj1 hj2 hj3 hu
              go_wp2_with fail
              go_quiet (fail)
              replace c0 := (show (wr.drewN nq).cell? _ = _ from c0)
              replace c2 := (show (wr.drewN nq).cell? _ = _ from c2)
              replace c3 := (show (wr.drewN nq).cell? _ = _ from c3)
              replace hf := (show (wr.drewN nq).frozen? _ = _ from hf)
              replace HX := Lib.hid (HX.out.drewN nq)
              replace HB1 := Lib.hid (HB1.out.drewN nq)
              replace HB3 := Lib.hid (HB3.out.drewN nq)
              replace HB4 := Lib.hid (HB4.out.drewN nq)
              replace HB5 := Lib.hid (HB5.out.drewN nq)
              clear c1
              generalize wr.drewN nq = wx at *
              go_wp2_with fail
              go_quiet ((go_at_call 178; exact Calls.quiet_of ((rot_7 _ _).mono fun e w' ⟨he, hw⟩ => ⟨he, 0, hw.symm⟩)))
              go_wp2_with (go_at_call 178; refine (rot_13 _ _).mono ?_; rintro e w' ⟨rfl, rfl⟩)
              go_roundw
              case rel =>
                have h5 := (HB5.out.drewN nq).set k (.int .u32 ((bits .xor .u32 (turn7 ((gI s k + gI (words b) j1 + 2654435769 * (8 * (r : Int) + (k : Int) + 1)) % 4294967296)) (gI s j2) + turn13 (gI s j3)) % 4294967296))
                rw [numsA_set] at h5
                have he := HE.out
                unfold mixStep at he
                rw [J1.out, J2.out, J3.out] at he
                rw [← he] at h5
                exact ⟨k + 1, by omega, by go_num, (HB1.out.drewN _).far (by simp; omega) _, (HB3.out.drewN _).far (by simp; omega) _, (HB4.out.drewN _).far (by simp; omega) _, h5, (HX.out.drewN _).set (by simp; omega) _⟩
              case measure => simp [intOf]; omega
            · obtain rfl : k = 8 := by omega
              go_wp2_with fail
              go_roundw
              case rel => exact ⟨r + 1, by omega, by go_num, HB1.out, HB3.out, HB4.out, by rw [mixOut_succ]; exact HB5.out, HX.out⟩
              case measure => simp [intOf]; omega
        · obtain rfl : r = 12 := by omega
          go_wp2_with fail
          have HL := Lib.hid ((mixOut_length (words b) 12 st).trans HS.out)
          have HE := Lib.hid (show mixL st b = xorIn st 8 (mixOut (words b) 12 st) by rw [mixL])
          generalize mixOut (words b) 12 st = s at *
          go_loopw [74] (fun i wq => ∃ k : Nat, k ≤ 8 ∧ i = .int .i64 k ∧ Blk wq w.heap.size 176 (numsA .u32 st) ∧ Blk wq (w.heap.size + 2) 176 z ∧ Blk wq gs 176 (numsA .u32 (xorIn st k s)) ∧ Ext w wq) (fun i _ => 8 - (intOf i).toNat)
          case atStart => exact ⟨0, by omega, rfl, HB1.out, HB3.out, by rw [xorIn_zero]; exact HB5.out, HX.out⟩
          case round =>
            clear HX HB1 HB3 HB4 HB5
            obtain ⟨k, hk, rfl, hb1, hb3, hb5, hx⟩ := hrel
            have HX := Lib.hid hx
            have HB1 := Lib.hid hb1
            have HB3 := Lib.hid hb3
            have HB5 := Lib.hid hb5
            clear hx hb1 hb3 hb5
            have hl := (xorIn_length st k s).trans HL.out
            by_cases hlk : k < 8
            · have c0 := HB5.out.num k (by omega)
              have c1 := HB1.out.num k (by rw [HS.out]; omega)
              have hf := HB5.out.free k
              have HE2 := Lib.hid (xorIn_succ st k s)
              generalize xorIn st k s = s1 at *
              go_wp2_with fail
              go_region
              go_wp2_with fail
              go_roundw
              case rel =>
                have h5 := HB5.out.set k (.int .u32 (bits .xor .u32 (gI s1 k) (gI st k)))
                rw [numsA_set, ← HE2.out] at h5
                exact ⟨k + 1, by omega, by go_num, (HB1.out.far (by simp; omega) _).drewN 1, (HB3.out.far (by simp; omega) _).drewN 1, h5.drewN 1, (HX.out.set (by simp; omega) _).drew⟩
              case measure => simp [intOf]; omega
            · obtain rfl : k = 8 := by omega
              rw [← HE.out] at HB5 hl
              go_wp2_with (first
                | (refine wpl_loadN HB5.out aggU32 hl rfl _ rfl rfl ?_)
                | (refine wpl_storeN HB3.out aggU32 hl hz rfl _ _ rfl rfl rfl rfl ?_))
              refine bodyPost_ret (results_blk rfl _ rfl aggU32 hl (HB3.out.setRow _)) rfl ?_
              exact ⟨rfl, HX.out.setRow (by omega) _⟩

end Go.Proofs.Ytmndkbheehcoaaa
/- Two slices of bytes put together. No condition. -/
namespace Go.Proofs.Ytmndkbheehcoaaa
open Go.RowKit
set_option linter.unusedVariables false
set_option linter.unusedSimpArgs false

set_option maxHeartbeats 1000000 in
set_option maxRecDepth 100000 in
theorem grow_any (n : Nat) (h0 : 0 < n) (hn : n ≤ 70368744177664) (w : World) : Calls Try.prog 167 #[.slice none 0 0, .int .i64 n] w fun e w' => ∃ v', e = .returned v' ∧ Own tByte 5 w' w.heap.size v' [] ∧ Ext w w' := by
  obtain ⟨i, z, hi, hz, hs, hby, hzs⟩ := rowByte.info
  have hr := Lib.run_append_nil_zeros (P := Try.prog) w 56 3 56 5 i z .i64 .i64 rowByte.ht (by kernel_rfl) hi hz n h0 (by rw [hs]; decide) (by omega) (by rw [hby]; omega)
  have hc1 := grownCap_ge w n 0 5
  have hc2 := grownCap_le_maxLen w n 0 5 (by simp only [maxLen]; omega)
  generalize grownCap w n 0 5 = c at *
  obtain ⟨row, hrow⟩ : ∃ row, row = Builtin.zeroCells z.cells n ++ Builtin.zeroCells z.cells (c - n) := ⟨_, rfl⟩
  have hsz : row.size = c := by rw [hrow, Array.size_append, size_zeroCells, size_zeroCells, hzs]; show n * 1 + (c - n) * 1 = c; omega
  rw [← hrow] at hr
  clear hrow
  have HR := Lib.hid hr
  have HC := Lib.hid hc2
  clear hr hc2 hi hz hs hby hzs
  go_enter Try.func167, Try.ntmps167
  go_wp2_with (at_builtin; refine Lib.wpList_append_run _ rfl _ _ _ _ rfl _ _ rfl rfl _ _ HR.out ?_)
  go_ret
  exact ⟨_, rfl, ⟨⟨by simp, .inr ⟨w.heap.size, c, row, rfl, Nat.le_refl _, heap_alloc_new w _, Nat.zero_le _, HC.out, by show row.size = c * 1; omega, by simp⟩⟩, by simp, by simp⟩, (ext_alloc w _).drew⟩

set_option maxHeartbeats 1000000 in
set_option maxRecDepth 100000 in
theorem concat2_any (g o : Nat) (v u : Value) (xs ys : List Int) (w : World) (S S' : Nat → Prop) (h : RdL tByte w S v xs) (h' : RdL tByte w S' u ys) (h0 : 0 < xs.length + ys.length) (hn : xs.length + ys.length ≤ 70368744177664)
    (c0 : w.cell? ⟨g, o, none⟩ = some v) (c1 : w.cell? ⟨g, o + 1, none⟩ = some u) :
    Calls Try.prog 145 #[.slice (some ⟨g, o, none⟩) 2 2] w fun e w' => ∃ v', e = .returned v' ∧ Own tByte 5 w' w.heap.size v' (xs ++ ys) ∧ Ext w w' := by
  have H := Lib.hid h
  have H' := Lib.hid h'
  obtain ⟨A, cap, rfl, hcap, hlen, _⟩ := h
  obtain ⟨A', cap', rfl, hcap', hlen', _⟩ := h'
  go_enter Try.func145, Try.ntmps145
  go_wp2_with fail
  go_loop [3, 11] (fun s i => (i = .int .i64 0 ∧ s = .int .i64 0) ∨ (i = .int .i64 1 ∧ s = .int .i64 xs.length) ∨ (i = .int .i64 2 ∧ s = .int .i64 (xs.length + ys.length : Nat))) (fun _ i => 2 - (intOf i).toNat)
  case atStart => exact .inl ⟨rfl, rfl⟩
  case round =>
    rcases hrel with ⟨rfl, rfl⟩ | ⟨rfl, rfl⟩ | ⟨rfl, rfl⟩
    · go_wp2_with fail
      go_round
      case rel => exact .inr (.inl ⟨rfl, rfl⟩)
      case measure => simp [intOf]
    · go_wp2_with fail
      go_round
      case rel => exact .inr (.inr ⟨rfl, by go_num⟩)
      case measure => simp [intOf]
    · have G := grow_any (xs.length + ys.length) h0 hn w
      have HG := Lib.hid G
      clear G
      go_wp2_with fail
      refine HG.out.mono ?_
      rintro e w1 ⟨v1, rfl, ho, hx⟩
      have HO := Lib.hid ho
      have HX := Lib.hid hx
      have c0' := hx.cell c0
      have c1' := hx.cell c1
      clear ho hx
      go_wp2_with fail
      go_loopw [6, 27] (fun v i wr => Ext w wr ∧ ((i = .int .i64 0 ∧ Own tByte 5 wr w.heap.size v []) ∨ (i = .int .i64 1 ∧ Own tByte 5 wr w.heap.size v xs) ∨ (i = .int .i64 2 ∧ Own tByte 5 wr w.heap.size v (xs ++ ys)))) (fun _ i _ => 2 - (intOf i).toNat)
      case atStart => exact ⟨HX.out, .inl ⟨rfl, HO.out⟩⟩
      case round =>
        clear HO HX c0' c1'
        obtain ⟨hx, hr⟩ := hrel
        have HX := Lib.hid hx
        have d0 := hx.cell c0
        have d1 := hx.cell c1
        clear hx
        rcases hr with ⟨rfl, ho⟩ | ⟨rfl, ho⟩ | ⟨rfl, ho⟩
        · obtain ⟨B, bn, bc, rfl⟩ := ho.shape3
          have HO := Lib.hid ho
          have hr := H.out.ext (by decide) HX.out
          obtain ⟨A2, cap2, he, _, _, hr1, hok1⟩ := hr
          injection he with e1 e2 e3
          subst e1 e3
          have HR := Lib.hid hr1
          have HK := Lib.hid hok1
          clear ho hr1 hok1
          go_wp2_with (at_builtin; refine wpl_append rowByte rfl _ _ rfl (v := .slice B bn bc) rfl HO.out _ _ rfl (ys := xs) (A := A) (S := S) rfl HR.out HK.out (by simp; omega) HX.out.size ?_; intro v1 w1 ho1 hg1 hat1; have HO1 := Lib.hid ho1; have HX1 := Lib.hid (HO.out.ext_app HX.out hg1); clear ho1 hg1 hat1)
          go_roundw
          case rel => exact ⟨HX1.out, .inr (.inl ⟨rfl, HO1.out⟩)⟩
          case measure => simp [intOf]
        · obtain ⟨B, bn, bc, rfl⟩ := ho.shape3
          have HO := Lib.hid ho
          have hr := H'.out.ext (by decide) HX.out
          obtain ⟨A2, cap2, he, _, _, hr1, hok1⟩ := hr
          injection he with e1 e2 e3
          subst e1 e3
          have HR := Lib.hid hr1
          have HK := Lib.hid hok1
          clear ho hr1 hok1
          go_wp2_with (at_builtin; refine wpl_append rowByte rfl _ _ rfl (v := .slice B bn bc) rfl HO.out _ _ rfl (ys := ys) (A := A') (S := S') rfl HR.out HK.out (by omega) HX.out.size ?_; intro v1 w1 ho1 hg1 hat1; have HO1 := Lib.hid ho1; have HX1 := Lib.hid (HO.out.ext_app HX.out hg1); clear ho1 hg1 hat1)
          go_roundw
          case rel => exact ⟨HX1.out, .inr (.inr ⟨rfl, HO1.out⟩)⟩
          case measure => simp [intOf]
        · have HO := Lib.hid ho
          clear ho
          go_wp2_with fail
          go_ret
          exact ⟨_, rfl, HO.out, HX.out⟩

end Go.Proofs.Ytmndkbheehcoaaa
/- The program's key of bytes: the parts. No condition. -/
namespace Go.Proofs.Ytmndkbheehcoaaa
open Go.RowKit
set_option linter.unusedVariables false
set_option linter.unusedSimpArgs false

set_option maxHeartbeats 1000000 in
set_option maxRecDepth 100000 in
theorem appendLittle_any (v : Value) (ys : List Int) (n : Int) (c : Nat) (w w0 : World) (h : Own tByte 5 w w0.heap.size v ys) (hx : Ext w0 w) (hn : 0 ≤ n ∧ n ≤ 18446744073709551615) (hc : c ≤ 8) (hl : ys.length ≤ 70368744177664) :
    Calls Try.prog 168 #[v, .int .u64 n, .int .i64 c] w fun e w' => ∃ v', e = .returned v' ∧ Own tByte 5 w' w0.heap.size v' (ys ++ bytesLE n c) ∧ Ext w0 w' := by
  obtain ⟨B, bn, bc, rfl⟩ := h.shape3
  have HO := Lib.hid h
  have HX := Lib.hid hx
  clear h hx
  go_enter Try.func168, Try.ntmps168
  go_wp2_with fail
  go_loopw [0, 9] (fun o i wr => ∃ k : Nat, k ≤ c ∧ i = .int .i64 k ∧ Own tByte 5 wr w0.heap.size o (ys ++ bytesLE n k) ∧ Ext w0 wr) (fun _ i _ => c - (intOf i).toNat)
  case atStart => exact ⟨0, by omega, rfl, by rw [bytesLE_zero, List.append_nil]; exact HO.out, HX.out⟩
  case round =>
    clear HO HX
    obtain ⟨k, hk, rfl, ho, hx⟩ := hrel
    have HO := Lib.hid ho
    have HX := Lib.hid hx
    obtain ⟨C, cn, cc, rfl⟩ := ho.shape3
    clear ho hx
    by_cases hlt : k < c
    · have hs2 := bytesLE_succ n k
      rw [pow256] at hs2
      have HS2 := Lib.hid hs2
      clear hs2
      go_wp2_with (at_builtin; refine wpl_append rowByte rfl _ _ rfl (v := .slice C cn cc) rfl (HO.out.alloc _) _ _ rfl (A := some ⟨wr.heap.size, 0, none⟩) (ys := [n / 2 ^ (8 * k) % 256]) rfl (rd_byte wr (n / 2 ^ (8 * k) % 256) (by omega) _) (okOne (by omega)) (by simp [bytesLE_length]; omega) (HX.out.alloc _).size ?_; intro v9 w9 ho1 hg1 hat1; have HX9 := Lib.hid ((HO.out.alloc _).ext_app (HX.out.alloc _) hg1); have HO9 := Lib.hid ho1; clear ho1 hg1 hat1)
      go_roundw
      case rel => exact ⟨k + 1, by omega, by go_num, by rw [HS2.out, ← List.append_assoc]; exact HO9.out, HX9.out⟩
      case measure => simp [intOf]; omega
    · obtain rfl : k = c := by omega
      go_wp2_with fail
      go_ret
      exact ⟨_, rfl, HO.out, HX.out⟩

end Go.Proofs.Ytmndkbheehcoaaa
/- The program's key of bytes: what stands behind the bytes. No condition. -/
namespace Go.Proofs.Ytmndkbheehcoaaa
open Go.RowKit
set_option linter.unusedVariables false
set_option linter.unusedSimpArgs false

/-- a literal's cells, written one by one -/
theorem fold_fill_at (l : List Value) (n : Nat) (Z : Array Value) (h : Z.size = n + l.length) : ((l.zipIdx n).foldl (fun cs x => cs.setIfInBounds x.2 x.1) Z) = (Z.toList.take n ++ l).toArray := by
  induction l generalizing n Z with
  | nil =>
    have : n = Z.toList.length := by simpa using h.symm
    rw [this, List.take_length]
    simp
  | cons a r ih =>
    have hn : n < Z.size := by rw [h]; simp
    simp only [List.zipIdx_cons, List.foldl_cons]
    rw [ih (n + 1) _ (by simp at h ⊢; omega)]
    congr 1
    rw [Array.toList_setIfInBounds, List.take_succ_eq_append_getElem (by simpa using hn), List.getElem_set_self, List.take_set_of_le (Nat.le_refl _), List.append_assoc]
    rfl
theorem fold_fill (l : List Value) (Z : Array Value) (h : Z.size = l.length) : (l.zipIdx.foldl (fun cs x => cs.setIfInBounds x.2 x.1) Z) = l.toArray := by
  rw [fold_fill_at l 0 Z (by omega)]
  simp
set_option maxHeartbeats 1000000 in
set_option maxRecDepth 100000 in
theorem padding_any (n : Nat) (hn : n ≤ 70368744177664) (w : World) :
    Calls Try.prog 146 #[.int .i64 n] w fun e w' => ∃ v', e = .returned v' ∧ Own tByte 5 w' w.heap.size v' (padL n n) ∧ Ext w w' := by
  go_enter Try.func146, Try.ntmps146
  go_wp2_with fail
  go_loopw [3] (fun o wr => ∃ z : Nat, z ≤ padZ n ∧ Own tByte 5 wr w.heap.size o ([128] ++ List.replicate z 0) ∧ Ext w wr) (fun o _ => 40 - lenV o)
  case atStart => exact ⟨0, by omega, by rw [List.replicate_zero, List.append_nil]; exact Own.of_blk8 (Blk.new w _ _) (Nat.le_refl _) (by simp) (fun x hx => by simp at hx; omega), ext_alloc _ _⟩
  case round =>
    obtain ⟨z, hz, ho, hx⟩ := hrel
    have HX := Lib.hid hx
    have HO := Lib.hid ho
    obtain ⟨B, bn, bc, rfl⟩ := ho.shape3
    have hbn := ho.len
    simp only [List.length_append, List.length_cons, List.length_nil, List.length_replicate] at hbn
    clear hx ho
    have hp := padZ_eq n
    have hbl : (bn : Int) ≤ 100 := by omega
    have hz31 : z ≤ 31 := by omega
    by_cases hlt : z < padZ n
    · have hm : ¬ (((n : Int) + bn) % 32 = 24) := by omega
      have HP := Lib.hid hp
      have HN := Lib.hid hbn
      clear hp hbn
      go_wp2_with (first
        | (go_at_call 147; refine (sizeB_any _ _ _ _).mono ?_; rintro e w' ⟨rfl, rfl⟩)
        | (at_builtin; refine wpl_append rowByte rfl _ _ rfl (v := .slice B bn bc) rfl (HO.out.alloc _) _ _ rfl (A := some ⟨wr.heap.size, 0, none⟩) (ys := [0]) rfl (rd_byte wr 0 (by decide) _) (okOne (by decide)) (by simp; omega) (HX.out.alloc _).size ?_; intro v9 w9 ho1 hg1 hat1; have HX9 := Lib.hid ((HO.out.alloc _).ext_app (HX.out.alloc _) hg1); have HO9 := Lib.hid ho1; clear ho1 hg1 hat1))
      go_roundw
      case rel => exact ⟨z + 1, by omega, by rw [List.replicate_succ', ← List.append_assoc]; exact HO9.out, HX9.out⟩
      case measure =>
        have h1 := HO9.out.shape
        obtain ⟨_, _, rfl⟩ := h1
        have := HN.out
        have := HP.out
        simp [lenV]
        omega
    · have hm : ((n : Int) + bn) % 32 = 24 := by omega
      obtain rfl : z = padZ n := by omega
      have HP := Lib.hid hp
      have HN := Lib.hid hbn
      clear hp hbn
      go_wp2_with (first
        | (go_at_call 147; refine (sizeB_any _ _ _ _).mono ?_; rintro e w' ⟨rfl, rfl⟩)
        | (go_at_call 168; refine (appendLittle_any _ _ n 8 _ w HO.out HX.out (by omega) (by omega) (by simp; omega)).mono ?_; rintro e w9 ⟨v9, rfl, ho9, hx9⟩))
      go_ret
      exact ⟨_, rfl, by rw [padL_eq]; exact ho9, hx9⟩

set_option maxHeartbeats 1000000 in
set_option maxRecDepth 100000 in
theorem blocks_any (v : Value) (al : List Int) (m : Nat) (w : World) (S : Nat → Prop) (h : RdL tByte w S v al) (hm : al.length = 32 * m) (hl : al.length ≤ 140737488355) :
    Calls Try.prog 144 #[v] w fun e w' => ∃ v' u, e = .returned (.tuple #[v', u]) ∧ Own tKey 26 w' w.heap.size v' (blocksL al m) ∧ Ext w w' := by
  obtain ⟨A, cap, rfl, hcap, hlen, hrd, hok⟩ := h
  have Hrd := Lib.hid (show Rd w S 1 A al.length (nums .u8 al) by rw [← flat_bytes]; exact hrd)
  have Hok := Lib.hid (show B8 al from hok)
  clear hrd hok
  have rowBlk : Row Try.prog tKey 168 26 32 := Row.mk' (by kernel_rfl) (.agg #[.int .u8 0, .int .u8 0, .int .u8 0, .int .u8 0, .int .u8 0, .int .u8 0, .int .u8 0, .int .u8 0, .int .u8 0, .int .u8 0, .int .u8 0, .int .u8 0, .int .u8 0, .int .u8 0, .int .u8 0, .int .u8 0, .int .u8 0, .int .u8 0, .int .u8 0, .int .u8 0, .int .u8 0, .int .u8 0, .int .u8 0, .int .u8 0, .int .u8 0, .int .u8 0, .int .u8 0, .int .u8 0, .int .u8 0, .int .u8 0, .int .u8 0, .int .u8 0]) (by kernel_rfl) rfl (by decide) (by decide)
  have HR := Lib.hid rowBlk
  clear rowBlk
  go_enter Try.func144, Try.ntmps144
  go_wp2_with fail
  go_loopw [0, 4] (fun d o wr => ∃ (k : Nat) (A1 : Option Addr) (c1 : Nat), k ≤ m ∧ d = .slice A1 (al.drop (32 * k)).length c1 ∧ (al.drop (32 * k)).length ≤ c1 ∧ Rd w S 1 A1 (al.drop (32 * k)).length (nums .u8 (al.drop (32 * k))) ∧ Own tKey 26 wr w.heap.size o (blocksL al k) ∧ Ext w wr) (fun d _ _ => lenV d)
  case atStart => exact ⟨0, A, cap, by omega, rfl, hcap, Hrd.out, Own.empty _ _ _ _ (Nat.le_refl _), ext_alloc _ _⟩
  case round =>
    obtain ⟨k, A1, c1, hk, rfl, hc1, hr, ho, hx⟩ := hrel
    have HX := Lib.hid hx
    have HO := Lib.hid ho
    have HR1 := Lib.hid hr
    obtain ⟨B, bn, bc, rfl⟩ := ho.shape3
    clear hx ho hr
    have hdl : (al.drop (32 * k)).length = 32 * (m - k) := by rw [List.length_drop]; omega
    rw [hdl] at HR1 hc1 ⊢
    by_cases hlt : k < m
    · obtain ⟨n, hn⟩ : ∃ n, n = 32 * (m - k) := ⟨_, rfl⟩
      rw [← hn] at HR1 hc1 ⊢
      have hn32 : 32 ≤ n := by omega
      obtain ⟨g, o, rfl, hs, hcell⟩ := HR1.out.2 (by omega)
      have hK := blockL_ok al k Hok.out (by omega)
      have hbl : (blockL al k).length = 32 := hK.1
      have hck : ∀ j u, (nums .u8 (blockL al k))[j]? = some u → wr.cell? ((⟨g, o, none⟩ : Addr).add j) = some u := by
        intro j u hu
        rw [Addr.add_lit]
        refine HX.out.cell (hcell j u ?_)
        have hj : j < 32 := by
          have := (List.getElem?_eq_some_iff.1 hu).1
          rw [nums_length, hbl] at this
          exact this
        rw [blockL_eq] at hu
        rw [← hu]
        simp [nums, List.getElem?_take, hj]
      have HCK := Lib.hid hck
      have HCut := Lib.hid (HR1.out.cut8 32 c1 hn32 hc1)
      have HBS := Lib.hid (blocksL_succ al k)
      have hle : (blocksL al k).length = k := by simp [blocksL]
      generalize blockL al k = blk at *
      have HN := Lib.hid hn
      have HDL := Lib.hid hdl
      have HK := Lib.hid hK
      have HLE := Lib.hid hle
      clear hn hdl hcell hck hK hle
      have hnl : (nums .u8 blk).length = 32 := by rw [nums_length, hbl]
      have hge : (32 : Int) ≤ (n : Int) := by omega
      have W7 : ¬ n < 32 := by omega
      have harr : (Instr.arrayAt 26 (.slice (some ⟨g, o, none⟩) n c1)).run Try.prog wr = .ok (.pointer (some ⟨g, o, none⟩)) wr := by
        simp [Instr.arrayAt, run_underlying (show Try.prog.underlying 26 = some (.array 32 5) by kernel_rfl), W7]
      go_wp2_with (first
        | (refine wpl_load ⟨g, o, none⟩ (nums .u8 blk) (by rw [nums_length, hbl]; exact aggB32) rfl _ rfl rfl HCK.out ?_)
        | (at_builtin; rw [fold_fill (nums .u8 blk) _ (by rw [hnl]; rfl)]; refine wpl_append HR.out rfl _ _ rfl (v := .slice B bn bc) rfl (HO.out.alloc _) _ _ rfl (A := some ⟨wr.heap.size, 0, none⟩) (ys := [blk]) rfl (rd_one (T := tKey) wr blk HK.out _) (by intro y hy; obtain rfl := List.mem_singleton.1 hy; exact HK.out) (by rw [HLE.out]; simp; omega) (HX.out.alloc _).size ?_; intro v9 w9 ho1 hg1 hat1; have HX9 := Lib.hid ((HO.out.alloc _).ext_app (HX.out.alloc _) hg1); have HO9 := Lib.hid ho1; clear ho1 hg1 hat1))
      go_roundw
      case rel =>
        have hcut := HCut.out
        rw [List.drop_drop, show 32 * k + 32 = 32 * (k + 1) by omega] at hcut
        have hl2 : (al.drop (32 * (k + 1))).length = n - 32 := by rw [List.length_drop]; have := HN.out; omega
        refine ⟨k + 1, _, c1 - 32, by omega, ?_, by omega, hcut, by rw [HBS.out]; exact HO9.out, HX9.out⟩
        rw [hl2]
      case measure => simp [lenV]; omega
    · obtain rfl : k = m := by omega
      rw [Nat.sub_self, Nat.mul_zero] at HR1 hc1 ⊢
      go_wp2_with fail
      go_ret2
      exact ⟨_, _, rfl, HO.out, HX.out⟩

end Go.Proofs.Ytmndkbheehcoaaa
/- The program's key of bytes: the blocks mixed in. No condition. -/
namespace Go.Proofs.Ytmndkbheehcoaaa
open Go.RowKit
set_option linter.unusedVariables false
set_option linter.unusedSimpArgs false

set_option maxHeartbeats 1000000 in
set_option maxRecDepth 100000 in
theorem mixed_any (st : List Int) (hs8 : st.length = 8) (hu : U32 st) (v : Value) (al : List Int) (m : Nat) (w : World) (S : Nat → Prop) (h : RdL tKey w S v (blocksL al m)) :
    Calls Try.prog 149 #[.agg (numsA .u32 st), v] w fun e w' => e = .returned (.agg (numsA .u32 (mixN al st m))) ∧ Ext w w' := by
  obtain ⟨A, cap, rfl, hcap, hlen, hrd, hok⟩ := h
  have HEL := Lib.hid (fun k (hk : k < (blocksL al m).length) => hrd.elem hok k hk)
  have HOK := Lib.hid hok
  have HS8 := Lib.hid hs8
  have HU := Lib.hid hu
  have hbl : (blocksL al m).length = m := by simp [blocksL]
  have HBL := Lib.hid (show ∀ k, (h : k < (blocksL al m).length) → (blocksL al m)[k] = blockL al k from fun k h => by simp [blocksL])
  have HBM := Lib.hid hbl
  rw [hbl] at hcap hlen ⊢
  clear hrd hok hs8 hu
  go_enter Try.func149, Try.ntmps149
  go_wp2_with fail
  go_loopw [9] (fun q wr => ∃ (k : Nat) (z : Array Value), k ≤ m ∧ q = .int .i64 k ∧ z.size = 8 ∧ Blk wr w.heap.size 176 (numsA .u32 (mixN al st k)) ∧ Blk wr (w.heap.size + 1) 176 z ∧ Ext w wr) (fun q _ => m - (intOf q).toNat)
  case atStart => exact ⟨0, _, by omega, rfl, rfl, by rw [mixN_zero]; exact (Blk.new w _ _).alloc _, Blk.new' (by simp) _ _, (ext_alloc _ _).alloc _⟩
  case round =>
    obtain ⟨k, z, hk, rfl, hz, hb0, hb1, hx⟩ := hrel
    have HX := Lib.hid hx
    have HB0 := Lib.hid hb0
    have HB1 := Lib.hid hb1
    clear hx hb0 hb1
    by_cases hlt : k < m
    · obtain ⟨g, o, rfl, hs, hc⟩ := HEL.out k (by rw [HBM.out]; exact hlt)
      have hK := HOK.out _ (List.getElem_mem (l := blocksL al m) (n := k) (by rw [HBM.out]; exact hlt))
      rw [HBL.out] at hc hK
      have hbl : (blockL al k).length = 32 := hK.1
      have hck : ∀ j u, (nums .u8 (blockL al k))[j]? = some u → wr.cell? ((⟨g, o + k * 32, none⟩ : Addr).add j) = some u := by
        intro j u hu
        rw [Addr.add_lit]
        exact HX.out.cell (hc j u hu)
      have HCK := Lib.hid hck
      have HK := Lib.hid (show K32 (blockL al k) from hK)
      have hs := mixN_length al st k HS8.out
      have hu := mixN_ok al st k HU.out
      have HN := Lib.hid (mixN_succ al st k)
      have lt1 := HB1.out.lt
      generalize mixN al st k = s at *
      generalize blockL al k = blk at *
      have hb0 := (HB0.out.alloc (.cells #[Value.int .u8 0, Value.int .u8 0, Value.int .u8 0, Value.int .u8 0, Value.int .u8 0, Value.int .u8 0, Value.int .u8 0, Value.int .u8 0, Value.int .u8 0, Value.int .u8 0, Value.int .u8 0, Value.int .u8 0, Value.int .u8 0, Value.int .u8 0, Value.int .u8 0, Value.int .u8 0, Value.int .u8 0, Value.int .u8 0, Value.int .u8 0, Value.int .u8 0, Value.int .u8 0, Value.int .u8 0, Value.int .u8 0, Value.int .u8 0, Value.int .u8 0, Value.int .u8 0, Value.int .u8 0, Value.int .u8 0, Value.int .u8 0, Value.int .u8 0, Value.int .u8 0, Value.int .u8 0] 26)).row_far (by omega : w.heap.size ≠ wr.heap.size) (numsA .u8 blk)
      have hb1 := (HB1.out.alloc (.cells #[Value.int .u8 0, Value.int .u8 0, Value.int .u8 0, Value.int .u8 0, Value.int .u8 0, Value.int .u8 0, Value.int .u8 0, Value.int .u8 0, Value.int .u8 0, Value.int .u8 0, Value.int .u8 0, Value.int .u8 0, Value.int .u8 0, Value.int .u8 0, Value.int .u8 0, Value.int .u8 0, Value.int .u8 0, Value.int .u8 0, Value.int .u8 0, Value.int .u8 0, Value.int .u8 0, Value.int .u8 0, Value.int .u8 0, Value.int .u8 0, Value.int .u8 0, Value.int .u8 0, Value.int .u8 0, Value.int .u8 0, Value.int .u8 0, Value.int .u8 0, Value.int .u8 0, Value.int .u8 0] 26)).row_far (by omega : w.heap.size + 1 ≠ wr.heap.size) (numsA .u8 blk)
      have hb2 := (Blk.new wr 26 #[Value.int .u8 0, Value.int .u8 0, Value.int .u8 0, Value.int .u8 0, Value.int .u8 0, Value.int .u8 0, Value.int .u8 0, Value.int .u8 0, Value.int .u8 0, Value.int .u8 0, Value.int .u8 0, Value.int .u8 0, Value.int .u8 0, Value.int .u8 0, Value.int .u8 0, Value.int .u8 0, Value.int .u8 0, Value.int .u8 0, Value.int .u8 0, Value.int .u8 0, Value.int .u8 0, Value.int .u8 0, Value.int .u8 0, Value.int .u8 0, Value.int .u8 0, Value.int .u8 0, Value.int .u8 0, Value.int .u8 0, Value.int .u8 0, Value.int .u8 0, Value.int .u8 0, Value.int .u8 0]).setRow (numsA .u8 blk)
      have hx0 := (HX.out.alloc (.cells #[Value.int .u8 0, Value.int .u8 0, Value.int .u8 0, Value.int .u8 0, Value.int .u8 0, Value.int .u8 0, Value.int .u8 0, Value.int .u8 0, Value.int .u8 0, Value.int .u8 0, Value.int .u8 0, Value.int .u8 0, Value.int .u8 0, Value.int .u8 0, Value.int .u8 0, Value.int .u8 0, Value.int .u8 0, Value.int .u8 0, Value.int .u8 0, Value.int .u8 0, Value.int .u8 0, Value.int .u8 0, Value.int .u8 0, Value.int .u8 0, Value.int .u8 0, Value.int .u8 0, Value.int .u8 0, Value.int .u8 0, Value.int .u8 0, Value.int .u8 0, Value.int .u8 0, Value.int .u8 0] 26)).setRow HX.out.size (numsA .u8 blk)
      have G0 := Lib.hid hb0
      have G1 := Lib.hid hb1
      have G2 := Lib.hid hb2
      have GX := Lib.hid hx0
      have HM := Lib.hid (fun W => mixBlock_any s blk hs hu HK.out W)
      have HSS := Lib.hid hs
      clear hc hck hK hb0 hb1 hb2 hx0 hu hs
      go_wp2_with (first
        | (refine wpl_load ⟨g, o + k * 32, none⟩ (nums .u8 blk) (by rw [nums_length, hbl]; exact aggB32) rfl _ rfl rfl HCK.out ?_)
        | (refine wpl_storeN (k := .u8) (xs := blk) (Blk.new wr _ _) aggB32 hbl rfl rfl _ _ rfl rfl rfl rfl ?_)
        | (refine wpl_loadN G0.out aggU32 HSS.out rfl _ rfl rfl ?_)
        | (refine wpl_loadN G2.out aggB32 hbl rfl _ rfl rfl ?_))
      refine (HM.out _).mono ?_
      rintro e w4 ⟨rfl, hx4⟩
      have F0 := Lib.hid (G0.out.ext hx4)
      have F1 := Lib.hid (G1.out.ext hx4)
      have FX := Lib.hid (GX.out.trans hx4)
      have hml := mixL_length s blk HSS.out
      clear hx4
      go_wp2_with (refine wpl_storeN (k := .u32) (xs := mixL s blk) F0.out aggU32 hml (by rw [numsA_size]; exact HSS.out) rfl _ _ rfl rfl rfl rfl ?_)
      go_roundw
      case rel => exact ⟨k + 1, z, by omega, by go_num, hz, by rw [HN.out]; exact F0.out.setRow _, F1.out.row_far (by omega) _, FX.out.setRow (Nat.le_refl _) _⟩
      case measure => simp [intOf]; omega
    · obtain rfl : k = m := by omega
      have hs := mixN_length al st k HS8.out
      go_wp2_with (first
        | (refine wpl_loadN HB0.out aggU32 hs rfl _ rfl rfl ?_)
        | (refine wpl_storeN HB1.out aggU32 hs hz rfl _ _ rfl rfl rfl rfl ?_))
      refine bodyPost_ret (results_blk rfl _ rfl aggU32 hs (HB1.out.setRow _)) rfl ?_
      exact ⟨rfl, HX.out.setRow (by omega) _⟩

end Go.Proofs.Ytmndkbheehcoaaa
/- The program's key of bytes: the key of a state. No condition. -/
namespace Go.Proofs.Ytmndkbheehcoaaa
open Go.RowKit
set_option linter.unusedVariables false
set_option linter.unusedSimpArgs false

theorem stp_copy {P : Program} {dT sT elem : TypeId} {ops : Array Oper} {o : Oper} {a : Act} {w : World} {K : Act → World → Prop} {Q : Exit → Act → World → Prop} {E : Prop} (hgd : o.guard = none) (d x : Operand)
    (hop : o.op = .call { callee := .builtin .copy, args := #[d, x], argTypes := #[dT, sT] }) (g off dLen dCap : Nat) (A : Addr) (n c : Nat) {cur : Array Value} {t : TypeId} (cs : List Value)
    (hd : a.eval d = .slice (some ⟨g, off, none⟩) dLen dCap) (hx : a.eval x = .slice (some A) n c) (hu : P.underlying dT = some (.slice elem)) (hs : (P.info? elem).map (·.size) = some 1)
    (hg : Blk w g t cur) (hn : cs.length = Nat.min n dLen) (hsrc : ∀ j v, cs[j]? = some v → w.cell? (A.add j) = some v) (hfit : off + cs.length ≤ cur.size) (h1 : ∀ v ∈ cs, v.oneCell' = true)
    (h : K (a.put o.dst (goInt cs.length)) (w.setRow g (splice cur off cs))) :
    if Region.wanted o (yielded ops a.tmps) = true then Oper.wp P o a w K Q else E := by
  have hrun := run_copy_row (P := P) w dT sT o.type elem g off dLen dCap A n c cur t cs hu hs hg hn hsrc hfit h1
  have hw : Region.wanted o (yielded ops a.tmps) = true := by simp [Region.wanted, hgd]
  rw [if_pos hw]
  unfold Oper.wp execOp
  simp only [hop, resolve, invoke, builtin, Sem.run_bind, Sem.run_pure, Result.andThen_ok, List.map_toArray, List.map_cons, List.map_nil, hd, hx, hrun]
  exact h
theorem keyL_word (s : List Int) (k : Nat) (h : k < 8) : bytesLE (gI s k) 4 = ((keyL s).drop (4 * k)).take 4 := by
  apply List.ext_getElem
  · rw [bytesLE_length, List.length_take, List.length_drop, keyL_length]; omega
  · intro j h1 h2
    rw [bytesLE_length] at h1
    have e := keyL_at s (4 * k + j) (by omega)
    rw [gI_lt (by rw [keyL_length]; omega), show (4 * k + j) / 4 = k by omega, show (4 * k + j) % 4 = j by omega] at e
    simp only [List.getElem_take, List.getElem_drop, e]
    simp only [bytesLE, List.getElem_map, List.getElem_range, pow256]
theorem keyL_splice (s : List Int) (k : Nat) (h : k < 8) : splice (numsA .u8 ((keyL s).take (4 * k) ++ List.replicate (32 - 4 * k) 0)) (4 * k) (nums .u8 (bytesLE (gI s k) 4)) = numsA .u8 ((keyL s).take (4 * (k + 1)) ++ List.replicate (32 - 4 * (k + 1)) 0) := by
  have hl := keyL_length s
  have h1 : ((keyL s).take (4 * k)).length = 4 * k := by rw [List.length_take]; omega
  have hd : ((keyL s).take (4 * k)).drop (4 * k + 4) = [] := List.drop_eq_nil_of_le (by omega)
  unfold splice numsA
  congr 1
  rw [nums_length, bytesLE_length, keyL_word s k h]
  simp only [nums, ← List.map_take, ← List.map_drop, ← List.map_append]
  congr 1
  rw [List.take_left' h1, List.drop_append, hd, List.nil_append, h1, List.drop_replicate, show 4 * (k + 1) = 4 * k + 4 by omega, List.take_add, show 32 - 4 * k - (4 * k + 4 - 4 * k) = 32 - (4 * k + 4) by omega]
set_option maxHeartbeats 1000000 in
set_option maxRecDepth 100000 in
theorem keyOf_any (s : List Int) (hs8 : s.length = 8) (hu : U32 s) (w : World) :
    Calls Try.prog 148 #[.agg (numsA .u32 s)] w fun e w' => e = .returned (.agg (numsA .u8 (keyL s))) ∧ Ext w w' := by
  have HS8 := Lib.hid hs8
  have HU := Lib.hid hu
  have hkl := keyL_length s
  have HKL := Lib.hid hkl
  clear hkl hu
  go_enter Try.func148, Try.ntmps148
  go_wp2_with (first
    | (refine wpl_storeN (k := .u8) (xs := List.replicate 32 0) (Blk.new' (g := w.heap.size + 2) (by simp) _ _) aggKey (by simp) rfl rfl _ _ rfl rfl rfl rfl ?_)
    | (refine wpl_loadN (Blk.row_far (g := w.heap.size) (((Blk.new w _ _).alloc _).alloc _) (by omega) _) aggU32 hs8 rfl _ rfl rfl ?_))
  have HB1 := Lib.hid ((((Blk.new' (g := w.heap.size + 1) (by simp) 27 #[Value.int .u8 0, Value.int .u8 0, Value.int .u8 0, Value.int .u8 0, Value.int .u8 0, Value.int .u8 0, Value.int .u8 0, Value.int .u8 0, Value.int .u8 0, Value.int .u8 0, Value.int .u8 0, Value.int .u8 0, Value.int .u8 0, Value.int .u8 0, Value.int .u8 0, Value.int .u8 0, Value.int .u8 0, Value.int .u8 0, Value.int .u8 0, Value.int .u8 0, Value.int .u8 0, Value.int .u8 0, Value.int .u8 0, Value.int .u8 0, Value.int .u8 0, Value.int .u8 0, Value.int .u8 0, Value.int .u8 0, Value.int .u8 0, Value.int .u8 0, Value.int .u8 0, Value.int .u8 0] : Blk ((w.alloc (.cells (numsA .u32 s) 176)).alloc _) _ _ _).alloc (.cells #[Value.int .u8 0, Value.int .u8 0, Value.int .u8 0, Value.int .u8 0, Value.int .u8 0, Value.int .u8 0, Value.int .u8 0, Value.int .u8 0, Value.int .u8 0, Value.int .u8 0, Value.int .u8 0, Value.int .u8 0, Value.int .u8 0, Value.int .u8 0, Value.int .u8 0, Value.int .u8 0, Value.int .u8 0, Value.int .u8 0, Value.int .u8 0, Value.int .u8 0, Value.int .u8 0, Value.int .u8 0, Value.int .u8 0, Value.int .u8 0, Value.int .u8 0, Value.int .u8 0, Value.int .u8 0, Value.int .u8 0, Value.int .u8 0, Value.int .u8 0, Value.int .u8 0, Value.int .u8 0] 27))).row_far (by omega : w.heap.size + 1 ≠ w.heap.size + 2) (numsA .u8 (List.replicate 32 0)))
  go_loopw [8] (fun q wr => ∃ (k : Nat) (z : Array Value), k ≤ 8 ∧ q = .int .i64 k ∧ z.size = 32 ∧ Blk wr (w.heap.size + 1) 27 z ∧ Blk wr (w.heap.size + 2) 27 (numsA .u8 ((keyL s).take (4 * k) ++ List.replicate (32 - 4 * k) 0)) ∧ Ext w wr) (fun q _ => 8 - (intOf q).toNat)
  case atStart => exact ⟨0, _, by omega, rfl, rfl, HB1.out, by rw [Nat.mul_zero, List.take_zero, List.nil_append, Nat.sub_zero]; exact (Blk.new' (by simp) _ _).setRow _, (((ext_alloc _ _).alloc _).alloc _).setRow (by omega) _⟩
  case round =>
    clear HB1
    obtain ⟨k, z, hk, rfl, hz, hb1, hb2, hx⟩ := hrel
    have HX := Lib.hid hx
    have HB1 := Lib.hid hb1
    have HB2 := Lib.hid hb2
    clear hx hb1 hb2
    by_cases hlt : k < 8
    · have hat := numsA_at .u32 s k (by rw [hs8]; exact hlt)
      have hu := HU.out.get k
      have hz0 : (0 : Int) ≤ (k : Int) := by omega
      have hk8 : (k : Int) < 8 := by omega
      have hidx : (Instr.index 176 (.agg (numsA .u32 s)) (.int .i64 k)).run Try.prog wr = .ok (.int .u32 (gI s k)) wr := by
        have h1 : (isAgg 175).run Try.prog wr = .ok false wr := by kernel_rfl
        have h2 : (sizeOf 175).run Try.prog wr = .ok 1 wr := by kernel_rfl
        simp [Instr.index, asIntOf, run_underlying (show Try.prog.underlying 176 = some (.array 8 175) by kernel_rfl), hk8, hlt, part, h1, h2, hat]
      have HSP := Lib.hid (keyL_splice s k hlt)
      have hcur : (numsA .u8 ((keyL s).take (4 * k) ++ List.replicate (32 - 4 * k) 0)).size = 32 := by
        rw [numsA_size, List.length_append, List.length_replicate, List.length_take, HKL.out]; omega
      generalize numsA .u8 ((keyL s).take (4 * k) ++ List.replicate (32 - 4 * k) 0) = cur at *
      have hbl := bytesLE_length (gI s k) 4
      have hal : ∀ W, Calls Try.prog 168 #[.slice none 0 0, .int .u64 (gI s k), .int .i64 4] W fun e w' => ∃ v', e = .returned v' ∧ Own tByte 5 w' W.heap.size v' (bytesLE (gI s k) 4) ∧ Ext W w' := by
        intro W
        have := appendLittle_any (.slice none 0 0) [] (gI s k) 4 W W (Own.nil _ _ _ _) (Ext.refl _) (by omega) (by decide) (by simp)
        rw [List.nil_append] at this
        exact this
      generalize bytesLE (gI s k) 4 = bs at *
      have HAL := Lib.hid hal
      have W1 : IntKind.i64.wrap (4 * (k : Int)) = 4 * k := IntWalk.i64_in _ (by omega)
      have W2 : (4 * (k : Int)).toNat = 4 * k := by omega
      have W3 : ¬ 32 = 4 * k := by omega
      have W6 : IntKind.u64.wrap (gI s k) = gI s k := wraps_u64 _ (by omega) (by omega)
      have W4 : (0 : Int) ≤ 4 * k := by omega
      have W5 : 4 * (k : Int) ≤ 32 := by omega
      have HBL := Lib.hid hbl
      clear hal hbl
      have r1 := (Ext.refl wr).drew
      go_wp2_with fail
      go_region_law (first
        | (go_simp; go_at_call 168; refine (HAL.out _).mono ?_; rintro e p1 ⟨v1, rfl, ho1, hx1⟩; obtain ⟨g1, bc1, rfl, hb1, hlt1, hcc1, hf1, hs1⟩ := ho1.byte 0 (by rw [HBL.out]; decide); clear hcc1 hf1 hs1; have HCL := Lib.hid (fun j v (hj : (nums .u8 bs)[j]? = some v) => ho1.1.cells (g := g1) rfl j v (by rw [flat_bytes]; exact hj)); have HX1 := Lib.hid hx1; clear ho1 hx1)
        | (refine stp_copy (dT := 56) (sT := 56) (elem := 5) rfl (.tmp 14) (.tmp 17) rfl (w.heap.size + 1 + 1) (4 * k) (32 - 4 * k) (32 - 4 * k) ⟨g1, 0, none⟩ bs.length bc1 (cur := cur) (t := 27) (nums .u8 bs) rfl rfl rowByte.ht (by kernel_rfl) ((HB2.out.drewN 1).ext HX1.out) (by rw [nums_length, HBL.out]; exact (Nat.min_eq_left (by omega)).symm) HCL.out (by rw [nums_length, HBL.out, hcur]; omega) (one_nums _ _) ?_))
      all_goals
        (try simp only [Act.put, List.setIfInBounds_toArray, List.set_cons_zero, List.set_cons_succ, List.getElem_cons_zero, List.getElem_cons_succ, List.getElem_toArray])
        go_wp2_with fail
        go_roundw
        case rel => exact ⟨k + 1, z, by omega, by go_num, hz, ((HB1.out.drewN 1).ext HX1.out).row_far (by omega) _, by rw [← HSP.out]; exact ((HB2.out.drewN 1).ext HX1.out).setRow _, ((HX.out.drew).trans HX1.out).setRow (by omega) _⟩
        case measure => simp [intOf]; omega
    · obtain rfl : k = 8 := by omega
      have hb := HB2.out
      rw [Nat.sub_self, List.replicate_zero, List.append_nil, List.take_of_length_le (by rw [HKL.out]; decide)] at hb
      have HB3 := Lib.hid hb
      clear hb
      go_wp2_with (first
        | (refine wpl_loadN HB3.out aggKey HKL.out rfl _ rfl rfl ?_)
        | (refine wpl_storeN HB1.out aggKey HKL.out hz rfl _ _ rfl rfl rfl rfl ?_))
      refine bodyPost_ret (results_blk rfl _ rfl aggKey HKL.out (HB1.out.setRow _)) rfl ?_
      exact ⟨rfl, HX.out.setRow (by omega) _⟩

end Go.Proofs.Ytmndkbheehcoaaa
/- The program's key of bytes. No condition. -/
namespace Go.Proofs.Ytmndkbheehcoaaa
open Go.RowKit
set_option linter.unusedVariables false
set_option linter.unusedSimpArgs false

set_option maxHeartbeats 1000000 in
set_option maxRecDepth 100000 in
theorem hash_any (tag : Int) (ht : 0 ≤ tag ∧ tag ≤ 255) (v : Value) (xs : List Int) (w : World) (S : Nat → Prop) (h : RdL tByte w S v xs) (hl : xs.length ≤ 140737488000) :
    Calls Try.prog 104 #[.int .u8 tag, v] w fun e w' => e = .returned (.agg (numsA .u8 (hashL tag xs))) ∧ Ext w w' := by
  have H := Lib.hid h
  obtain ⟨A, cap, rfl, hcap, hlen, hz1, hz2⟩ := h
  clear hz1 hz2
  go_enter Try.func104, Try.ntmps104
  go_wp2_with fail
  refine (sizeB_any _ _ _ _).mono ?_
  rintro e w' ⟨rfl, rfl⟩
  go_wp2_with fail
  refine (padding_any xs.length (by omega) _).mono ?_
  rintro e w1 ⟨v1, rfl, ho1, hx1⟩
  have HO1 := Lib.hid ho1
  have HX1 := Lib.hid hx1
  obtain ⟨B1, bn1, bc1, rfl⟩ := ho1.shape3
  clear ho1 hx1
  go_wp2_with fail
  have hcc := concat2_any w1.heap.size 0 _ _ xs (padL xs.length xs.length) (w1.alloc (.cells #[.slice A xs.length cap, .slice B1 bn1 bc1] 56)) S _ (H.out.ext (by decide) (((ext_alloc w _).trans HX1.out).alloc _)) (HO1.out.alloc _).rd (by rw [padL_length]; omega) (by rw [padL_length, padZ_eq]; omega) (by go_simp) (by go_simp)
  refine hcc.mono ?_
  clear hcc
  rintro e w2 ⟨v2, rfl, ho2, hx2⟩
  have HO2 := Lib.hid ho2
  have HX2 := Lib.hid (((ext_alloc w (.cells _ 27)).trans (HX1.out.alloc _)).trans hx2)
  have HB2 := Lib.hid (((Blk.new w 27 _).ext (HX1.out.alloc _)).ext hx2)
  obtain ⟨B2, bn2, bc2, rfl⟩ := ho2.shape3
  clear ho2 hx2 HX1 HO1
  have hlen2 : (xs ++ padL xs.length xs.length).length = xs.length + padZ xs.length + 9 := by rw [List.length_append, padL_length]; omega
  have hpz : padZ xs.length ≤ 31 := by rw [padZ_eq]; omega
  have hm0 := padded_mod xs.length
  have HE := Lib.hid (show hashL tag xs = keyL (mixN (xs ++ padL xs.length xs.length) (startL tag) ((xs.length + padZ xs.length + 9) / 32)) by rw [hashL, endL])
  obtain ⟨m, hm⟩ : ∃ m, xs.length + padZ xs.length + 9 = 32 * m := ⟨(xs.length + padZ xs.length + 9) / 32, by omega⟩
  rw [show (xs.length + padZ xs.length + 9) / 32 = m by omega] at HE
  have hal : (xs ++ padL xs.length xs.length).length = 32 * m := by omega
  have hal2 : (xs ++ padL xs.length xs.length).length ≤ 140737488355 := by omega
  clear hlen2 hpz hm0 hm
  generalize xs ++ padL xs.length xs.length = al at *
  go_wp2_with fail
  refine (blocks_any _ al m w2 _ HO2.out.rd hal hal2).mono ?_
  rintro e w3 ⟨v3, u3, rfl, ho3, hx3⟩
  have HO3 := Lib.hid ho3
  have HX3 := Lib.hid (HX2.out.trans hx3)
  have HB3 := Lib.hid (HB2.out.ext hx3)
  clear ho3 hx3 HX2 HB2 HO2
  go_wp2_with fail
  refine (startState_any tag ht _).mono ?_
  rintro e w4 ⟨rfl, hx4⟩
  have HX4 := Lib.hid (HX3.out.trans hx4)
  have HB4 := Lib.hid (HB3.out.ext hx4)
  have HO4 := Lib.hid (HO3.out.ext hx4)
  clear hx4 HX3 HB3 HO3
  go_wp2_with fail
  refine (mixed_any (startL tag) (startL_length tag) (startL_ok tag ht) v3 al m w4 _ HO4.out.rd).mono ?_
  rintro e w5 ⟨rfl, hx5⟩
  have HX5 := Lib.hid (HX4.out.trans hx5)
  have HB5 := Lib.hid (HB4.out.ext hx5)
  clear hx5 HX4 HB4 HO4
  go_wp2_with fail
  refine (keyOf_any (mixN al (startL tag) m) (mixN_length _ _ _ (startL_length tag)) (mixN_ok _ _ _ (startL_ok tag ht)) w5).mono ?_
  rintro e w6 ⟨rfl, hx6⟩
  have HX6 := Lib.hid (HX5.out.trans hx6)
  have HB6 := Lib.hid (HB5.out.ext hx6)
  clear hx6 HX5 HB5
  have hk := (hashL_ok tag xs).1
  rw [← HE.out]
  go_wp2_with (refine wpl_storeN HB6.out aggKey hk rfl rfl _ _ rfl rfl rfl rfl ?_)
  refine bodyPost_ret (results_blk rfl _ rfl aggKey hk (HB6.out.setRow _)) rfl ?_
  exact ⟨rfl, HX6.out.setRow (Nat.le_refl _) _⟩

end Go.Proofs.Ytmndkbheehcoaaa
