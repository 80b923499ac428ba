/- What the walk of the law FnExactFindCommit needs, part 3 of 5. No condition. -/
import Derived.BigFrame
import Derived.Test.YtnklgkmpcochfaaPFnExactFindCommit2
/- Which lists of entries are maps: the reference and the program. No condition. -/
namespace Go.Proofs.Ytnklgkmpcochfaa
open Go.RowKit
set_option linter.unusedVariables false
set_option linter.unusedSimpArgs false

def gE (L : List En) (i : Nat) : En := L.getD i (⟨#[]⟩, ⟨#[]⟩)
theorem gE_lt {L : List En} {i : Nat} (h : i < L.length) : gE L i = L[i] := by simp [gE, List.getD_eq_getElem?_getD, h]
def incC (L : List En) (i : Nat) : Bool := entB (gE L i).1 (gE L i).2 && (i == 0 || ltB (gE L (i - 1)).1 (gE L i).1)
/-- the first n are valid and in order -/
@[irreducible] def incs (L : List En) (n : Nat) : Bool := (List.range n).all (incC L)
theorem incs_zero (L : List En) : incs L 0 = true := by rw [incs]; rfl
theorem incs_succ (L : List En) (n : Nat) : incs L (n + 1) = (incs L n && incC L n) := by rw [incs, incs, List.range_succ, List.all_append]; simp
theorem incs_bad (L : List En) (k n : Nat) (h : k < n) (hb : incC L k = false) : incs L n = false := by
  rw [incs, List.all_eq_false]
  exact ⟨k, List.mem_range.2 h, by simp [hb]⟩
/-- a map -/
@[irreducible] def okE (L : List En) : Bool := incs L L.length && decide (L.length ≤ 64)
theorem okE_eq (L : List En) : okE L = (incs L L.length && decide (L.length ≤ 64)) := by rw [okE]
set_option maxHeartbeats 1000000 in
set_option maxRecDepth 100000 in
theorem l04Ok_any (v : Value) (L : List En) (w : World) (S : Nat → Prop) (h : RdL tEnt w S v L) :
    Calls Try.prog 104 #[v] w fun e w' => e = .returned (.bool (okE L)) ∧ Ext w w' := by
  obtain ⟨A, cap, rfl, hcap, hlen, hrd, hok⟩ := h
  have Hrd := Lib.hid hrd
  have Hok := Lib.hid hok
  have HE := Lib.hid (okE_eq L)
  have HZ := Lib.hid (incs_zero L)
  clear hrd hok
  go_enter Try.func104, Try.ntmps104
  go_wp2
  go_loopw [3] (fun i wr => ∃ k : Nat, k ≤ L.length ∧ i = .int .i64 k ∧ incs L k = true ∧ Ext w wr) (fun i _ => L.length - (intOf i).toNat)
  case atStart => exact ⟨0, by omega, rfl, HZ.out, Ext.refl _⟩
  case round =>
    obtain ⟨k, hk, rfl, hs, hx⟩ := hrel
    have HS := Lib.hid hs
    have HX := Lib.hid hx
    clear hs hx HZ
    by_cases hlt : k < L.length
    · obtain ⟨g, o, rfl, hs0, hc⟩ := Hrd.out.elem Hok.out k hlt
      have HO := Lib.hid (show tEnt.ok L[k] from Hok.out _ (List.getElem_mem hlt))
      have d0 : ∀ W, Ext wr W → W.cell? ⟨g, o + k * 2, none⟩ = some (.string L[k].1) := fun W hW => (HX.out.trans hW).cell (hc 0 _ rfl)
      have d0b : ∀ W, Ext wr W → W.cell? ⟨g, o + k * 2 + 1, none⟩ = some (.string L[k].2) := fun W hW => (HX.out.trans hW).cell (hc 1 _ rfl)
      have hen := fun W => l04Entry_any L[k].1 L[k].2 HO.out.1 HO.out.2 g (o + k * 2) W
      have HSN := Lib.hid (incs_succ L k)
      have HGk := Lib.hid (gE_lt hlt)
      have hi : (0 : Int) ≤ (k : Int) := by omega
      have hi2 : (k : Int) < (L.length : Int) := by omega
      clear hc
      cases hb : entB L[k].1 L[k].2 with
      | false =>
        have HB := Lib.hid (incs_bad L k L.length hlt (by rw [incC, HGk.out, hb]; rfl))
        simp only [hb] at hen
        clear hb
        go_wp2_with fail
        refine wp_region_held_drew (S := fun W => Ext wr W) (by kernel_rfl) (Ext.refl _).drew (fun hHeld => ?_)
        iterate 3
          refine tkD 0 (by simp only [List.size_toArray, List.length_cons, List.length_nil]; rfl) (by simp only [List.getElem?_toArray, List.getElem?_cons_zero, List.getElem?_cons_succ]; rfl) (by kernel_rfl) (by exact fun _ _ _ h => h) (by first | (exact Or.inl ⟨by rfl, by intro w hSw; (try dsimp only at hSw); go_simp; with_reducible rfl⟩) | (exact Or.inr ⟨by rfl, by rfl⟩)) (by assumption) ?_
          try simp only [Act.put, List.setIfInBounds_toArray, List.set_cons_zero, List.set_cons_succ]
        refine wpAnyH_ready (rs := [3]) (by kernel_rfl) (by simp) (AllReadyH.cons (o := ?oy43) ?hy43 (fun K hK => ?sy43) AllReadyH.nil)
        case hy43 => simp only [List.getElem?_toArray, List.getElem?_cons_zero, List.getElem?_cons_succ]; rfl
        go_simp
        refine (hen _ (d0 _ hHeld) (d0b _ hHeld)).mono ?_
        rintro e w' ⟨rfl, rfl⟩
        refine hK.out _ _ hHeld (fun _ => ?_)
        clear hK K
        try simp only [Act.put, List.setIfInBounds_toArray, List.set_cons_zero, List.set_cons_succ]
        iterate 2
          refine tkD 0 (by simp only [List.size_toArray, List.length_cons, List.length_nil]; rfl) (by simp only [List.getElem?_toArray, List.getElem?_cons_zero, List.getElem?_cons_succ]; rfl) (by kernel_rfl) (by exact fun _ _ _ h => h) (by first | (exact Or.inl ⟨by rfl, by intro w hSw; (try dsimp only at hSw); go_simp; with_reducible rfl⟩) | (exact Or.inr ⟨by rfl, by rfl⟩)) (by assumption) ?_
          try simp only [Act.put, List.setIfInBounds_toArray, List.set_cons_zero, List.set_cons_succ]
        refine tkI 6 (v := undef) (by simp only [List.getElem?_toArray, List.getElem?_cons_zero, List.getElem?_cons_succ]; rfl) (by kernel_rfl) (by exact fun _ _ _ h => h) (by exact Or.inr ⟨by rfl, rfl⟩) (by assumption) ?_
        try simp only [Act.put, List.setIfInBounds_toArray, List.set_cons_zero, List.set_cons_succ]
        refine tkI 7 (v := undef) (by simp only [List.getElem?_toArray, List.getElem?_cons_zero, List.getElem?_cons_succ]; rfl) (by kernel_rfl) (by exact fun _ _ _ h => h) (by exact Or.inr ⟨by rfl, rfl⟩) (by assumption) ?_
        try simp only [Act.put, List.setIfInBounds_toArray, List.set_cons_zero, List.set_cons_succ]
        refine tkI 8 (v := undef) (by simp only [List.getElem?_toArray, List.getElem?_cons_zero, List.getElem?_cons_succ]; rfl) (by kernel_rfl) (by exact fun _ _ _ h => h) (by exact Or.inr ⟨by rfl, rfl⟩) (by assumption) ?_
        try simp only [Act.put, List.setIfInBounds_toArray, List.set_cons_zero, List.set_cons_succ]
        refine tkI 9 (v := undef) (by simp only [List.getElem?_toArray, List.getElem?_cons_zero, List.getElem?_cons_succ]; rfl) (by kernel_rfl) (by exact fun _ _ _ h => h) (by exact Or.inr ⟨by rfl, rfl⟩) (by assumption) ?_
        try simp only [Act.put, List.setIfInBounds_toArray, List.set_cons_zero, List.set_cons_succ]
        refine tkI 10 (v := undef) (by simp only [List.getElem?_toArray, List.getElem?_cons_zero, List.getElem?_cons_succ]; rfl) (by kernel_rfl) (by exact fun _ _ _ h => h) (by exact Or.inr ⟨by rfl, rfl⟩) (by assumption) ?_
        try simp only [Act.put, List.setIfInBounds_toArray, List.set_cons_zero, List.set_cons_succ]
        refine tkI 11 (v := undef) (by simp only [List.getElem?_toArray, List.getElem?_cons_zero, List.getElem?_cons_succ]; rfl) (by kernel_rfl) (by exact fun _ _ _ h => h) (by exact Or.inr ⟨by rfl, rfl⟩) (by assumption) ?_
        try simp only [Act.put, List.setIfInBounds_toArray, List.set_cons_zero, List.set_cons_succ]
        refine tkI 12 (v := undef) (by simp only [List.getElem?_toArray, List.getElem?_cons_zero, List.getElem?_cons_succ]; rfl) (by kernel_rfl) (by exact fun _ _ _ h => h) (by exact Or.inr ⟨by rfl, rfl⟩) (by assumption) ?_
        try simp only [Act.put, List.setIfInBounds_toArray, List.set_cons_zero, List.set_cons_succ]
        refine tkI 13 (v := undef) (by simp only [List.getElem?_toArray, List.getElem?_cons_zero, List.getElem?_cons_succ]; rfl) (by kernel_rfl) (by exact fun _ _ _ h => h) (by exact Or.inr ⟨by rfl, rfl⟩) (by assumption) ?_
        try simp only [Act.put, List.setIfInBounds_toArray, List.set_cons_zero, List.set_cons_succ]
        refine tkI 14 (v := undef) (by simp only [List.getElem?_toArray, List.getElem?_cons_zero, List.getElem?_cons_succ]; rfl) (by kernel_rfl) (by exact fun _ _ _ h => h) (by exact Or.inr ⟨by rfl, rfl⟩) (by assumption) ?_
        try simp only [Act.put, List.setIfInBounds_toArray, List.set_cons_zero, List.set_cons_succ]
        refine tkI 15 (v := undef) (by simp only [List.getElem?_toArray, List.getElem?_cons_zero, List.getElem?_cons_succ]; rfl) (by kernel_rfl) (by exact fun _ _ _ h => h) (by exact Or.inr ⟨by rfl, rfl⟩) (by assumption) ?_
        try simp only [Act.put, List.setIfInBounds_toArray, List.set_cons_zero, List.set_cons_succ]
        refine tkI 16 (v := undef) (by simp only [List.getElem?_toArray, List.getElem?_cons_zero, List.getElem?_cons_succ]; rfl) (by kernel_rfl) (by exact fun _ _ _ h => h) (by exact Or.inr ⟨by rfl, rfl⟩) (by assumption) ?_
        try simp only [Act.put, List.setIfInBounds_toArray, List.set_cons_zero, List.set_cons_succ]
        refine tkI 17 (v := undef) (by simp only [List.getElem?_toArray, List.getElem?_cons_zero, List.getElem?_cons_succ]; rfl) (by kernel_rfl) (by exact fun _ _ _ h => h) (by exact Or.inr ⟨by rfl, rfl⟩) (by assumption) ?_
        try simp only [Act.put, List.setIfInBounds_toArray, List.set_cons_zero, List.set_cons_succ]
        refine tkI 18 (v := undef) (by simp only [List.getElem?_toArray, List.getElem?_cons_zero, List.getElem?_cons_succ]; rfl) (by kernel_rfl) (by exact fun _ _ _ h => h) (by exact Or.inr ⟨by rfl, rfl⟩) (by assumption) ?_
        try simp only [Act.put, List.setIfInBounds_toArray, List.set_cons_zero, List.set_cons_succ]
        refine tkI 19 (v := undef) (by simp only [List.getElem?_toArray, List.getElem?_cons_zero, List.getElem?_cons_succ]; rfl) (by kernel_rfl) (by exact fun _ _ _ h => h) (by exact Or.inr ⟨by rfl, rfl⟩) (by assumption) ?_
        try simp only [Act.put, List.setIfInBounds_toArray, List.set_cons_zero, List.set_cons_succ]
        refine tkI 20 (v := undef) (by simp only [List.getElem?_toArray, List.getElem?_cons_zero, List.getElem?_cons_succ]; rfl) (by kernel_rfl) (by exact fun _ _ _ h => h) (by exact Or.inr ⟨by rfl, rfl⟩) (by assumption) ?_
        try simp only [Act.put, List.setIfInBounds_toArray, List.set_cons_zero, List.set_cons_succ]
        refine tkI 21 (v := undef) (by simp only [List.getElem?_toArray, List.getElem?_cons_zero, List.getElem?_cons_succ]; rfl) (by kernel_rfl) (by exact fun _ _ _ h => h) (by exact Or.inr ⟨by rfl, rfl⟩) (by assumption) ?_
        try simp only [Act.put, List.setIfInBounds_toArray, List.set_cons_zero, List.set_cons_succ]
        refine tkI 22 (by simp only [List.getElem?_toArray, List.getElem?_cons_zero, List.getElem?_cons_succ]; rfl) (by kernel_rfl) (by exact fun _ _ _ h => h) (by first | (exact Or.inl ⟨by rfl, by intro w hSw; (try dsimp only at hSw); go_simp; with_reducible rfl⟩) | (exact Or.inr ⟨by rfl, by rfl⟩)) (by assumption) ?_
        try simp only [Act.put, List.setIfInBounds_toArray, List.set_cons_zero, List.set_cons_succ]
        refine wpAnyH_done (by kernel_rfl) ?_ _
        have HX2 := Lib.hid (HX.out.trans hHeld)
        clear hHeld
        go_wp2
        go_ret
        exact ⟨by rw [HE.out, HB.out]; rfl, HX2.out⟩
      | true =>
        have HBk := Lib.hid hb
        simp only [hb] at hen
        clear hb
        rcases k with _ | j
        · simp only [Int.cast_ofNat_Int] at hi2 ⊢
          go_wp2_with fail
          refine wp_region_held_drew (S := fun W => Ext wr W) (by kernel_rfl) (Ext.refl _).drew (fun hHeld => ?_)
          iterate 3
            refine tkD 0 (by simp only [List.size_toArray, List.length_cons, List.length_nil]; rfl) (by simp only [List.getElem?_toArray, List.getElem?_cons_zero, List.getElem?_cons_succ]; rfl) (by kernel_rfl) (by exact fun _ _ _ h => h) (by first | (exact Or.inl ⟨by rfl, by intro w hSw; (try dsimp only at hSw); go_simp; with_reducible rfl⟩) | (exact Or.inr ⟨by rfl, by rfl⟩)) (by assumption) ?_
            try simp only [Act.put, List.setIfInBounds_toArray, List.set_cons_zero, List.set_cons_succ]
          refine wpAnyH_ready (rs := [3]) (by kernel_rfl) (by simp) (AllReadyH.cons (o := ?oy273) ?hy273 (fun K hK => ?sy273) AllReadyH.nil)
          case hy273 => simp only [List.getElem?_toArray, List.getElem?_cons_zero, List.getElem?_cons_succ]; rfl
          go_simp
          refine (hen _ (d0 _ hHeld) (d0b _ hHeld)).mono ?_
          rintro e w' ⟨rfl, rfl⟩
          refine hK.out _ _ hHeld (fun _ => ?_)
          clear hK K
          try simp only [Act.put, List.setIfInBounds_toArray, List.set_cons_zero, List.set_cons_succ]
          iterate 5
            refine tkD 0 (by simp only [List.size_toArray, List.length_cons, List.length_nil]; rfl) (by simp only [List.getElem?_toArray, List.getElem?_cons_zero, List.getElem?_cons_succ]; rfl) (by kernel_rfl) (by exact fun _ _ _ h => h) (by first | (exact Or.inl ⟨by rfl, by intro w hSw; (try dsimp only at hSw); go_simp; with_reducible rfl⟩) | (exact Or.inr ⟨by rfl, by rfl⟩)) (by assumption) ?_
            try simp only [Act.put, List.setIfInBounds_toArray, List.set_cons_zero, List.set_cons_succ]
          refine tkI 9 (v := undef) (by simp only [List.getElem?_toArray, List.getElem?_cons_zero, List.getElem?_cons_succ]; rfl) (by kernel_rfl) (by exact fun _ _ _ h => h) (by exact Or.inr ⟨by rfl, rfl⟩) (by assumption) ?_
          try simp only [Act.put, List.setIfInBounds_toArray, List.set_cons_zero, List.set_cons_succ]
          refine tkI 10 (v := undef) (by simp only [List.getElem?_toArray, List.getElem?_cons_zero, List.getElem?_cons_succ]; rfl) (by kernel_rfl) (by exact fun _ _ _ h => h) (by exact Or.inr ⟨by rfl, rfl⟩) (by assumption) ?_
          try simp only [Act.put, List.setIfInBounds_toArray, List.set_cons_zero, List.set_cons_succ]
          refine tkI 11 (v := undef) (by simp only [List.getElem?_toArray, List.getElem?_cons_zero, List.getElem?_cons_succ]; rfl) (by kernel_rfl) (by exact fun _ _ _ h => h) (by exact Or.inr ⟨by rfl, rfl⟩) (by assumption) ?_
          try simp only [Act.put, List.setIfInBounds_toArray, List.set_cons_zero, List.set_cons_succ]
          refine tkI 12 (v := undef) (by simp only [List.getElem?_toArray, List.getElem?_cons_zero, List.getElem?_cons_succ]; rfl) (by kernel_rfl) (by exact fun _ _ _ h => h) (by exact Or.inr ⟨by rfl, rfl⟩) (by assumption) ?_
          try simp only [Act.put, List.setIfInBounds_toArray, List.set_cons_zero, List.set_cons_succ]
          refine tkI 13 (v := undef) (by simp only [List.getElem?_toArray, List.getElem?_cons_zero, List.getElem?_cons_succ]; rfl) (by kernel_rfl) (by exact fun _ _ _ h => h) (by exact Or.inr ⟨by rfl, rfl⟩) (by assumption) ?_
          try simp only [Act.put, List.setIfInBounds_toArray, List.set_cons_zero, List.set_cons_succ]
          refine tkI 14 (v := undef) (by simp only [List.getElem?_toArray, List.getElem?_cons_zero, List.getElem?_cons_succ]; rfl) (by kernel_rfl) (by exact fun _ _ _ h => h) (by exact Or.inr ⟨by rfl, rfl⟩) (by assumption) ?_
          try simp only [Act.put, List.setIfInBounds_toArray, List.set_cons_zero, List.set_cons_succ]
          refine tkI 15 (v := undef) (by simp only [List.getElem?_toArray, List.getElem?_cons_zero, List.getElem?_cons_succ]; rfl) (by kernel_rfl) (by exact fun _ _ _ h => h) (by exact Or.inr ⟨by rfl, rfl⟩) (by assumption) ?_
          try simp only [Act.put, List.setIfInBounds_toArray, List.set_cons_zero, List.set_cons_succ]
          refine tkI 16 (v := undef) (by simp only [List.getElem?_toArray, List.getElem?_cons_zero, List.getElem?_cons_succ]; rfl) (by kernel_rfl) (by exact fun _ _ _ h => h) (by exact Or.inr ⟨by rfl, rfl⟩) (by assumption) ?_
          try simp only [Act.put, List.setIfInBounds_toArray, List.set_cons_zero, List.set_cons_succ]
          refine tkI 17 (v := undef) (by simp only [List.getElem?_toArray, List.getElem?_cons_zero, List.getElem?_cons_succ]; rfl) (by kernel_rfl) (by exact fun _ _ _ h => h) (by exact Or.inr ⟨by rfl, rfl⟩) (by assumption) ?_
          try simp only [Act.put, List.setIfInBounds_toArray, List.set_cons_zero, List.set_cons_succ]
          refine tkI 18 (v := undef) (by simp only [List.getElem?_toArray, List.getElem?_cons_zero, List.getElem?_cons_succ]; rfl) (by kernel_rfl) (by exact fun _ _ _ h => h) (by exact Or.inr ⟨by rfl, rfl⟩) (by assumption) ?_
          try simp only [Act.put, List.setIfInBounds_toArray, List.set_cons_zero, List.set_cons_succ]
          refine tkI 19 (v := undef) (by simp only [List.getElem?_toArray, List.getElem?_cons_zero, List.getElem?_cons_succ]; rfl) (by kernel_rfl) (by exact fun _ _ _ h => h) (by exact Or.inr ⟨by rfl, rfl⟩) (by assumption) ?_
          try simp only [Act.put, List.setIfInBounds_toArray, List.set_cons_zero, List.set_cons_succ]
          refine tkI 20 (v := undef) (by simp only [List.getElem?_toArray, List.getElem?_cons_zero, List.getElem?_cons_succ]; rfl) (by kernel_rfl) (by exact fun _ _ _ h => h) (by exact Or.inr ⟨by rfl, rfl⟩) (by assumption) ?_
          try simp only [Act.put, List.setIfInBounds_toArray, List.set_cons_zero, List.set_cons_succ]
          iterate 2
            refine tkD 0 (by simp only [List.size_toArray, List.length_cons, List.length_nil]; rfl) (by simp only [List.getElem?_toArray, List.getElem?_cons_zero, List.getElem?_cons_succ]; rfl) (by kernel_rfl) (by exact fun _ _ _ h => h) (by first | (exact Or.inl ⟨by rfl, by intro w hSw; (try dsimp only at hSw); go_simp; with_reducible rfl⟩) | (exact Or.inr ⟨by rfl, by rfl⟩)) (by assumption) ?_
            try simp only [Act.put, List.setIfInBounds_toArray, List.set_cons_zero, List.set_cons_succ]
          refine wpAnyH_done (by kernel_rfl) ?_ _
          have HX2 := Lib.hid (HX.out.trans hHeld)
          clear hHeld
          go_wp2
          go_roundw
          case rel => exact ⟨1, by omega, rfl, by rw [HSN.out, HS.out, incC, HGk.out, HBk.out]; rfl, HX2.out⟩
          case measure => simp [intOf]; omega
        · obtain ⟨g2, o2, e, hs1, hc⟩ := Hrd.out.elem Hok.out j (by omega)
          injection e with e
          injection e with e1 e2
          subst e1
          subst e2
          have d1 : ∀ W, Ext wr W → W.cell? ⟨g, o + j * 2, none⟩ = some (.string L[j].1) := fun W hW => (HX.out.trans hW).cell (hc 0 _ rfl)
          have HGj := Lib.hid (gE_lt (L := L) (i := j) (by omega))
          have W1 : IntKind.i64.wrap (j : Int) = j := IntWalk.i64_in _ (by omega)
          have hj0 : (0 : Int) ≤ (j : Int) := by omega
          have hj1 : (j : Int) < (L.length : Int) := by omega
          have hj2 : (0 : Int) ≤ (j : Int) + 1 := by omega
          have hj3 : (0 : Int) < (j : Int) + 1 := by omega
          have hj4 : (j : Int) + 1 < (L.length : Int) := by omega
          clear hc
          cases hl : ltB L[j].1 L[j + 1].1 with
          | true =>
            have hl2 : Op.bytesLess L[j].1.toList L[j + 1].1.toList = true := by rw [ltB_eq]; exact hl
            have HLT := Lib.hid hl
            clear hl
            go_wp2_with fail
            refine wp_region_held_drew (S := fun W => Ext wr W) (by kernel_rfl) (Ext.refl _).drew (fun hHeld => ?_)
            iterate 3
              refine tkD 0 (by simp only [List.size_toArray, List.length_cons, List.length_nil]; rfl) (by simp only [List.getElem?_toArray, List.getElem?_cons_zero, List.getElem?_cons_succ]; rfl) (by kernel_rfl) (by exact fun _ _ _ h => h) (by first | (exact Or.inl ⟨by rfl, by intro w hSw; (try dsimp only at hSw); go_simp; with_reducible rfl⟩) | (exact Or.inr ⟨by rfl, by rfl⟩)) (by assumption) ?_
              try simp only [Act.put, List.setIfInBounds_toArray, List.set_cons_zero, List.set_cons_succ]
            refine wpAnyH_ready (rs := [3]) (by kernel_rfl) (by simp) (AllReadyH.cons (o := ?oy503) ?hy503 (fun K hK => ?sy503) AllReadyH.nil)
            case hy503 => simp only [List.getElem?_toArray, List.getElem?_cons_zero, List.getElem?_cons_succ]; rfl
            go_simp
            refine (hen _ (d0 _ hHeld) (d0b _ hHeld)).mono ?_
            rintro e w' ⟨rfl, rfl⟩
            refine hK.out _ _ hHeld (fun _ => ?_)
            clear hK K
            try simp only [Act.put, List.setIfInBounds_toArray, List.set_cons_zero, List.set_cons_succ]
            iterate 19
              refine tkD 0 (by simp only [List.size_toArray, List.length_cons, List.length_nil]; rfl) (by simp only [List.getElem?_toArray, List.getElem?_cons_zero, List.getElem?_cons_succ]; rfl) (by kernel_rfl) (by exact fun _ _ _ h => h) (by first | (exact Or.inl ⟨by rfl, by intro w hSw; (try dsimp only at hSw); go_simp; with_reducible rfl⟩) | (exact Or.inr ⟨by rfl, by rfl⟩)) (by assumption) ?_
              try simp only [Act.put, List.setIfInBounds_toArray, List.set_cons_zero, List.set_cons_succ]
            refine wpAnyH_done (by kernel_rfl) ?_ _
            have HX2 := Lib.hid (HX.out.trans hHeld)
            clear hHeld
            go_wp2
            go_roundw
            case rel => exact ⟨j + 2, by omega, by go_num, by rw [HSN.out, HS.out, incC, HGk.out, HBk.out, show j + 1 - 1 = j by omega, HGj.out, HLT.out]; rfl, HX2.out⟩
            case measure => simp [intOf]; omega
          | false =>
            have hl2 : Op.bytesLess L[j].1.toList L[j + 1].1.toList = false := by rw [ltB_eq]; exact hl
            have HB := Lib.hid (incs_bad L (j + 1) L.length hlt (by rw [incC, HGk.out, HBk.out, show j + 1 - 1 = j by omega, HGj.out, hl]; rfl))
            clear hl
            go_wp2_with fail
            refine wp_region_held_drew (S := fun W => Ext wr W) (by kernel_rfl) (Ext.refl _).drew (fun hHeld => ?_)
            iterate 3
              refine tkD 0 (by simp only [List.size_toArray, List.length_cons, List.length_nil]; rfl) (by simp only [List.getElem?_toArray, List.getElem?_cons_zero, List.getElem?_cons_succ]; rfl) (by kernel_rfl) (by exact fun _ _ _ h => h) (by first | (exact Or.inl ⟨by rfl, by intro w hSw; (try dsimp only at hSw); go_simp; with_reducible rfl⟩) | (exact Or.inr ⟨by rfl, by rfl⟩)) (by assumption) ?_
              try simp only [Act.put, List.setIfInBounds_toArray, List.set_cons_zero, List.set_cons_succ]
            refine wpAnyH_ready (rs := [3]) (by kernel_rfl) (by simp) (AllReadyH.cons (o := ?oy733) ?hy733 (fun K hK => ?sy733) AllReadyH.nil)
            case hy733 => simp only [List.getElem?_toArray, List.getElem?_cons_zero, List.getElem?_cons_succ]; rfl
            go_simp
            refine (hen _ (d0 _ hHeld) (d0b _ hHeld)).mono ?_
            rintro e w' ⟨rfl, rfl⟩
            refine hK.out _ _ hHeld (fun _ => ?_)
            clear hK K
            try simp only [Act.put, List.setIfInBounds_toArray, List.set_cons_zero, List.set_cons_succ]
            iterate 19
              refine tkD 0 (by simp only [List.size_toArray, List.length_cons, List.length_nil]; rfl) (by simp only [List.getElem?_toArray, List.getElem?_cons_zero, List.getElem?_cons_succ]; rfl) (by kernel_rfl) (by exact fun _ _ _ h => h) (by first | (exact Or.inl ⟨by rfl, by intro w hSw; (try dsimp only at hSw); go_simp; with_reducible rfl⟩) | (exact Or.inr ⟨by rfl, by rfl⟩)) (by assumption) ?_
              try simp only [Act.put, List.setIfInBounds_toArray, List.set_cons_zero, List.set_cons_succ]
            refine wpAnyH_done (by kernel_rfl) ?_ _
            have HX2 := Lib.hid (HX.out.trans hHeld)
            clear hHeld
            go_wp2
            go_ret
            exact ⟨by rw [HE.out, HB.out]; rfl, HX2.out⟩
    · obtain rfl : k = L.length := by omega
      go_wp2
      go_ret
      exact ⟨by rw [HE.out, HS.out, Bool.true_and]; exact ret_bool (by simp; omega), HX.out⟩

set_option maxHeartbeats 1000000 in
set_option maxRecDepth 100000 in
theorem validEntries_any (v : Value) (L : List En) (w : World) (S : Nat → Prop) (h : RdL tEnt w S v L) :
    Calls Try.prog 84 #[v] w fun e w' => e = .returned (.bool (okE L)) ∧ Ext w w' := by
  obtain ⟨A, cap, rfl, hcap, hlen, hrd, hok⟩ := h
  have Hrd := Lib.hid hrd
  have Hok := Lib.hid hok
  have HE := Lib.hid (okE_eq L)
  have HZ := Lib.hid (incs_zero L)
  clear hrd hok
  go_enter Try.func84, Try.ntmps84
  go_wp2
  go_loopw [7] (fun i wr => ∃ k : Nat, k ≤ L.length ∧ i = .int .i64 k ∧ incs L k = true ∧ Ext w wr) (fun i _ => L.length - (intOf i).toNat)
  case atStart => exact ⟨0, by omega, rfl, HZ.out, Ext.refl _⟩
  case round =>
    obtain ⟨k, hk, rfl, hs, hx⟩ := hrel
    have HS := Lib.hid hs
    have HX := Lib.hid hx
    clear hs hx HZ
    by_cases hlt : k < L.length
    · obtain ⟨g, o, rfl, hs0, hc⟩ := Hrd.out.elem Hok.out k hlt
      have HO := Lib.hid (show tEnt.ok L[k] from Hok.out _ (List.getElem_mem hlt))
      have HD := Lib.hid (show ∀ j u, (tEnt.enc L[k])[j]? = some u → wr.cell? ⟨g, o + k * 2 + j, none⟩ = some u from fun j u hu => HX.out.cell (hc j u hu))
      have HST := Lib.hid (show St 2 (tEnt.enc L[k]).toArray from stEnt _ _)
      have HB2 := Lib.hid (Blk.new wr 159 (tEnt.enc L[k]).toArray)
      have E2 := Lib.hid (ext_alloc wr (.cells (tEnt.enc L[k]).toArray 159))
      have HXW := Lib.hid (HX.out.trans E2.out)
      have d0 : ∀ W, Ext (wr.alloc (.cells (tEnt.enc L[k]).toArray 159)) W → W.cell? ⟨wr.heap.size, 0, none⟩ = some (.string L[k].1) := fun W hW => (HB2.out.ext hW).at_ 0 rfl
      have hen := fun W => validEntry_any L[k].1 L[k].2 HO.out.1 HO.out.2 W
      have HSN := Lib.hid (incs_succ L k)
      have HGk := Lib.hid (gE_lt hlt)
      have hi : (0 : Int) ≤ (k : Int) := by omega
      have hi2 : (k : Int) < (L.length : Int) := by omega
      clear hc
      cases hb : entB L[k].1 L[k].2 with
      | false =>
        have HB := Lib.hid (incs_bad L k L.length hlt (by rw [incC, HGk.out, hb]; rfl))
        simp only [hb] at hen
        clear hb
        go_wp2_with (first
          | (refine wpl_load ⟨g, o + k * 2, none⟩ (tEnt.enc L[k]) aggEntryI rfl _ rfl rfl (fun j u hu => by rw [Addr.add_lit]; exact HD.out j u hu) ?_)
          | (refine wpl_storeNewB aggEntryI HST.out rfl rfl _ _ rfl rfl rfl rfl ?_))
        generalize World.alloc wr (.cells (tEnt.enc L[k]).toArray 159) = w2 at HB2 E2 d0 HXW ⊢
        have R2 := Ext.refl w2
        refine wp_region_held_drew (S := fun W => Ext w2 W) (by kernel_rfl) (Ext.refl _).drew (fun hHeld => ?_)
        refine tkI 0 (v := (.agg (tEnt.enc L[k]).toArray)) (by simp only [List.getElem?_toArray, List.getElem?_cons_zero, List.getElem?_cons_succ]; rfl) (by kernel_rfl) (by exact fun _ _ _ h => h) (by refine yields_loadB HB2.out aggEntryI rfl ?_ _ rfl rfl; rfl) (by assumption) ?_
        try simp only [Act.put, List.setIfInBounds_toArray, List.set_cons_zero, List.set_cons_succ]
        refine wpAnyH_ready (rs := [1]) (by kernel_rfl) (by simp) (AllReadyH.cons (o := ?oy941) ?hy941 (fun K hK => ?sy941) AllReadyH.nil)
        case hy941 => simp only [List.getElem?_toArray, List.getElem?_cons_zero, List.getElem?_cons_succ]; rfl
        go_simp
        refine (hen _).mono ?_
        rintro e w3 ⟨rfl, hx⟩
        have hH2 := hHeld.trans hx
        refine hK.out _ _ hH2 (fun _ => ?_)
        clear hHeld hK K
        have hHeld := hH2
        clear hH2
        try simp only [Act.put, List.setIfInBounds_toArray, List.set_cons_zero, List.set_cons_succ]
        iterate 2
          refine tkD 0 (by simp only [List.size_toArray, List.length_cons, List.length_nil]; rfl) (by simp only [List.getElem?_toArray, List.getElem?_cons_zero, List.getElem?_cons_succ]; rfl) (by kernel_rfl) (by exact fun _ _ _ h => h) (by first | (exact Or.inl ⟨by rfl, by intro w hSw; (try dsimp only at hSw); go_simp; with_reducible rfl⟩) | (exact Or.inr ⟨by rfl, by rfl⟩)) (by assumption) ?_
          try simp only [Act.put, List.setIfInBounds_toArray, List.set_cons_zero, List.set_cons_succ]
        refine tkI 4 (v := undef) (by simp only [List.getElem?_toArray, List.getElem?_cons_zero, List.getElem?_cons_succ]; rfl) (by kernel_rfl) (by exact fun _ _ _ h => h) (by exact Or.inr ⟨by rfl, rfl⟩) (by assumption) ?_
        try simp only [Act.put, List.setIfInBounds_toArray, List.set_cons_zero, List.set_cons_succ]
        refine tkI 5 (v := undef) (by simp only [List.getElem?_toArray, List.getElem?_cons_zero, List.getElem?_cons_succ]; rfl) (by kernel_rfl) (by exact fun _ _ _ h => h) (by exact Or.inr ⟨by rfl, rfl⟩) (by assumption) ?_
        try simp only [Act.put, List.setIfInBounds_toArray, List.set_cons_zero, List.set_cons_succ]
        refine tkI 6 (v := undef) (by simp only [List.getElem?_toArray, List.getElem?_cons_zero, List.getElem?_cons_succ]; rfl) (by kernel_rfl) (by exact fun _ _ _ h => h) (by exact Or.inr ⟨by rfl, rfl⟩) (by assumption) ?_
        try simp only [Act.put, List.setIfInBounds_toArray, List.set_cons_zero, List.set_cons_succ]
        refine tkI 7 (v := undef) (by simp only [List.getElem?_toArray, List.getElem?_cons_zero, List.getElem?_cons_succ]; rfl) (by kernel_rfl) (by exact fun _ _ _ h => h) (by exact Or.inr ⟨by rfl, rfl⟩) (by assumption) ?_
        try simp only [Act.put, List.setIfInBounds_toArray, List.set_cons_zero, List.set_cons_succ]
        refine tkI 8 (v := undef) (by simp only [List.getElem?_toArray, List.getElem?_cons_zero, List.getElem?_cons_succ]; rfl) (by kernel_rfl) (by exact fun _ _ _ h => h) (by exact Or.inr ⟨by rfl, rfl⟩) (by assumption) ?_
        try simp only [Act.put, List.setIfInBounds_toArray, List.set_cons_zero, List.set_cons_succ]
        refine tkI 9 (v := undef) (by simp only [List.getElem?_toArray, List.getElem?_cons_zero, List.getElem?_cons_succ]; rfl) (by kernel_rfl) (by exact fun _ _ _ h => h) (by exact Or.inr ⟨by rfl, rfl⟩) (by assumption) ?_
        try simp only [Act.put, List.setIfInBounds_toArray, List.set_cons_zero, List.set_cons_succ]
        refine tkI 10 (v := undef) (by simp only [List.getElem?_toArray, List.getElem?_cons_zero, List.getElem?_cons_succ]; rfl) (by kernel_rfl) (by exact fun _ _ _ h => h) (by exact Or.inr ⟨by rfl, rfl⟩) (by assumption) ?_
        try simp only [Act.put, List.setIfInBounds_toArray, List.set_cons_zero, List.set_cons_succ]
        refine tkI 11 (v := undef) (by simp only [List.getElem?_toArray, List.getElem?_cons_zero, List.getElem?_cons_succ]; rfl) (by kernel_rfl) (by exact fun _ _ _ h => h) (by exact Or.inr ⟨by rfl, rfl⟩) (by assumption) ?_
        try simp only [Act.put, List.setIfInBounds_toArray, List.set_cons_zero, List.set_cons_succ]
        refine tkI 12 (v := undef) (by simp only [List.getElem?_toArray, List.getElem?_cons_zero, List.getElem?_cons_succ]; rfl) (by kernel_rfl) (by exact fun _ _ _ h => h) (by exact Or.inr ⟨by rfl, rfl⟩) (by assumption) ?_
        try simp only [Act.put, List.setIfInBounds_toArray, List.set_cons_zero, List.set_cons_succ]
        refine tkI 13 (v := undef) (by simp only [List.getElem?_toArray, List.getElem?_cons_zero, List.getElem?_cons_succ]; rfl) (by kernel_rfl) (by exact fun _ _ _ h => h) (by exact Or.inr ⟨by rfl, rfl⟩) (by assumption) ?_
        try simp only [Act.put, List.setIfInBounds_toArray, List.set_cons_zero, List.set_cons_succ]
        refine tkI 14 (v := undef) (by simp only [List.getElem?_toArray, List.getElem?_cons_zero, List.getElem?_cons_succ]; rfl) (by kernel_rfl) (by exact fun _ _ _ h => h) (by exact Or.inr ⟨by rfl, rfl⟩) (by assumption) ?_
        try simp only [Act.put, List.setIfInBounds_toArray, List.set_cons_zero, List.set_cons_succ]
        refine tkI 15 (v := undef) (by simp only [List.getElem?_toArray, List.getElem?_cons_zero, List.getElem?_cons_succ]; rfl) (by kernel_rfl) (by exact fun _ _ _ h => h) (by exact Or.inr ⟨by rfl, rfl⟩) (by assumption) ?_
        try simp only [Act.put, List.setIfInBounds_toArray, List.set_cons_zero, List.set_cons_succ]
        refine tkI 16 (v := undef) (by simp only [List.getElem?_toArray, List.getElem?_cons_zero, List.getElem?_cons_succ]; rfl) (by kernel_rfl) (by exact fun _ _ _ h => h) (by exact Or.inr ⟨by rfl, rfl⟩) (by assumption) ?_
        try simp only [Act.put, List.setIfInBounds_toArray, List.set_cons_zero, List.set_cons_succ]
        refine tkI 17 (by simp only [List.getElem?_toArray, List.getElem?_cons_zero, List.getElem?_cons_succ]; rfl) (by kernel_rfl) (by exact fun _ _ _ h => h) (by first | (exact Or.inl ⟨by rfl, by intro w hSw; (try dsimp only at hSw); go_simp; with_reducible rfl⟩) | (exact Or.inr ⟨by rfl, by rfl⟩)) (by assumption) ?_
        try simp only [Act.put, List.setIfInBounds_toArray, List.set_cons_zero, List.set_cons_succ]
        refine wpAnyH_done (by kernel_rfl) ?_ _
        have HX2 := Lib.hid (HXW.out.trans hHeld)
        clear hHeld
        go_wp2
        go_ret
        exact ⟨by rw [HE.out, HB.out]; rfl, HX2.out⟩
      | true =>
        have HBk := Lib.hid hb
        simp only [hb] at hen
        clear hb
        rcases k with _ | j
        · simp only [Int.cast_ofNat_Int] at hi2 ⊢
          go_wp2_with (first
            | (refine wpl_load ⟨g, o + 0 * 2, none⟩ (tEnt.enc L[0]) aggEntryI rfl _ rfl rfl (fun j u hu => by rw [Addr.add_lit]; exact HD.out j u hu) ?_)
            | (refine wpl_storeNewB aggEntryI HST.out rfl rfl _ _ rfl rfl rfl rfl ?_))
          generalize World.alloc wr (.cells (tEnt.enc L[0]).toArray 159) = w2 at HB2 E2 d0 HXW ⊢
          have R2 := Ext.refl w2
          refine wp_region_held_drew (S := fun W => Ext w2 W) (by kernel_rfl) (Ext.refl _).drew (fun hHeld => ?_)
          refine tkI 0 (v := (.agg (tEnt.enc L[0]).toArray)) (by simp only [List.getElem?_toArray, List.getElem?_cons_zero, List.getElem?_cons_succ]; rfl) (by kernel_rfl) (by exact fun _ _ _ h => h) (by refine yields_loadB HB2.out aggEntryI rfl ?_ _ rfl rfl; rfl) (by assumption) ?_
          try simp only [Act.put, List.setIfInBounds_toArray, List.set_cons_zero, List.set_cons_succ]
          refine wpAnyH_ready (rs := [1]) (by kernel_rfl) (by simp) (AllReadyH.cons (o := ?oy1121) ?hy1121 (fun K hK => ?sy1121) AllReadyH.nil)
          case hy1121 => simp only [List.getElem?_toArray, List.getElem?_cons_zero, List.getElem?_cons_succ]; rfl
          go_simp
          refine (hen _).mono ?_
          rintro e w3 ⟨rfl, hx⟩
          have hH2 := hHeld.trans hx
          refine hK.out _ _ hH2 (fun _ => ?_)
          clear hHeld hK K
          have hHeld := hH2
          clear hH2
          try simp only [Act.put, List.setIfInBounds_toArray, List.set_cons_zero, List.set_cons_succ]
          iterate 5
            refine tkD 0 (by simp only [List.size_toArray, List.length_cons, List.length_nil]; rfl) (by simp only [List.getElem?_toArray, List.getElem?_cons_zero, List.getElem?_cons_succ]; rfl) (by kernel_rfl) (by exact fun _ _ _ h => h) (by first | (exact Or.inl ⟨by rfl, by intro w hSw; (try dsimp only at hSw); go_simp; with_reducible rfl⟩) | (exact Or.inr ⟨by rfl, by rfl⟩)) (by assumption) ?_
            try simp only [Act.put, List.setIfInBounds_toArray, List.set_cons_zero, List.set_cons_succ]
          refine tkI 7 (v := undef) (by simp only [List.getElem?_toArray, List.getElem?_cons_zero, List.getElem?_cons_succ]; rfl) (by kernel_rfl) (by exact fun _ _ _ h => h) (by exact Or.inr ⟨by rfl, rfl⟩) (by assumption) ?_
          try simp only [Act.put, List.setIfInBounds_toArray, List.set_cons_zero, List.set_cons_succ]
          refine tkI 8 (v := undef) (by simp only [List.getElem?_toArray, List.getElem?_cons_zero, List.getElem?_cons_succ]; rfl) (by kernel_rfl) (by exact fun _ _ _ h => h) (by exact Or.inr ⟨by rfl, rfl⟩) (by assumption) ?_
          try simp only [Act.put, List.setIfInBounds_toArray, List.set_cons_zero, List.set_cons_succ]
          refine tkI 9 (v := undef) (by simp only [List.getElem?_toArray, List.getElem?_cons_zero, List.getElem?_cons_succ]; rfl) (by kernel_rfl) (by exact fun _ _ _ h => h) (by exact Or.inr ⟨by rfl, rfl⟩) (by assumption) ?_
          try simp only [Act.put, List.setIfInBounds_toArray, List.set_cons_zero, List.set_cons_succ]
          refine tkI 10 (v := undef) (by simp only [List.getElem?_toArray, List.getElem?_cons_zero, List.getElem?_cons_succ]; rfl) (by kernel_rfl) (by exact fun _ _ _ h => h) (by exact Or.inr ⟨by rfl, rfl⟩) (by assumption) ?_
          try simp only [Act.put, List.setIfInBounds_toArray, List.set_cons_zero, List.set_cons_succ]
          refine tkI 11 (v := undef) (by simp only [List.getElem?_toArray, List.getElem?_cons_zero, List.getElem?_cons_succ]; rfl) (by kernel_rfl) (by exact fun _ _ _ h => h) (by exact Or.inr ⟨by rfl, rfl⟩) (by assumption) ?_
          try simp only [Act.put, List.setIfInBounds_toArray, List.set_cons_zero, List.set_cons_succ]
          refine tkI 12 (v := undef) (by simp only [List.getElem?_toArray, List.getElem?_cons_zero, List.getElem?_cons_succ]; rfl) (by kernel_rfl) (by exact fun _ _ _ h => h) (by exact Or.inr ⟨by rfl, rfl⟩) (by assumption) ?_
          try simp only [Act.put, List.setIfInBounds_toArray, List.set_cons_zero, List.set_cons_succ]
          refine tkI 13 (v := undef) (by simp only [List.getElem?_toArray, List.getElem?_cons_zero, List.getElem?_cons_succ]; rfl) (by kernel_rfl) (by exact fun _ _ _ h => h) (by exact Or.inr ⟨by rfl, rfl⟩) (by assumption) ?_
          try simp only [Act.put, List.setIfInBounds_toArray, List.set_cons_zero, List.set_cons_succ]
          refine tkI 14 (v := undef) (by simp only [List.getElem?_toArray, List.getElem?_cons_zero, List.getElem?_cons_succ]; rfl) (by kernel_rfl) (by exact fun _ _ _ h => h) (by exact Or.inr ⟨by rfl, rfl⟩) (by assumption) ?_
          try simp only [Act.put, List.setIfInBounds_toArray, List.set_cons_zero, List.set_cons_succ]
          refine tkI 15 (v := undef) (by simp only [List.getElem?_toArray, List.getElem?_cons_zero, List.getElem?_cons_succ]; rfl) (by kernel_rfl) (by exact fun _ _ _ h => h) (by exact Or.inr ⟨by rfl, rfl⟩) (by assumption) ?_
          try simp only [Act.put, List.setIfInBounds_toArray, List.set_cons_zero, List.set_cons_succ]
          iterate 2
            refine tkD 0 (by simp only [List.size_toArray, List.length_cons, List.length_nil]; rfl) (by simp only [List.getElem?_toArray, List.getElem?_cons_zero, List.getElem?_cons_succ]; rfl) (by kernel_rfl) (by exact fun _ _ _ h => h) (by first | (exact Or.inl ⟨by rfl, by intro w hSw; (try dsimp only at hSw); go_simp; with_reducible rfl⟩) | (exact Or.inr ⟨by rfl, by rfl⟩)) (by assumption) ?_
            try simp only [Act.put, List.setIfInBounds_toArray, List.set_cons_zero, List.set_cons_succ]
          refine wpAnyH_done (by kernel_rfl) ?_ _
          have HX2 := Lib.hid (HXW.out.trans hHeld)
          clear hHeld
          go_wp2
          go_roundw
          case rel => exact ⟨1, by omega, rfl, by rw [HSN.out, HS.out, incC, HGk.out, HBk.out]; rfl, HX2.out⟩
          case measure => simp [intOf]; omega
        · obtain ⟨g2, o2, e, hs1, hc⟩ := Hrd.out.elem Hok.out j (by omega)
          injection e with e
          injection e with e1 e2
          subst e1
          subst e2
          have d1' : ∀ W, Ext (wr.alloc (.cells (tEnt.enc L[j + 1]).toArray 159)) W → W.cell? ⟨g, o + j * 2, none⟩ = some (.string L[j].1) := fun W hW => (HXW.out.trans hW).cell (hc 0 _ rfl)
          have D1 := Lib.hid d1'
          have HGj := Lib.hid (gE_lt (L := L) (i := j) (by omega))
          have W1 : IntKind.i64.wrap (j : Int) = j := IntWalk.i64_in _ (by omega)
          have hj0 : (0 : Int) ≤ (j : Int) := by omega
          have hj1 : (j : Int) < (L.length : Int) := by omega
          have hj2 : (0 : Int) ≤ (j : Int) + 1 := by omega
          have hj3 : (0 : Int) < (j : Int) + 1 := by omega
          have hj4 : (j : Int) + 1 < (L.length : Int) := by omega
          clear hc d1'
          cases hl : ltB L[j].1 L[j + 1].1 with
          | true =>
            have hl2 : Op.bytesLess L[j + 1].1.toList L[j].1.toList = false := by rw [ltB_eq]; exact ltB_asymm hl
            have hl3 : (L[j + 1].1.toList == L[j].1.toList) = false := by
              rw [beq_eq_false_iff_ne]
              exact fun e => ltB_ne hl (toList_inj e).symm
            have HLT := Lib.hid hl
            clear hl
            go_wp2_with (first
              | (refine wpl_load ⟨g, o + (j + 1) * 2, none⟩ (tEnt.enc L[j + 1]) aggEntryI rfl _ rfl rfl (fun j u hu => by rw [Addr.add_lit]; exact HD.out j u hu) ?_)
              | (refine wpl_storeNewB aggEntryI HST.out rfl rfl _ _ rfl rfl rfl rfl ?_))
            generalize World.alloc wr (.cells (tEnt.enc L[j + 1]).toArray 159) = w2 at HB2 E2 d0 HXW D1 ⊢
            have R2 := Ext.refl w2
            have d1 := D1.out
            refine wp_region_held_drew (S := fun W => Ext w2 W) (by kernel_rfl) (Ext.refl _).drew (fun hHeld => ?_)
            refine tkI 0 (v := (.agg (tEnt.enc L[j + 1]).toArray)) (by simp only [List.getElem?_toArray, List.getElem?_cons_zero, List.getElem?_cons_succ]; rfl) (by kernel_rfl) (by exact fun _ _ _ h => h) (by refine yields_loadB HB2.out aggEntryI rfl ?_ _ rfl rfl; rfl) (by assumption) ?_
            try simp only [Act.put, List.setIfInBounds_toArray, List.set_cons_zero, List.set_cons_succ]
            refine wpAnyH_ready (rs := [1]) (by kernel_rfl) (by simp) (AllReadyH.cons (o := ?oy1301) ?hy1301 (fun K hK => ?sy1301) AllReadyH.nil)
            case hy1301 => simp only [List.getElem?_toArray, List.getElem?_cons_zero, List.getElem?_cons_succ]; rfl
            go_simp
            refine (hen _).mono ?_
            rintro e w3 ⟨rfl, hx⟩
            have hH2 := hHeld.trans hx
            refine hK.out _ _ hH2 (fun _ => ?_)
            clear hHeld hK K
            have hHeld := hH2
            clear hH2
            try simp only [Act.put, List.setIfInBounds_toArray, List.set_cons_zero, List.set_cons_succ]
            iterate 16
              refine tkD 0 (by simp only [List.size_toArray, List.length_cons, List.length_nil]; rfl) (by simp only [List.getElem?_toArray, List.getElem?_cons_zero, List.getElem?_cons_succ]; rfl) (by kernel_rfl) (by exact fun _ _ _ h => h) (by first | (exact Or.inl ⟨by rfl, by intro w hSw; (try dsimp only at hSw); go_simp; with_reducible rfl⟩) | (exact Or.inr ⟨by rfl, by rfl⟩)) (by assumption) ?_
              try simp only [Act.put, List.setIfInBounds_toArray, List.set_cons_zero, List.set_cons_succ]
            refine wpAnyH_done (by kernel_rfl) ?_ _
            have HX2 := Lib.hid (HXW.out.trans hHeld)
            clear hHeld
            go_wp2
            go_roundw
            case rel => exact ⟨j + 2, by omega, by go_num, by rw [HSN.out, HS.out, incC, HGk.out, HBk.out, show j + 1 - 1 = j by omega, HGj.out, HLT.out]; rfl, HX2.out⟩
            case measure => simp [intOf]; omega
          | false =>
            have HB := Lib.hid (incs_bad L (j + 1) L.length hlt (by rw [incC, HGk.out, HBk.out, show j + 1 - 1 = j by omega, HGj.out, hl]; rfl))
            have hl2 : (Op.bytesLess L[j + 1].1.toList L[j].1.toList || (L[j + 1].1.toList == L[j].1.toList)) = true := by
              rw [ltB_eq]
              cases hm : ltB L[j + 1].1 L[j].1 with
              | true => rfl
              | false => rw [ltB_total hl hm]; simp
            clear hl
            go_wp2_with (first
              | (refine wpl_load ⟨g, o + (j + 1) * 2, none⟩ (tEnt.enc L[j + 1]) aggEntryI rfl _ rfl rfl (fun j u hu => by rw [Addr.add_lit]; exact HD.out j u hu) ?_)
              | (refine wpl_storeNewB aggEntryI HST.out rfl rfl _ _ rfl rfl rfl rfl ?_))
            generalize World.alloc wr (.cells (tEnt.enc L[j + 1]).toArray 159) = w2 at HB2 E2 d0 HXW D1 ⊢
            have R2 := Ext.refl w2
            have d1 := D1.out
            refine wp_region_held_drew (S := fun W => Ext w2 W) (by kernel_rfl) (Ext.refl _).drew (fun hHeld => ?_)
            refine tkI 0 (v := (.agg (tEnt.enc L[j + 1]).toArray)) (by simp only [List.getElem?_toArray, List.getElem?_cons_zero, List.getElem?_cons_succ]; rfl) (by kernel_rfl) (by exact fun _ _ _ h => h) (by refine yields_loadB HB2.out aggEntryI rfl ?_ _ rfl rfl; rfl) (by assumption) ?_
            try simp only [Act.put, List.setIfInBounds_toArray, List.set_cons_zero, List.set_cons_succ]
            refine wpAnyH_ready (rs := [1]) (by kernel_rfl) (by simp) (AllReadyH.cons (o := ?oy1481) ?hy1481 (fun K hK => ?sy1481) AllReadyH.nil)
            case hy1481 => simp only [List.getElem?_toArray, List.getElem?_cons_zero, List.getElem?_cons_succ]; rfl
            go_simp
            refine (hen _).mono ?_
            rintro e w3 ⟨rfl, hx⟩
            have hH2 := hHeld.trans hx
            refine hK.out _ _ hH2 (fun _ => ?_)
            clear hHeld hK K
            have hHeld := hH2
            clear hH2
            try simp only [Act.put, List.setIfInBounds_toArray, List.set_cons_zero, List.set_cons_succ]
            iterate 16
              refine tkD 0 (by simp only [List.size_toArray, List.length_cons, List.length_nil]; rfl) (by simp only [List.getElem?_toArray, List.getElem?_cons_zero, List.getElem?_cons_succ]; rfl) (by kernel_rfl) (by exact fun _ _ _ h => h) (by first | (exact Or.inl ⟨by rfl, by intro w hSw; (try dsimp only at hSw); go_simp; with_reducible rfl⟩) | (exact Or.inr ⟨by rfl, by rfl⟩)) (by assumption) ?_
              try simp only [Act.put, List.setIfInBounds_toArray, List.set_cons_zero, List.set_cons_succ]
            refine wpAnyH_done (by kernel_rfl) ?_ _
            have HX2 := Lib.hid (HXW.out.trans hHeld)
            clear hHeld
            go_wp2
            go_ret
            exact ⟨by rw [HE.out, HB.out]; rfl, HX2.out⟩
    · obtain rfl : k = L.length := by omega
      go_wp2
      go_ret
      exact ⟨by rw [HE.out, HS.out, Bool.true_and]; exact ret_bool (by simp; omega), HX.out⟩

end Go.Proofs.Ytnklgkmpcochfaa
/- The tree of a map, plainly. No condition. -/
namespace Go.Proofs.Ytnklgkmpcochfaa
open Go.RowKit
set_option linter.unusedVariables false
set_option linter.unusedSimpArgs false

inductive Tr where
  | leaf : Tr
  | node : Nd → Tr → Tr → Tr
def Tr.key : Tr → List Int
  | .leaf => emptyL
  | .node x _ _ => hashL 5 (nodeL x)
def Tr.all : Tr → List Nd
  | .leaf => []
  | .node x l r => x :: (l.all ++ r.all)
def Tr.ok : Tr → Prop
  | .leaf => True
  | .node x l r => x.ok ∧ entB x.n x.v = true ∧ x.l = l.key ∧ x.r = r.key ∧ l.ok ∧ r.ok
theorem Tr.key_ok (T : Tr) : K32 T.key := by
  cases T with
  | leaf => exact emptyL_ok
  | node x l r => exact hashL_ok _ _
/-- the place of the greatest of the first k priorities -/
def gK (ps : List (List Int)) (k : Nat) : List Int := ps.getD k []
theorem gK_lt {ps : List (List Int)} {k : Nat} (h : k < ps.length) : gK ps k = ps[k] := by simp [gK, List.getD_eq_getElem?_getD, h]
def topS (ps : List (List Int)) (k t : Nat) : Nat := if 0 < cmpL (gK ps k) (gK ps t) then k else t
def topI (ps : List (List Int)) : Nat → Nat
  | 0 => 0
  | k + 1 => topS ps k (topI ps k)
theorem topI_zero (ps : List (List Int)) : topI ps 0 = 0 := rfl
theorem topI_succ (ps : List (List Int)) (k : Nat) : topI ps (k + 1) = if 0 < cmpL (gK ps k) (gK ps (topI ps k)) then k else topI ps k := rfl
attribute [irreducible] topI
theorem topI_one (ps : List (List Int)) : topI ps 1 = 0 := by rw [topI_succ, topI_zero, cmpL_self]; simp
theorem topI_lt (ps : List (List Int)) (k : Nat) (h : 0 < k) : topI ps k < k := by
  induction k with
  | zero => omega
  | succ k ih =>
    rw [topI_succ]
    split
    · omega
    · rcases Nat.eq_zero_or_pos k with rfl | hk
      · rw [topI_zero]; omega
      · have := ih hk; omega
def prios (L : List En) : List (List Int) := L.map fun e => prioL e.1
theorem prios_length (L : List En) : (prios L).length = L.length := by simp [prios]
theorem prios_at (L : List En) (k : Nat) (h : k < L.length) : gK (prios L) k = prioL L[k].1 := by rw [gK_lt (by rw [prios_length]; exact h)]; simp [prios]
theorem prios_ok (L : List En) : ∀ p ∈ prios L, K32 p := by
  intro p hp
  simp only [prios, List.mem_map] at hp
  obtain ⟨e, _, rfl⟩ := hp
  exact prioL_ok _
theorem prios_take (L : List En) (k : Nat) : prios (L.take k) = (prios L).take k := by simp [prios]
theorem prios_drop (L : List En) (k : Nat) : prios (L.drop k) = (prios L).drop k := by simp [prios]
def topE (L : List En) : Nat := topI (prios L) L.length
theorem topE_lt {L : List En} (h : 0 < L.length) : topE L < L.length := topI_lt _ _ h
/-- the tree -/
def trS (L : List En) (l r : Tr) : Tr := if L.length = 0 then .leaf else .node ⟨l.key, r.key, (gE L (topE L)).1, (gE L (topE L)).2⟩ l r
def trF : Nat → List En → Tr
  | 0, _ => .leaf
  | f + 1, L => trS L (trF f (L.take (topE L))) (trF f (L.drop (topE L + 1)))
theorem trF_zero (L : List En) : trF 0 L = .leaf := rfl
theorem trF_succ (f : Nat) (L : List En) : trF (f + 1) L = trS L (trF f (L.take (topE L))) (trF f (L.drop (topE L + 1))) := rfl
attribute [irreducible] trF
theorem trF_nil (f : Nat) (L : List En) (h : L.length = 0) : trF f L = .leaf := by
  cases f with
  | zero => rw [trF_zero]
  | succ f => rw [trF_succ, trS, if_pos h]
theorem trF_cons (f : Nat) (L : List En) (h : ¬ L.length = 0) : trF (f + 1) L = .node ⟨(trF f (L.take (topE L))).key, (trF f (L.drop (topE L + 1))).key, (gE L (topE L)).1, (gE L (topE L)).2⟩ (trF f (L.take (topE L))) (trF f (L.drop (topE L + 1))) := by rw [trF_succ, trS, if_neg h]
/-- entries that a map may hold -/
def good (L : List En) : Prop := ∀ e ∈ L, tEnt.ok e ∧ entB e.1 e.2 = true
theorem good_of {L : List En} (h : okE L = true) (hok : ∀ e ∈ L, tEnt.ok e) : good L := by
  intro e he
  refine ⟨hok e he, ?_⟩
  rw [okE_eq, Bool.and_eq_true, incs, List.all_eq_true] at h
  obtain ⟨i, hi, rfl⟩ := List.getElem_of_mem he
  have := h.1 i (List.mem_range.2 hi)
  simp only [incC, Bool.and_eq_true] at this
  rw [gE_lt hi] at this
  exact this.1
theorem good.take {L : List En} (h : good L) (k : Nat) : good (L.take k) := fun e he => h e (List.mem_of_mem_take he)
theorem good.drop {L : List En} (h : good L) (k : Nat) : good (L.drop k) := fun e he => h e (List.mem_of_mem_drop he)
theorem good.at_ {L : List En} (h : good L) {k : Nat} (hk : k < L.length) : tEnt.ok (gE L k) ∧ entB (gE L k).1 (gE L k).2 = true := by rw [gE_lt hk]; exact h _ (List.getElem_mem hk)
theorem trF_ok (f : Nat) (L : List En) (h : good L) : (trF f L).ok := by
  induction f generalizing L with
  | zero => rw [trF_zero]; trivial
  | succ f ih =>
    by_cases h0 : L.length = 0
    · rw [trF_nil _ _ h0]; trivial
    · rw [trF_cons _ _ h0]
      have hg := h.at_ (topE_lt (L := L) (by omega))
      exact ⟨⟨Tr.key_ok _, Tr.key_ok _, hg.1.1, hg.1.2⟩, hg.2, rfl, rfl, ih _ (h.take _), ih _ (h.drop _)⟩
theorem trF_len (f : Nat) (L : List En) : (trF f L).all.length ≤ L.length := by
  induction f generalizing L with
  | zero => rw [trF_zero]; simp [Tr.all]
  | succ f ih =>
    by_cases h0 : L.length = 0
    · rw [trF_nil _ _ h0]; simp [Tr.all]
    · rw [trF_cons _ _ h0]
      have h1 := ih (L.take (topE L))
      have h2 := ih (L.drop (topE L + 1))
      have h3 := topE_lt (L := L) (by omega)
      simp only [Tr.all, List.length_cons, List.length_append]
      rw [List.length_take] at h1
      rw [List.length_drop] at h2
      omega
def tNd : Ty Nd := ⟨66, Nd.enc, Nd.ok, fun _ h => Nd.enc_length h, fun x => Nd.enc_one x⟩
theorem Rd.cutL {α : Type} {T : Ty α} {w : World} {S : Nat → Prop} {A : Option Addr} {xs : List α} (h : Rd w S T.sz A xs.length (xs.flatMap T.enc)) (hok : ∀ x ∈ xs, T.ok x) {k cap : Nat} (hk : k ≤ xs.length) (hc : xs.length ≤ cap) :
    Rd w S T.sz (if cap = k then A else A.map (·.add (k * T.sz))) (xs.drop k).length ((xs.drop k).flatMap T.enc) := by
  have h1 := h.cut hk hc
  have e : (xs.flatMap T.enc).drop (k * T.sz) = (xs.drop k).flatMap T.enc := by
    conv => lhs; rw [← List.take_append_drop k xs, List.flatMap_append]
    rw [List.drop_append_of_le_length (by rw [flat_length T _ (fun x hx => hok x (List.mem_of_mem_take hx)), List.length_take, Nat.min_eq_left hk]; exact Nat.le_refl _), List.drop_eq_nil_of_le (by rw [flat_length T _ (fun x hx => hok x (List.mem_of_mem_take hx)), List.length_take, Nat.min_eq_left hk]; exact Nat.le_refl _), List.nil_append]
  rw [e, ← List.length_drop] at h1
  exact h1
theorem Rd.headL {α : Type} {T : Ty α} {w : World} {S : Nat → Prop} {A : Option Addr} {xs : List α} (h : Rd w S T.sz A xs.length (xs.flatMap T.enc)) (hok : ∀ x ∈ xs, T.ok x) {k : Nat} (hk : k ≤ xs.length) :
    Rd w S T.sz A (xs.take k).length ((xs.take k).flatMap T.enc) := by
  have h1 := h.head hk
  have e : (xs.flatMap T.enc).take (k * T.sz) = (xs.take k).flatMap T.enc := by
    conv => lhs; rw [← List.take_append_drop k xs, List.flatMap_append]
    rw [List.take_append_of_le_length (by rw [flat_length T _ (fun x hx => hok x (List.mem_of_mem_take hx)), List.length_take, Nat.min_eq_left hk]; exact Nat.le_refl _), List.take_of_length_le (by rw [flat_length T _ (fun x hx => hok x (List.mem_of_mem_take hx)), List.length_take, Nat.min_eq_left hk]; exact Nat.le_refl _)]
  have hl : (xs.take k).length = k := by rw [List.length_take]; omega
  rw [e] at h1
  rw [hl]
  exact h1
/-- the first k of a list that is read -/
theorem RdL.head {α : Type} {T : Ty α} {w : World} {S : Nat → Prop} {A : Option Addr} {xs : List α} {cap : Nat} (h : RdL T w S (.slice A xs.length cap) xs) {k : Nat} (hk : k ≤ xs.length) : RdL T w S (.slice A k cap) (xs.take k) := by
  obtain ⟨A', cap', e, h1, h2, h3, h4⟩ := h
  injection e with e1 _ e3
  subst e1 e3
  have hl : (xs.take k).length = k := by rw [List.length_take]; omega
  exact ⟨A, cap, by rw [hl], by omega, by omega, h3.headL h4 hk, fun x hx => h4 x (List.mem_of_mem_take hx)⟩
theorem RdL.cut {α : Type} {T : Ty α} {w : World} {S : Nat → Prop} {A : Option Addr} {xs : List α} {cap : Nat} (h : RdL T w S (.slice A xs.length cap) xs) {k : Nat} (hk : k ≤ xs.length) :
    RdL T w S (.slice (if cap = k then A else A.map (·.add (k * T.sz))) (xs.length - k) (cap - k)) (xs.drop k) := by
  obtain ⟨A', cap', e, h1, h2, h3, h4⟩ := h
  injection e with e1 _ e3
  subst e1 e3
  exact ⟨_, cap - k, by rw [List.length_drop], by rw [List.length_drop]; omega, by rw [List.length_drop]; omega, h3.cutL h4 hk h1, fun x hx => h4 x (List.mem_of_mem_drop hx)⟩
end Go.Proofs.Ytnklgkmpcochfaa
/- Slices whose elements hold slices themselves: how they read. No condition. -/
namespace Go.Proofs.Ytnklgkmpcochfaa
open Go.RowKit
set_option linter.unusedVariables false
set_option linter.unusedSimpArgs false

/-- how the cells of an element read -/
structure NR (α : Type) where
  sz : Nat
  R : World → (Nat → Prop) → Array Value → α → Prop
  pos : 0 < sz
  keep : ∀ {w w' : World} {S : Nat → Prop} {cs : Array Value} {x : α}, R w S cs x → (∀ g, S g → w'.heap[g]? = w.heap[g]?) → R w' S cs x
  ext : ∀ {w w' : World} {S : Nat → Prop} {cs : Array Value} {x : α}, R w S cs x → Ext w w' → R w' S cs x
  mono : ∀ {w : World} {S S' : Nat → Prop} {cs : Array Value} {x : α}, R w S cs x → (∀ g, S g → S' g) → R w S' cs x
  st : ∀ {w : World} {S : Nat → Prop} {cs : Array Value} {x : α}, R w S cs x → St sz cs
/-- the value v is a slice whose elements read as xs -/
def RdN {α : Type} (N : NR α) (w : World) (S : Nat → Prop) (v : Value) (xs : List α) : Prop :=
  ∃ A cap, v = .slice A xs.length cap ∧ xs.length ≤ cap ∧ xs.length ≤ 140737488355328 ∧
    (0 < xs.length → ∃ g o, A = some ⟨g, o, none⟩ ∧ S g ∧ ∀ i (h : i < xs.length), ∃ es : List Value, es.length = N.sz ∧ (∀ j u, es[j]? = some u → w.cell? ⟨g, o + i * N.sz + j, none⟩ = some u) ∧ N.R w S es.toArray xs[i])
section
variable {α : Type} {N : NR α} {w w' : World} {S S' : Nat → Prop} {v : Value} {xs : List α}
theorem RdN.ext (h : RdN N w S v xs) (e : Ext w w') : RdN N w' S v xs := by
  obtain ⟨A, cap, h1, h2, h3, h4⟩ := h
  refine ⟨A, cap, h1, h2, h3, fun hn => ?_⟩
  obtain ⟨g, o, h5, h6, h7⟩ := h4 hn
  refine ⟨g, o, h5, h6, fun i hi => ?_⟩
  obtain ⟨es, h8, h9, h10⟩ := h7 i hi
  exact ⟨es, h8, fun j u hu => e.cell (h9 j u hu), N.ext h10 e⟩
theorem RdN.keep (h : RdN N w S v xs) (e : ∀ g, S g → w'.heap[g]? = w.heap[g]?) : RdN N w' S v xs := by
  obtain ⟨A, cap, h1, h2, h3, h4⟩ := h
  refine ⟨A, cap, h1, h2, h3, fun hn => ?_⟩
  obtain ⟨g, o, h5, h6, h7⟩ := h4 hn
  refine ⟨g, o, h5, h6, fun i hi => ?_⟩
  obtain ⟨es, h8, h9, h10⟩ := h7 i hi
  exact ⟨es, h8, fun j u hu => (World.cell?_of_block (w := w) (e g h6)).trans (h9 j u hu), N.keep h10 e⟩
theorem RdN.far (h : RdN N w S v xs) {p : Addr} (hp : ∀ g, S g → g ≠ p.block) (u : Value) : RdN N (w.setCell p u) S v xs := h.keep fun g hg => Below.heap_setCell w p u g (hp g hg)
theorem RdN.mono (h : RdN N w S v xs) (e : ∀ g, S g → S' g) : RdN N w S' v xs := by
  obtain ⟨A, cap, h1, h2, h3, h4⟩ := h
  refine ⟨A, cap, h1, h2, h3, fun hn => ?_⟩
  obtain ⟨g, o, h5, h6, h7⟩ := h4 hn
  refine ⟨g, o, h5, e g h6, fun i hi => ?_⟩
  obtain ⟨es, h8, h9, h10⟩ := h7 i hi
  exact ⟨es, h8, h9, N.mono h10 e⟩
theorem RdN.shape (h : RdN N w S v xs) : ∃ A cap, v = .slice A xs.length cap ∧ xs.length ≤ cap ∧ xs.length ≤ 140737488355328 := by
  obtain ⟨A, cap, h1, h2, h3, _⟩ := h
  exact ⟨A, cap, h1, h2, h3⟩
/-- element i -/
theorem RdN.elem {A : Option Addr} {cap : Nat} (h : RdN N w S (.slice A xs.length cap) xs) (i : Nat) (hi : i < xs.length) :
    ∃ g o, A = some ⟨g, o, none⟩ ∧ S g ∧ ∃ es : List Value, es.length = N.sz ∧ (∀ j u, es[j]? = some u → w.cell? ⟨g, o + i * N.sz + j, none⟩ = some u) ∧ N.R w S es.toArray xs[i] := by
  obtain ⟨A', cap', h1, h2, h3, h4⟩ := h
  injection h1 with h1 _ _
  subst h1
  obtain ⟨g, o, h5, h6, h7⟩ := h4 (by omega)
  exact ⟨g, o, h5, h6, h7 i hi⟩
theorem RdN.nil (N : NR α) (w : World) (S : Nat → Prop) : RdN N w S (.slice none 0 0) [] := ⟨none, 0, rfl, Nat.le_refl _, by simp, fun h => absurd h (by simp)⟩
end
theorem flatN_at {sz : Nat} (CS : List (List Value)) (h : ∀ es ∈ CS, es.length = sz) (i : Nat) (es : List Value) (hi : CS[i]? = some es) (j : Nat) (hj : j < sz) : CS.flatten[i * sz + j]? = es[j]? := by
  induction CS generalizing i with
  | nil => simp at hi
  | cons x r ih =>
    have hl := h x (by simp)
    cases i with
    | zero =>
      simp at hi
      subst hi
      simp only [Nat.zero_mul, Nat.zero_add, List.flatten_cons]
      rw [List.getElem?_append_left (by omega)]
    | succ i =>
      simp only [List.flatten_cons]
      rw [List.getElem?_append_right (by rw [hl, Nat.add_mul]; omega), hl, ← ih (fun y hy => h y (by simp [hy])) i (by simpa using hi)]
      congr 1
      rw [Nat.add_mul]
      omega
theorem flatN_length {sz : Nat} (CS : List (List Value)) (h : ∀ es ∈ CS, es.length = sz) : CS.flatten.length = CS.length * sz := by
  induction CS with
  | nil => simp
  | cons x r ih =>
    simp only [List.flatten_cons, List.length_append, List.length_cons, h x (by simp), ih (fun y hy => h y (by simp [hy])), Nat.add_mul]
    omega
/-- the first of the elements of a row have been filled in -/
structure FillN {α : Type} (N : NR α) (w : World) (g e : Nat) (S : Nat → Prop) (xs : List α) (CS : List (List Value)) (m : Nat) : Prop where
  fill : Fill w g e CS.flatten m
  rel : ∀ (i : Nat) (es : List Value) (x : α), CS[i]? = some es → xs[i]? = some x → es.length = N.sz ∧ N.R w S es.toArray x
  lens : ∀ es ∈ CS, es.length = N.sz
section
variable {α : Type} {N : NR α} {w w' : World} {g e m : Nat} {S : Nat → Prop} {xs : List α} {CS : List (List Value)}
theorem FillN.ext (h : FillN N w g e S xs CS m) (x : Ext w w') : FillN N w' g e S xs CS m := ⟨h.fill.ext x, fun i es y h1 h2 => ⟨(h.rel i es y h1 h2).1, N.ext (h.rel i es y h1 h2).2 x⟩, h.lens⟩
theorem FillN.next (h : FillN N w g e S xs CS m) {cs : Array Value} {x : α} {m' : Nat} (hx : xs[CS.length]? = some x) (hR : N.R w S cs x) (hS : ∀ q, S q → q ≠ g) (row : Array Value) (hf : Fill (w.setRow g row) g e (CS.flatten ++ cs.toList) m') : FillN N (w.setRow g row) g e S xs (CS ++ [cs.toList]) m' := by
  have keep : ∀ q, S q → (w.setRow g row).heap[q]? = w.heap[q]? := fun q hq => setRow_other w g q row (hS q hq)
  have hsz := (N.st hR).size
  refine ⟨by simpa using hf, fun i es y h1 h2 => ?_, fun es hes => ?_⟩
  · rcases Nat.lt_trichotomy i CS.length with hlt | rfl | hgt
    · rw [List.getElem?_append_left hlt] at h1
      obtain ⟨h3, h4⟩ := h.rel i es y h1 h2
      exact ⟨h3, N.keep h4 keep⟩
    · rw [hx] at h2
      injection h2 with h2
      subst h2
      rw [List.getElem?_append_right (Nat.le_refl _), Nat.sub_self] at h1
      simp at h1
      subst h1
      exact ⟨by rw [Array.length_toList, hsz], by simpa using N.keep hR keep⟩
    · rw [List.getElem?_eq_none (by simp; omega)] at h1
      cases h1
  · rcases List.mem_append.1 hes with hes | hes
    · exact h.lens es hes
    · simp at hes; subst hes; rw [Array.length_toList, hsz]
theorem FillN.done (h : FillN N w g e S xs CS 0) (hl : CS.length = xs.length) (h47 : xs.length ≤ 140737488355328) (S' : Nat → Prop) (hS : ∀ q, S q → S' q) (hg : S' g) : RdN N w S' (.slice (some ⟨g, 0, none⟩) xs.length xs.length) xs := by
  refine ⟨_, _, rfl, Nat.le_refl _, h47, fun hn => ⟨g, 0, rfl, hg, fun i hi => ?_⟩⟩
  have hi' : i < CS.length := by omega
  obtain ⟨h1, h2⟩ := h.rel i CS[i] xs[i] (List.getElem?_eq_getElem hi') (List.getElem?_eq_getElem hi)
  refine ⟨CS[i], h1, fun j u hu => ?_, N.mono h2 hS⟩
  have hj : j < N.sz := by rw [← h1]; exact (List.getElem?_eq_some_iff.1 hu).1
  rw [Nat.zero_add, h.fill.done.cell, List.getElem?_toArray, flatN_at CS h.lens i _ (List.getElem?_eq_getElem hi') j hj, hu]
end
/-- what the elements weigh, the first k of them -/
def sumW {α : Type} (f : α → Nat) (l : List α) (k : Nat) : Nat := ((l.take k).map f).sum
theorem sumW_zero {α : Type} (f : α → Nat) (l : List α) : sumW f l 0 = 0 := by simp [sumW]
theorem sumW_succ {α : Type} (f : α → Nat) (l : List α) (k : Nat) (h : k < l.length) : sumW f l (k + 1) = sumW f l k + f l[k] := by
  unfold sumW
  rw [List.take_succ_eq_append_getElem h, List.map_append, List.sum_append]; simp
theorem sumW_le {α : Type} (f : α → Nat) (l : List α) (k : Nat) : sumW f l k ≤ (l.map f).sum := by
  unfold sumW
  conv => rhs; rw [← List.take_append_drop k l, List.map_append, List.sum_append]
  omega
theorem sumW_mem {α : Type} (f : α → Nat) (l : List α) (x : α) (h : x ∈ l) : f x ≤ (l.map f).sum := by
  induction l with
  | nil => cases h
  | cons y r ih =>
    simp only [List.map_cons, List.sum_cons]
    rcases List.mem_cons.1 h with rfl | h
    · omega
    · have := ih h; omega
/-- how much a list takes -/
@[irreducible] def szW {α : Type} (f : α → Nat) (l : List α) : Nat := l.length + (l.map f).sum
theorem szW_eq {α : Type} (f : α → Nat) (l : List α) : szW f l = l.length + (l.map f).sum := by rw [szW]
theorem szW_mem {α : Type} (f : α → Nat) (l : List α) (x : α) (h : x ∈ l) : f x ≤ szW f l := by rw [szW_eq]; have := sumW_mem f l x h; omega
end Go.Proofs.Ytnklgkmpcochfaa
/- Lists of commits and lists of maps: copied, counted, held against each other. No condition. -/
namespace Go.Proofs.Ytnklgkmpcochfaa
open Go.RowKit
set_option linter.unusedVariables false
set_option linter.unusedSimpArgs false

/-- a row whose elements take one cell each -/
theorem FillN.one {α : Type} {N : NR α} {w : World} {g e m : Nat} {S : Nat → Prop} {xs : List α} {CS : List (List Value)} (h : FillN N w g e S xs CS (m + 1)) {v : Value} {x : α} (hx : xs[CS.length]? = some x) (hR : N.R w S #[v] x) (hS : ∀ q, S q → q ≠ g) {off : Nat} (ho : CS.flatten.length = off) : FillN N (w.setCell ⟨g, off, none⟩ v) g e S xs (CS ++ [[v]]) m := by
  have keep : ∀ q, S q → (w.setCell ⟨g, off, none⟩ v).heap[q]? = w.heap[q]? := fun q hq => Below.heap_setCell w _ v q (hS q hq)
  have hsz : N.sz = 1 := by have := (N.st hR).size; simpa using this.symm
  have hf := h.fill.one ho v
  refine ⟨by simpa using hf, fun i es y h1 h2 => ?_, fun es hes => ?_⟩
  · rcases Nat.lt_trichotomy i CS.length with hlt | rfl | hgt
    · rw [List.getElem?_append_left hlt] at h1
      obtain ⟨h3, h4⟩ := h.rel i es y h1 h2
      exact ⟨h3, N.keep h4 keep⟩
    · rw [hx] at h2
      injection h2 with h2
      subst h2
      rw [List.getElem?_append_right (Nat.le_refl _), Nat.sub_self] at h1
      simp at h1
      subst h1
      exact ⟨by simp [hsz], by simpa using N.keep hR keep⟩
    · rw [List.getElem?_eq_none (by simp; omega)] at h1
      cases h1
  · rcases List.mem_append.1 hes with hes | hes
    · exact h.lens es hes
    · simp at hes; subst hes; simp [hsz]
def nrCommit : NR Cm where
  sz := 35
  R := RCommit
  pos := by decide
  keep := by
    rintro w w' S cs x ⟨v, h1, h2, h3⟩ hk
    exact ⟨v, h1, h2.keep hk, h3⟩
  ext := fun h e => h.ext e
  mono := by
    rintro w S S' cs x ⟨v, h1, h2, h3⟩ hk
    exact ⟨v, h1, h2.mono hk, h3⟩
  st := fun h => h.st
/-- how much a commit takes -/
def wCommit (x : Cm) : Nat := x.par.length + x.note.size
theorem szCommit_w (cs : Array Value) (x : Cm) (l : Int) (w : World) (S : Nat → Prop) (h : nrCommit.R w S cs x) (h0 : -1 ≤ l) (h1 : l ≤ 1048576) :
    Calls Try.prog 69 #[.agg cs, .int .i64 l] w fun e w' => e = .returned (.int .i64 (if l - (wCommit x : Nat) < 0 then -1 else l - (wCommit x : Nat))) ∧ Ext w w' := szCommit_u cs x l w S h h0 h1
theorem toCommit_w (cs : Array Value) (x : Cm) (w : World) (S : Nat → Prop) (h : nrCommit.R w S cs x) (hy : x.par.length ≤ 1048576) :
    Calls Try.prog 73 #[.agg cs] w fun e w' => ∃ cs', e = .returned (.agg cs') ∧ nrCommit.R w' (fun g => w.heap.size ≤ g ∧ g < w'.heap.size) cs' x ∧ Ext w w' := toCommit_u cs x w S h hy
theorem eqCommit_w (cs cs' : Array Value) (x : Cm) (w : World) (S S' : Nat → Prop) (h : nrCommit.R w S cs x) (h' : nrCommit.R w S' cs' x) :
    Calls Try.prog 76 #[.agg cs, .agg cs'] w fun e w' => e = .returned (.bool true) ∧ Ext w w' := eqCommit_u cs cs' x w S S' h h'
set_option maxHeartbeats 1000000 in
set_option maxRecDepth 100000 in
theorem toCommitS_u (v : Value) (xs : List Cm) (w : World) (S : Nat → Prop) (h : RdN nrCommit w S v xs) (hln : xs.length ≤ 1048576) (hel : ∀ x ∈ xs, x.par.length ≤ 1048576) :
    Calls Try.prog 47 #[v] w fun e w' => ∃ v', e = .returned v' ∧ RdN nrCommit w' (fun q => w.heap.size ≤ q) v' xs ∧ Ext w w' := by
  obtain ⟨A, cap, rfl, hcap, hlen⟩ := h.shape
  have H := Lib.hid h
  have HEL := Lib.hid hel
  clear h hel
  obtain ⟨Z, hms, hm⟩ := make_rowN 48 124 35 80 Try.underlying48 (by kernel_rfl) .i64 .i64 xs.length (by omega) (by omega)
  have HMS := Lib.hid hms
  clear hms
  go_enter Try.func47, Try.ntmps47
  go_wp2
  go_loopw [4] (fun i wr => ∃ (k : Nat) (CS : List (List Value)), k ≤ xs.length ∧ i = .int .i64 k ∧ CS.length = k ∧ FillN nrCommit wr w.heap.size 124 (fun q => w.heap.size < q) xs CS ((xs.length - k) * 35) ∧ Ext w wr ∧ w.heap.size < wr.heap.size)
    (fun i _ => xs.length - (intOf i).toNat)
  case atStart => exact ⟨0, [], by omega, rfl, rfl, ⟨Fill.start' (Blk.new w _ _) (by rw [HMS.out, Nat.sub_zero]), fun i es x h => by simp at h, fun es h => by simp at h⟩, ext_alloc _ _, by simp⟩
  case round =>
    obtain ⟨k, CS, hk, rfl, hcl, hF, hx, hgs⟩ := hrel
    have HFl := Lib.hid hF
    have HX := Lib.hid hx
    have HCL := Lib.hid hcl
    have HGS := Lib.hid hgs
    clear hm hF hx hcl hgs
    by_cases hlt : k < xs.length
    · obtain ⟨g, o, rfl, hs, es, hes, hc, hR⟩ := H.out.elem k hlt
      have HD := Lib.hid (show ∀ j u, es[j]? = some u → wr.cell? ⟨g, o + k * 35 + j, none⟩ = some u from fun j u hu => HX.out.cell (hc j u hu))
      have HR := Lib.hid ((nrCommit).ext hR HX.out)
      have HES := Lib.hid (show es.length = 35 from hes)
      have HXM := Lib.hid (HEL.out xs[k] (List.getElem_mem hlt))
      have HXK := Lib.hid (show xs[k]? = some xs[k] from List.getElem?_eq_getElem hlt)
      have HL := Lib.hid (show CS.flatten.length = k * 35 by rw [flatN_length CS HFl.out.lens, HCL.out]; rfl)
      have HMU := Lib.hid (show (xs.length - k) * 35 = 35 + (xs.length - (k + 1)) * 35 by omega)
      clear hc hR hes
      have hi : (0 : Int) ≤ (k : Int) := by omega
      go_wp2_with (refine wpl_load ⟨g, o + k * 35, none⟩ es (by rw [HES.out]; exact aggCommitL) rfl _ rfl rfl (fun j u hu => by rw [Addr.add_lit]; exact HD.out j u hu) ?_)
      refine (toCommit_w es.toArray xs[k] _ S HR.out HXM.out).mono ?_
      rintro e w1 ⟨cs', rfl, hR', hx⟩
      have HF2 := Lib.hid (HFl.out.ext hx)
      have HR2 := Lib.hid (show (nrCommit).R w1 (fun q => w.heap.size < q) cs' xs[k] from (nrCommit).mono hR' (fun q hq => by have h1 := HGS.out; have h2 := hq.1; omega))
      have HST := Lib.hid (show St 35 cs' from (nrCommit).st hR')
      have HX2 := Lib.hid (HX.out.trans hx)
      have HGS2 := Lib.hid (Nat.lt_of_lt_of_le HGS.out hx.size)
      clear hx HX HFl HD HR hR'
      go_wp2_with (refine wpl_fill (n := 35) (m := (xs.length - (k + 1)) * 35) (by rw [← HMU.out]; exact HF2.out.fill) (by rw [HL.out]) aggCommitI HST.out rfl _ _ rfl rfl rfl rfl ?_; intro row hF; have HF3 := Lib.hid (HF2.out.next (by rw [HCL.out]; exact HXK.out) HR2.out (fun q hq => by omega) row hF); clear hF)
      go_roundw
      case rel => exact ⟨k + 1, _, by omega, by go_num, by rw [List.length_append, HCL.out]; rfl, HF3.out, HX2.out.setRow (Nat.le_refl _) _, by simpa using HGS2.out⟩
      case measure => simp [intOf]; omega
    · obtain rfl : k = xs.length := by omega
      have hb := HFl.out
      rw [Nat.sub_self, Nat.zero_mul] at hb
      have HB := Lib.hid hb
      clear hb
      go_wp2
      go_ret
      exact ⟨_, rfl, HB.out.done HCL.out hlen _ (fun q hq => Nat.le_of_lt hq) (Nat.le_refl _), HX.out⟩

set_option maxHeartbeats 1000000 in
set_option maxRecDepth 100000 in
theorem eqCommitS_u (v u : Value) (xs : List Cm) (w : World) (S S' : Nat → Prop) (h : RdN nrCommit w S v xs) (h' : RdN nrCommit w S' u xs) :
    Calls Try.prog 51 #[v, u] w fun e w' => e = .returned (.bool true) ∧ Ext w w' := by
  obtain ⟨A, cap, rfl, hcap, hlen⟩ := h.shape
  obtain ⟨A', cap', rfl, hcap', hlen'⟩ := h'.shape
  have H := Lib.hid h
  have H' := Lib.hid h'
  clear h h'
  have hl1 : ((xs.length : Int) != (xs.length : Int)) = false := by simp
  go_enter Try.func51, Try.ntmps51
  go_wp2
  go_loopw [5] (fun i wr => ∃ k : Nat, k ≤ xs.length ∧ i = .int .i64 k ∧ Ext w wr) (fun i _ => xs.length - (intOf i).toNat)
  case atStart => exact ⟨0, by omega, rfl, Ext.refl _⟩
  case round =>
    obtain ⟨k, hk, rfl, hx⟩ := hrel
    have HX := Lib.hid hx
    clear hx hl1
    by_cases hlt : k < xs.length
    · obtain ⟨g, o, rfl, hs, es, hes, hc, hR⟩ := H.out.elem k hlt
      obtain ⟨g2, o2, rfl, hs2, es2, hes2, hc2, hR2⟩ := H'.out.elem k hlt
      have HD := Lib.hid (show ∀ j u, es[j]? = some u → wr.cell? ⟨g, o + k * 35 + j, none⟩ = some u from fun j u hu => HX.out.cell (hc j u hu))
      have HD2 := Lib.hid (show ∀ j u, es2[j]? = some u → wr.cell? ⟨g2, o2 + k * 35 + j, none⟩ = some u from fun j u hu => HX.out.cell (hc2 j u hu))
      have HR := Lib.hid ((nrCommit).ext hR HX.out)
      have HR2 := Lib.hid ((nrCommit).ext hR2 HX.out)
      have HES := Lib.hid (show es.length = 35 from hes)
      have HES2 := Lib.hid (show es2.length = 35 from hes2)
      clear hc hc2 hR hR2 hes hes2
      have hi : (0 : Int) ≤ (k : Int) := by omega
      have hi2 : (k : Int) < (xs.length : Int) := by omega
      go_wp2_with fail
      refine wp_region_held_drew (S := fun W => Ext wr W) (by kernel_rfl) (Ext.refl _).drew (fun hHeld => ?_)
      iterate 3
        refine tkD 0 (by simp only [List.size_toArray, List.length_cons, List.length_nil]; rfl) (by simp only [List.getElem?_toArray, List.getElem?_cons_zero, List.getElem?_cons_succ]; rfl) (by kernel_rfl) (by exact fun _ _ _ h => h) (by first | (exact Or.inl ⟨by rfl, by intro w hSw; (try dsimp only at hSw); go_simp; with_reducible rfl⟩) | (exact Or.inr ⟨by rfl, by rfl⟩)) (by assumption) ?_
        try simp only [Act.put, List.setIfInBounds_toArray, List.set_cons_zero, List.set_cons_succ]
      refine tkI 3 (v := (.agg es.toArray)) (by simp only [List.getElem?_toArray, List.getElem?_cons_zero, List.getElem?_cons_succ]; rfl) (by kernel_rfl) (by exact fun _ _ _ h => h) (by refine yields_loadR g (o + k * 35) es (by rw [HES.out]; exact aggCommitI) HD.out ?_ _ rfl rfl; rfl) (by assumption) ?_
      try simp only [Act.put, List.setIfInBounds_toArray, List.set_cons_zero, List.set_cons_succ]
      iterate 3
        refine tkD 0 (by simp only [List.size_toArray, List.length_cons, List.length_nil]; rfl) (by simp only [List.getElem?_toArray, List.getElem?_cons_zero, List.getElem?_cons_succ]; rfl) (by kernel_rfl) (by exact fun _ _ _ h => h) (by first | (exact Or.inl ⟨by rfl, by intro w hSw; (try dsimp only at hSw); go_simp; with_reducible rfl⟩) | (exact Or.inr ⟨by rfl, by rfl⟩)) (by assumption) ?_
        try simp only [Act.put, List.setIfInBounds_toArray, List.set_cons_zero, List.set_cons_succ]
      refine tkI 7 (v := (.agg es2.toArray)) (by simp only [List.getElem?_toArray, List.getElem?_cons_zero, List.getElem?_cons_succ]; rfl) (by kernel_rfl) (by exact fun _ _ _ h => h) (by refine yields_loadR g2 (o2 + k * 35) es2 (by rw [HES2.out]; exact aggCommitI) HD2.out ?_ _ rfl rfl; rfl) (by assumption) ?_
      try simp only [Act.put, List.setIfInBounds_toArray, List.set_cons_zero, List.set_cons_succ]
      refine wpAnyH_ready (rs := [8]) (by kernel_rfl) (by simp) (AllReadyH.cons (o := ?o8) ?h8 (fun K hK => ?s8) AllReadyH.nil)
      case h8 => simp only [List.getElem?_toArray, List.getElem?_cons_zero, List.getElem?_cons_succ]; rfl
      go_simp
      refine (eqCommit_w es.toArray es2.toArray xs[k] _ S S' ((nrCommit).ext HR.out hHeld) ((nrCommit).ext HR2.out hHeld)).mono ?_
      rintro e w1 ⟨rfl, hx⟩
      have hH2 := hHeld.trans hx
      refine hK.out _ _ hH2 (fun _ => ?_)
      clear hHeld hK K
      have hHeld := hH2
      clear hH2 hx
      try simp only [Act.put, List.setIfInBounds_toArray, List.set_cons_zero, List.set_cons_succ]
      refine tkI 9 (by simp only [List.getElem?_toArray, List.getElem?_cons_zero, List.getElem?_cons_succ]; rfl) (by kernel_rfl) (by exact fun _ _ _ h => h) (by first | (exact Or.inl ⟨by rfl, by intro w hSw; (try dsimp only at hSw); go_simp; with_reducible rfl⟩) | (exact Or.inr ⟨by rfl, by rfl⟩)) (by assumption) ?_
      try simp only [Act.put, List.setIfInBounds_toArray, List.set_cons_zero, List.set_cons_succ]
      refine wpAnyH_done (by kernel_rfl) ?_ _
      have HX2 := Lib.hid (HX.out.trans hHeld)
      clear hHeld
      go_wp2
      go_roundw
      case rel => exact ⟨k + 1, by omega, by go_num, HX2.out⟩
      case measure => simp [intOf]; omega
    · go_wp2
      go_ret
      exact ⟨rfl, HX.out⟩

set_option maxHeartbeats 1000000 in
set_option maxRecDepth 100000 in
theorem szCommitS_u (v : Value) (xs : List Cm) (l : Int) (w : World) (S : Nat → Prop) (h : RdN nrCommit w S v xs) (h0 : -1 ≤ l) (h1 : l ≤ 1048576) :
    Calls Try.prog 44 #[v, .int .i64 l] w fun e w' => e = .returned (.int .i64 (if l - (szW wCommit xs : Nat) < 0 then -1 else l - (szW wCommit xs : Nat))) ∧ Ext w w' := by
  rw [szW_eq]
  obtain ⟨A, cap, rfl, hcap, hlen⟩ := h.shape
  have H := Lib.hid h
  obtain ⟨T, hT⟩ : ∃ T, (xs.map wCommit).sum = T := ⟨_, rfl⟩
  have hle := fun k => sumW_le wCommit xs k
  rw [hT] at hle ⊢
  have HT := Lib.hid hT
  have HLE := Lib.hid hle
  clear h hT hle
  by_cases h2 : l - (xs.length : Int) < 0
  · rw [if_pos (by omega)]
    go_enter Try.func44, Try.ntmps44
    go_wp2
    go_ret
    exact ⟨rfl, Ext.refl _⟩
  · obtain ⟨z, hz⟩ : ∃ z : Int, (if l - ((xs.length + T : Nat) : Int) < 0 then -1 else l - ((xs.length + T : Nat) : Int)) = z := ⟨_, rfl⟩
    rw [hz]
    have HZ := Lib.hid hz
    clear hz
    go_enter Try.func44, Try.ntmps44
    go_wp2
    go_loopw [1, 5] (fun q i wr => ∃ k : Nat, k ≤ xs.length ∧ i = .int .i64 k ∧ q = .int .i64 (l - xs.length - (sumW wCommit xs k : Nat)) ∧ 0 ≤ l - (xs.length : Int) - (sumW wCommit xs k : Nat) ∧ Ext w wr) (fun _ i _ => xs.length - (intOf i).toNat)
    case atStart => exact ⟨0, by omega, rfl, by rw [sumW_zero]; simp, by rw [sumW_zero]; omega, Ext.refl _⟩
    case round =>
      obtain ⟨k, hk, rfl, rfl, hs, hx⟩ := hrel
      have HX := Lib.hid hx
      clear hx
      by_cases hlt : k < xs.length
      · obtain ⟨g, o, rfl, hs0, es, hes, hc, hR⟩ := H.out.elem k hlt
        have HD0 := Lib.hid (show ∀ j u, es[j]? = some u → wr.cell? ⟨g, o + k * 35 + j, none⟩ = some u from fun j u hu => HX.out.cell (hc j u hu))
        have HES := Lib.hid (show es.length = 35 from hes)
        have HSS := Lib.hid (sumW_succ wCommit xs k hlt)
        have hq := HLE.out (k + 1)
        rw [HSS.out] at hq
        have hcz := szCommit_w es.toArray xs[k] (l - xs.length - (sumW wCommit xs k : Nat)) wr S ((nrCommit).ext hR HX.out) (by omega) (by omega)
        clear hc hR hes
        have hi : (0 : Int) ≤ (k : Int) := by omega
        have hi2 : (k : Int) < (xs.length : Int) := by omega
        by_cases h3 : l - (xs.length : Int) - (sumW wCommit xs k : Nat) - (wCommit xs[k] : Nat) < 0
        · rw [if_pos h3] at hcz
          have HP := Lib.hid (show l - ((xs.length + T : Nat) : Int) < 0 by omega)
          have HCZ := Lib.hid hcz
          clear hcz
          go_wp2_with (refine wpl_load ⟨g, o + k * 35, none⟩ es (by rw [HES.out]; exact aggCommitL) rfl _ rfl rfl (fun j u hu => by rw [Addr.add_lit]; exact HD0.out j u hu) ?_)
          refine HCZ.out.mono ?_
          rintro e w1 ⟨rfl, hx⟩
          have HX2 := Lib.hid (HX.out.trans hx)
          clear hx
          go_wp2
          go_ret
          exact ⟨by rw [← HZ.out, if_pos HP.out]; rfl, HX2.out⟩
        · rw [if_neg h3] at hcz
          have HCZ := Lib.hid hcz
          clear hcz
          go_wp2_with (refine wpl_load ⟨g, o + k * 35, none⟩ es (by rw [HES.out]; exact aggCommitL) rfl _ rfl rfl (fun j u hu => by rw [Addr.add_lit]; exact HD0.out j u hu) ?_)
          refine HCZ.out.mono ?_
          rintro e w1 ⟨rfl, hx⟩
          have HX2 := Lib.hid (HX.out.trans hx)
          clear hx
          go_wp2
          go_roundw
          case rel => exact ⟨k + 1, by omega, by go_num, by rw [HSS.out]; go_num, by rw [HSS.out]; omega, HX2.out⟩
          case measure => simp [intOf]; omega
      · obtain rfl : k = xs.length := by omega
        have e : sumW wCommit xs xs.length = T := by rw [sumW, List.take_length]; exact HT.out
        have HE := Lib.hid e
        rw [e] at hs
        clear e
        have HP := Lib.hid (show ¬ l - ((xs.length + T : Nat) : Int) < 0 by omega)
        go_wp2
        go_ret
        exact ⟨by rw [← HZ.out, if_neg (Int.not_lt.2 HP.out), HE.out]; exact ret_int (by omega), HX.out⟩

abbrev Ens := List En
def nrEnts : NR Ens where
  sz := 1
  R := fun w S cs x => ∃ v, cs = #[v] ∧ RdL tEnt w S v x
  pos := by decide
  keep := by
    rintro w w' S cs x ⟨v, h1, h2⟩ hk
    exact ⟨v, h1, h2.keep hk⟩
  ext := by
    rintro w w' S cs x ⟨v, h1, h2⟩ e
    exact ⟨v, h1, h2.ext (by decide) e⟩
  mono := by
    rintro w S S' cs x ⟨v, h1, h2⟩ hk
    exact ⟨v, h1, h2.mono hk⟩
  st := by
    rintro w S cs x ⟨v, rfl, ⟨A, cap, rfl, _⟩⟩
    exact ⟨rfl, fun u hu => by simp at hu; subst hu; rfl⟩
set_option maxHeartbeats 1000000 in
set_option maxRecDepth 100000 in
theorem toEntrySS_u (v : Value) (xs : List Ens) (w : World) (S : Nat → Prop) (h : RdN nrEnts w S v xs) (hln : xs.length ≤ 1048576) (hel : ∀ x ∈ xs, x.length ≤ 1048576) :
    Calls Try.prog 48 #[v] w fun e w' => ∃ v', e = .returned v' ∧ RdN nrEnts w' (fun q => w.heap.size ≤ q) v' xs ∧ Ext w w' := by
  obtain ⟨A, cap, rfl, hcap, hlen⟩ := h.shape
  have H := Lib.hid h
  have HEL := Lib.hid hel
  clear h hel
  obtain ⟨Z, hms, hm⟩ := make_rowN 49 126 1 24 Try.underlying49 (by kernel_rfl) .i64 .i64 xs.length (by omega) (by omega)
  have HMS := Lib.hid hms
  clear hms
  go_enter Try.func48, Try.ntmps48
  go_wp2
  go_loopw [4] (fun i wr => ∃ (k : Nat) (CS : List (List Value)), k ≤ xs.length ∧ i = .int .i64 k ∧ CS.length = k ∧ FillN nrEnts wr w.heap.size 126 (fun q => w.heap.size < q) xs CS ((xs.length - k) * 1) ∧ Ext w wr ∧ w.heap.size < wr.heap.size)
    (fun i _ => xs.length - (intOf i).toNat)
  case atStart => exact ⟨0, [], by omega, rfl, rfl, ⟨Fill.start' (Blk.new w _ _) (by rw [HMS.out, Nat.sub_zero]), fun i es x h => by simp at h, fun es h => by simp at h⟩, ext_alloc _ _, by simp⟩
  case round =>
    obtain ⟨k, CS, hk, rfl, hcl, hF, hx, hgs⟩ := hrel
    have HFl := Lib.hid hF
    have HX := Lib.hid hx
    have HCL := Lib.hid hcl
    have HGS := Lib.hid hgs
    clear hm hF hx hcl hgs
    by_cases hlt : k < xs.length
    · obtain ⟨g, o, rfl, hs, es, hes, hc, hR⟩ := H.out.elem k hlt
      obtain ⟨u, hE, hU⟩ := hR
      obtain rfl : es = [u] := by have := congrArg Array.toList hE; simpa using this
      have hcell : wr.cell? ⟨g, o + k, none⟩ = some u := HX.out.cell (by have := hc 0 u rfl; simpa [show (nrEnts).sz = 1 from rfl] using this)
      obtain ⟨A1, c1, rfl, _⟩ := id hU
      have HU := Lib.hid (hU.ext (by decide) HX.out)
      have HXM := Lib.hid (HEL.out xs[k] (List.getElem_mem hlt))
      have HXK := Lib.hid (show xs[k]? = some xs[k] from List.getElem?_eq_getElem hlt)
      have HL := Lib.hid (show CS.flatten.length = k by rw [flatN_length CS HFl.out.lens, HCL.out]; exact Nat.mul_one k)
      have HMU := Lib.hid (show (xs.length - k) * 1 = (xs.length - (k + 1)) * 1 + 1 by omega)
      clear hc hE hU hes
      have hi : (0 : Int) ≤ (k : Int) := by omega
      have hi2 : (k : Int) < (xs.length : Int) := by omega
      go_wp2_with fail
      refine (toEntryS_u _ xs[k] _ S HU.out HXM.out).mono ?_
      rintro e w1 ⟨v', rfl, ho, hx⟩
      obtain ⟨A2, c2, rfl⟩ := ho.shape
      have HF2 := Lib.hid (HFl.out.ext hx)
      have HR2 := Lib.hid (show (nrEnts).R w1 (fun q => w.heap.size < q) #[.slice A2 xs[k].length c2] xs[k] from ⟨_, rfl, ho.rd.mono (fun q hq => by have h1 := HGS.out; have h2 := hq.1; omega)⟩)
      have HX2 := Lib.hid (HX.out.trans hx)
      have HGS2 := Lib.hid (Nat.lt_of_lt_of_le HGS.out hx.size)
      have HF2' := Lib.hid (HMU.out ▸ HF2.out)
      clear hx HX HFl ho hcell HF2
      obtain ⟨⟨u0, d1⟩, f1⟩ := HF2'.out.fill.cell HL.out
      go_wp2_with fail
      have HF3 := Lib.hid (HF2'.out.one (by rw [HCL.out]; exact HXK.out) HR2.out (fun q hq => by omega) HL.out)
      go_roundw
      case rel => exact ⟨k + 1, _, by omega, by go_num, by rw [List.length_append, HCL.out]; rfl, HF3.out, HX2.out.set (Nat.le_refl _) _, by simpa using HGS2.out⟩
      case measure => simp [intOf]; omega
    · obtain rfl : k = xs.length := by omega
      have hb := HFl.out
      rw [Nat.sub_self, Nat.zero_mul] at hb
      have HB := Lib.hid hb
      clear hb
      go_wp2
      go_ret
      exact ⟨_, rfl, HB.out.done HCL.out hlen _ (fun q hq => Nat.le_of_lt hq) (Nat.le_refl _), HX.out⟩

set_option maxHeartbeats 1000000 in
set_option maxRecDepth 100000 in
theorem eqEntrySS_u (v u : Value) (xs : List Ens) (w : World) (S S' : Nat → Prop) (h : RdN nrEnts w S v xs) (h' : RdN nrEnts w S' u xs) :
    Calls Try.prog 52 #[v, u] w fun e w' => e = .returned (.bool true) ∧ Ext w w' := by
  obtain ⟨A, cap, rfl, hcap, hlen⟩ := h.shape
  obtain ⟨A', cap', rfl, hcap', hlen'⟩ := h'.shape
  have H := Lib.hid h
  have H' := Lib.hid h'
  clear h h'
  have hl1 : ((xs.length : Int) != (xs.length : Int)) = false := by simp
  go_enter Try.func52, Try.ntmps52
  go_wp2
  go_loopw [5] (fun i wr => ∃ k : Nat, k ≤ xs.length ∧ i = .int .i64 k ∧ Ext w wr) (fun i _ => xs.length - (intOf i).toNat)
  case atStart => exact ⟨0, by omega, rfl, Ext.refl _⟩
  case round =>
    obtain ⟨k, hk, rfl, hx⟩ := hrel
    have HX := Lib.hid hx
    clear hx hl1
    by_cases hlt : k < xs.length
    · obtain ⟨g, o, rfl, hs, es, hes, hc, hR⟩ := H.out.elem k hlt
      obtain ⟨g2, o2, rfl, hs2, es2, hes2, hc2, hR2⟩ := H'.out.elem k hlt
      obtain ⟨u1, hE, hU⟩ := hR
      obtain rfl : es = [u1] := by have := congrArg Array.toList hE; simpa using this
      obtain ⟨u2, hE2, hU2⟩ := hR2
      obtain rfl : es2 = [u2] := by have := congrArg Array.toList hE2; simpa using this
      have HD : ∀ W, Ext wr W → W.cell? ⟨g, o + k, none⟩ = some u1 := fun W hW => hW.cell (HX.out.cell (by have := hc 0 u1 rfl; simpa [show (nrEnts).sz = 1 from rfl] using this))
      have HD2 : ∀ W, Ext wr W → W.cell? ⟨g2, o2 + k, none⟩ = some u2 := fun W hW => hW.cell (HX.out.cell (by have := hc2 0 u2 rfl; simpa [show (nrEnts).sz = 1 from rfl] using this))
      obtain ⟨A1, c1, rfl, _⟩ := id hU
      obtain ⟨A3, c3, rfl, _⟩ := id hU2
      have HU := Lib.hid (hU.ext (by decide) HX.out)
      have HU2 := Lib.hid (hU2.ext (by decide) HX.out)
      clear hc hc2 hE hE2 hU hU2 hes hes2
      have hi : (0 : Int) ≤ (k : Int) := by omega
      have hi2 : (k : Int) < (xs.length : Int) := by omega
      go_wp2_with fail
      refine wp_region_held_drew (S := fun W => Ext wr W) (by kernel_rfl) (Ext.refl _).drew (fun hHeld => ?_)
      iterate 3
        refine tkD 0 (by simp only [List.size_toArray, List.length_cons, List.length_nil]; rfl) (by simp only [List.getElem?_toArray, List.getElem?_cons_zero, List.getElem?_cons_succ]; rfl) (by kernel_rfl) (by exact fun _ _ _ h => h) (by first | (exact Or.inl ⟨by rfl, by intro w hSw; (try dsimp only at hSw); go_simp; with_reducible rfl⟩) | (exact Or.inr ⟨by rfl, by rfl⟩)) (by assumption) ?_
        try simp only [Act.put, List.setIfInBounds_toArray, List.set_cons_zero, List.set_cons_succ]
      refine tkI 3 (by simp only [List.getElem?_toArray, List.getElem?_cons_zero, List.getElem?_cons_succ]; rfl) (by kernel_rfl) (by exact fun _ _ _ h => h) (by exact Or.inl ⟨by rfl, by intro w hSw; (try dsimp only at hSw); have q0 := HD _ hSw; go_simp; with_reducible rfl⟩) (by assumption) ?_
      try simp only [Act.put, List.setIfInBounds_toArray, List.set_cons_zero, List.set_cons_succ]
      iterate 3
        refine tkD 0 (by simp only [List.size_toArray, List.length_cons, List.length_nil]; rfl) (by simp only [List.getElem?_toArray, List.getElem?_cons_zero, List.getElem?_cons_succ]; rfl) (by kernel_rfl) (by exact fun _ _ _ h => h) (by first | (exact Or.inl ⟨by rfl, by intro w hSw; (try dsimp only at hSw); go_simp; with_reducible rfl⟩) | (exact Or.inr ⟨by rfl, by rfl⟩)) (by assumption) ?_
        try simp only [Act.put, List.setIfInBounds_toArray, List.set_cons_zero, List.set_cons_succ]
      refine tkI 7 (by simp only [List.getElem?_toArray, List.getElem?_cons_zero, List.getElem?_cons_succ]; rfl) (by kernel_rfl) (by exact fun _ _ _ h => h) (by exact Or.inl ⟨by rfl, by intro w hSw; (try dsimp only at hSw); have q0 := HD2 _ hSw; go_simp; with_reducible rfl⟩) (by assumption) ?_
      try simp only [Act.put, List.setIfInBounds_toArray, List.set_cons_zero, List.set_cons_succ]
      refine wpAnyH_ready (rs := [8]) (by kernel_rfl) (by simp) (AllReadyH.cons (o := ?o8) ?h8 (fun K hK => ?s8) AllReadyH.nil)
      case h8 => simp only [List.getElem?_toArray, List.getElem?_cons_zero, List.getElem?_cons_succ]; rfl
      go_simp
      refine (eqEntryS_u _ _ xs[k] _ S S' (HU.out.ext (by decide) hHeld) (HU2.out.ext (by decide) hHeld)).mono ?_
      rintro e w1 ⟨rfl, hx⟩
      have hH2 := hHeld.trans hx
      refine hK.out _ _ hH2 (fun _ => ?_)
      clear hHeld hK K
      have hHeld := hH2
      clear hH2 hx
      try simp only [Act.put, List.setIfInBounds_toArray, List.set_cons_zero, List.set_cons_succ]
      refine tkI 9 (by simp only [List.getElem?_toArray, List.getElem?_cons_zero, List.getElem?_cons_succ]; rfl) (by kernel_rfl) (by exact fun _ _ _ h => h) (by first | (exact Or.inl ⟨by rfl, by intro w hSw; (try dsimp only at hSw); go_simp; with_reducible rfl⟩) | (exact Or.inr ⟨by rfl, by rfl⟩)) (by assumption) ?_
      try simp only [Act.put, List.setIfInBounds_toArray, List.set_cons_zero, List.set_cons_succ]
      refine wpAnyH_done (by kernel_rfl) ?_ _
      have HX2 := Lib.hid (HX.out.trans hHeld)
      clear hHeld
      go_wp2
      go_roundw
      case rel => exact ⟨k + 1, by omega, by go_num, HX2.out⟩
      case measure => simp [intOf]; omega
    · go_wp2
      go_ret
      exact ⟨rfl, HX.out⟩

set_option maxHeartbeats 1000000 in
set_option maxRecDepth 100000 in
theorem szEntrySS_u (v : Value) (xs : List Ens) (l : Int) (w : World) (S : Nat → Prop) (h : RdN nrEnts w S v xs) (h0 : -1 ≤ l) (h1 : l ≤ 1048576) :
    Calls Try.prog 45 #[v, .int .i64 l] w fun e w' => e = .returned (.int .i64 (if l - (szW entsN xs : Nat) < 0 then -1 else l - (szW entsN xs : Nat))) ∧ Ext w w' := by
  rw [szW_eq]
  obtain ⟨A, cap, rfl, hcap, hlen⟩ := h.shape
  have H := Lib.hid h
  obtain ⟨T, hT⟩ : ∃ T, (xs.map entsN).sum = T := ⟨_, rfl⟩
  have hle := fun k => sumW_le entsN xs k
  rw [hT] at hle ⊢
  have HT := Lib.hid hT
  have HLE := Lib.hid hle
  clear h hT hle
  by_cases h2 : l - (xs.length : Int) < 0
  · rw [if_pos (by omega)]
    go_enter Try.func45, Try.ntmps45
    go_wp2
    go_ret
    exact ⟨rfl, Ext.refl _⟩
  · obtain ⟨z, hz⟩ : ∃ z : Int, (if l - ((xs.length + T : Nat) : Int) < 0 then -1 else l - ((xs.length + T : Nat) : Int)) = z := ⟨_, rfl⟩
    rw [hz]
    have HZ := Lib.hid hz
    clear hz
    go_enter Try.func45, Try.ntmps45
    go_wp2
    go_loopw [1, 5] (fun q i wr => ∃ k : Nat, k ≤ xs.length ∧ i = .int .i64 k ∧ q = .int .i64 (l - xs.length - (sumW entsN xs k : Nat)) ∧ 0 ≤ l - (xs.length : Int) - (sumW entsN xs k : Nat) ∧ Ext w wr) (fun _ i _ => xs.length - (intOf i).toNat)
    case atStart => exact ⟨0, by omega, rfl, by rw [sumW_zero]; simp, by rw [sumW_zero]; omega, Ext.refl _⟩
    case round =>
      obtain ⟨k, hk, rfl, rfl, hs, hx⟩ := hrel
      have HX := Lib.hid hx
      clear hx
      by_cases hlt : k < xs.length
      · obtain ⟨g, o, rfl, hs0, es, hes, hc, hR⟩ := H.out.elem k hlt
        obtain ⟨u, hE, hU⟩ := hR
        obtain rfl : es = [u] := by have := congrArg Array.toList hE; simpa using this
        have hcell : wr.cell? ⟨g, o + k, none⟩ = some u := HX.out.cell (by have := hc 0 u rfl; simpa [show (nrEnts).sz = 1 from rfl] using this)
        obtain ⟨A1, c1, rfl, _⟩ := id hU
        have HSS := Lib.hid (sumW_succ entsN xs k hlt)
        have hq := HLE.out (k + 1)
        rw [HSS.out] at hq
        have hcz := szEntryS_u _ xs[k] (l - xs.length - (sumW entsN xs k : Nat)) wr S (hU.ext (by decide) HX.out) (by omega) (by omega)
        clear hc hE hU hes
        have hi : (0 : Int) ≤ (k : Int) := by omega
        have hi2 : (k : Int) < (xs.length : Int) := by omega
        by_cases h3 : l - (xs.length : Int) - (sumW entsN xs k : Nat) - (entsN xs[k] : Nat) < 0
        · rw [if_pos h3] at hcz
          have HP := Lib.hid (show l - ((xs.length + T : Nat) : Int) < 0 by omega)
          have HCZ := Lib.hid hcz
          clear hcz
          go_wp2_with fail
          refine HCZ.out.mono ?_
          rintro e w1 ⟨rfl, hx⟩
          have HX2 := Lib.hid (HX.out.trans hx)
          clear hx
          go_wp2
          go_ret
          exact ⟨by rw [← HZ.out, if_pos HP.out]; rfl, HX2.out⟩
        · rw [if_neg h3] at hcz
          have HCZ := Lib.hid hcz
          clear hcz
          go_wp2_with fail
          refine HCZ.out.mono ?_
          rintro e w1 ⟨rfl, hx⟩
          have HX2 := Lib.hid (HX.out.trans hx)
          clear hx
          go_wp2
          go_roundw
          case rel => exact ⟨k + 1, by omega, by go_num, by rw [HSS.out]; go_num, by rw [HSS.out]; omega, HX2.out⟩
          case measure => simp [intOf]; omega
      · obtain rfl : k = xs.length := by omega
        have e : sumW entsN xs xs.length = T := by rw [sumW, List.take_length]; exact HT.out
        have HE := Lib.hid e
        rw [e] at hs
        clear e
        have HP := Lib.hid (show ¬ l - ((xs.length + T : Nat) : Int) < 0 by omega)
        go_wp2
        go_ret
        exact ⟨by rw [← HZ.out, if_neg (Int.not_lt.2 HP.out), HE.out]; exact ret_int (by omega), HX.out⟩

end Go.Proofs.Ytnklgkmpcochfaa
/- Books: copied, counted, held against each other. No condition. -/
namespace Go.Proofs.Ytnklgkmpcochfaa
open Go.RowKit
set_option linter.unusedVariables false
set_option linter.unusedSimpArgs false

abbrev Bk := List Cm × List Ens
/-- the cells of a book -/
def RBook (w : World) (S : Nat → Prop) (cs : Array Value) (x : Bk) : Prop := ∃ v1 v2, cs = #[v1, v2] ∧ RdN nrCommit w S v1 x.1 ∧ RdN nrEnts w S v2 x.2
section
variable {w w' : World} {S : Nat → Prop} {cs : Array Value} {x : Bk}
theorem RBook.ext (h : RBook w S cs x) (e : Ext w w') : RBook w' S cs x := by
  obtain ⟨v1, v2, h1, h2, h3⟩ := h
  exact ⟨v1, v2, h1, h2.ext e, h3.ext e⟩
theorem RBook.st (h : RBook w S cs x) : St 2 cs := by
  obtain ⟨v1, v2, rfl, h2, h3⟩ := h
  obtain ⟨A, cap, rfl, _⟩ := h2.shape
  obtain ⟨A2, cap2, rfl, _⟩ := h3.shape
  exact ⟨rfl, fun u hu => by simp at hu; rcases hu with rfl | rfl <;> rfl⟩
end
theorem aggBookL : Agg Try.prog 44 2 := Agg.mkS (fs := _) Try.underlying44 (by kernel_rfl)
theorem aggBookI : Agg Try.prog 51 2 := Agg.mkS (fs := _) Try.underlying51 (by kernel_rfl)
/-- how much a book takes -/
@[irreducible] def wBook (x : Bk) : Nat := szW wCommit x.1 + szW entsN x.2
theorem wBook_eq (x : Bk) : wBook x = szW wCommit x.1 + szW entsN x.2 := by rw [wBook]
/-- a book of this size can be copied -/
def smallBook (x : Bk) : Prop := (x.1.length ≤ 1048576 ∧ ∀ c ∈ x.1, c.par.length ≤ 1048576) ∧ x.2.length ≤ 1048576 ∧ ∀ e ∈ x.2, e.length ≤ 1048576
theorem smallBook_of {x : Bk} (h : wBook x ≤ 1048576) : smallBook x := by
  rw [wBook_eq] at h
  have h1 := szW_eq wCommit x.1
  have h2 := szW_eq entsN x.2
  refine ⟨⟨by omega, fun c hc => ?_⟩, by omega, fun e he => ?_⟩
  · have h3 := szW_mem wCommit x.1 c hc
    unfold wCommit at h3
    unfold wCommit at h h1
    omega
  · have h3 := szW_mem entsN x.2 e he
    rw [entsN_eq] at h3
    omega
set_option maxHeartbeats 1000000 in
set_option maxRecDepth 100000 in
theorem szBook_u (cs : Array Value) (x : Bk) (l : Int) (w : World) (S : Nat → Prop) (h : RBook w S cs x) (h0 : -1 ≤ l) (h1 : l ≤ 1048576) :
    Calls Try.prog 21 #[.agg cs, .int .i64 l] w fun e w' => e = .returned (.int .i64 (if l - (wBook x : Nat) < 0 then -1 else l - (wBook x : Nat))) ∧ Ext w w' := by
  rw [wBook_eq]
  obtain ⟨v1, v2, rfl, hr, hr2⟩ := h
  have hc := fun W hW => szCommitS_u v1 x.1 l W S (hr.ext hW) h0 h1
  have hc2 := fun m W hW h2 h3 => szEntrySS_u v2 x.2 m W S (hr2.ext hW) h2 h3
  obtain ⟨A, cap, rfl, _⟩ := hr.shape
  obtain ⟨A2, cap2, rfl, _⟩ := hr2.shape
  obtain ⟨a, ha⟩ : ∃ a, szW wCommit x.1 = a := ⟨_, rfl⟩
  obtain ⟨b, hb⟩ : ∃ b, szW entsN x.2 = b := ⟨_, rfl⟩
  rw [ha] at hc ⊢
  rw [hb] at hc2 ⊢
  clear hr hr2 ha hb
  have B0 := Lib.hid (Blk.new w 44 #[.slice A x.1.length cap, .slice A2 x.2.length cap2])
  by_cases h2 : l - (a : Int) < 0
  · rw [if_pos (by omega)]
    simp only [if_pos h2] at hc
    have HC := Lib.hid hc
    clear hc hc2 h2
    go_enter Try.func21, Try.ntmps21
    go_wp2_with fail
    refine (HC.out _ (ext_alloc _ _)).mono ?_
    rintro e w1 ⟨rfl, hx⟩
    have HX := Lib.hid ((ext_alloc _ _).trans hx)
    clear hx
    go_wp2
    go_ret
    exact ⟨rfl, HX.out⟩
  · simp only [if_neg h2] at hc
    have HC := Lib.hid hc
    clear hc
    by_cases h3 : l - (a : Int) - (b : Int) < 0
    · rw [if_pos (by omega)]
      have HC2 := Lib.hid (fun W hW => hc2 (l - (a : Int)) W hW (by omega) (by omega))
      simp only [if_pos h3] at HC2
      clear hc2
      go_enter Try.func21, Try.ntmps21
      go_wp2_with fail
      refine (HC.out _ (ext_alloc _ _)).mono ?_
      rintro e w1 ⟨rfl, hx⟩
      have HX := Lib.hid ((ext_alloc _ _).trans hx)
      have d0 := (B0.out.ext hx).at_ 1 rfl
      clear hx
      go_wp2_with fail
      refine (HC2.out _ HX.out).mono ?_
      rintro e w2 ⟨rfl, hx⟩
      have HX2 := Lib.hid (HX.out.trans hx)
      clear hx d0
      go_wp2
      go_ret
      exact ⟨rfl, HX2.out⟩
    · rw [if_neg (by omega)]
      have HC2 := Lib.hid (fun W hW => hc2 (l - (a : Int)) W hW (by omega) (by omega))
      simp only [if_neg h3] at HC2
      clear hc2
      go_enter Try.func21, Try.ntmps21
      go_wp2_with fail
      refine (HC.out _ (ext_alloc _ _)).mono ?_
      rintro e w1 ⟨rfl, hx⟩
      have HX := Lib.hid ((ext_alloc _ _).trans hx)
      have d0 := (B0.out.ext hx).at_ 1 rfl
      clear hx
      go_wp2_with fail
      refine (HC2.out _ HX.out).mono ?_
      rintro e w2 ⟨rfl, hx⟩
      have HX2 := Lib.hid (HX.out.trans hx)
      clear hx d0
      go_wp2
      go_ret
      exact ⟨ret_int (by omega), HX2.out⟩
set_option maxHeartbeats 1000000 in
set_option maxRecDepth 100000 in
theorem toBook_u (cs : Array Value) (x : Bk) (w : World) (S : Nat → Prop) (h : RBook w S cs x) (hln : smallBook x) :
    Calls Try.prog 23 #[.agg cs] w fun e w' => ∃ cs', e = .returned (.agg cs') ∧ RBook w' (fun g => w.heap.size ≤ g) cs' x ∧ Ext w w' := by
  obtain ⟨v1, v2, rfl, hr, hr2⟩ := h
  have HC := Lib.hid (fun W hW => toCommitS_u v1 x.1 W S (hr.ext hW) hln.1.1 hln.1.2)
  have HC2 := Lib.hid (fun W hW => toEntrySS_u v2 x.2 W S (hr2.ext hW) hln.2.1 hln.2.2)
  obtain ⟨A, cap, rfl, _⟩ := hr.shape
  obtain ⟨A2, cap2, rfl, _⟩ := hr2.shape
  clear hr hr2
  go_enter Try.func23, Try.ntmps23
  go_wp2_with fail
  refine (HC.out _ (((ext_alloc _ _).alloc _).alloc _)).mono ?_
  rintro e w1 ⟨v', rfl, hr, hx⟩
  obtain ⟨B, bc, rfl, _⟩ := hr.shape
  have HR := Lib.hid (hr.mono (S' := fun q => w.heap.size + 3 ≤ q) (fun q hq => by simpa using hq))
  have XW := Lib.hid ((((ext_alloc w _).alloc _).alloc _).trans hx)
  have hnb : w.heap.size + 3 ≤ w1.heap.size := by have := hx.size; simpa using this
  have B0 := Lib.hid ((((Blk.new w 44 #[.slice A x.1.length cap, .slice A2 x.2.length cap2]).alloc (.cells #[.slice none 0 0, .slice none 0 0] 51)).alloc (.cells #[.slice none 0 0, .slice none 0 0] 51)).ext hx)
  have B1 := Lib.hid (((Blk.new' (g := w.heap.size + 1) (w := w.alloc (.cells #[.slice A x.1.length cap, .slice A2 x.2.length cap2] 44)) (by simp) 51 #[.slice none 0 0, .slice none 0 0]).alloc (.cells #[.slice none 0 0, .slice none 0 0] 51)).ext hx)
  have B2 := Lib.hid ((Blk.new' (g := w.heap.size + 2) (w := (w.alloc (.cells #[.slice A x.1.length cap, .slice A2 x.2.length cap2] 44)).alloc (.cells #[.slice none 0 0, .slice none 0 0] 51)) (by simp) 51 #[.slice none 0 0, .slice none 0 0]).ext hx)
  clear hr hx
  have d0 := B0.out.at_ 1 rfl
  have d2 := B2.out.at_ 0 rfl
  have f2 := B2.out.free 0
  have d3 : (w1.setCell ⟨w.heap.size + 1 + 1, 0, none⟩ (.slice B x.1.length bc)).cell? ⟨w.heap.size, 1, none⟩ = some (.slice A2 x.2.length cap2) := (B0.out.far (p := ⟨w.heap.size + 1 + 1, 0, none⟩) (by show w.heap.size ≠ w.heap.size + 1 + 1; omega) _).at_ 1 rfl
  have XS := Lib.hid (XW.out.set (p := ⟨w.heap.size + 1 + 1, 0, none⟩) (by show w.heap.size ≤ w.heap.size + 1 + 1; omega) (.slice B x.1.length bc))
  have B1' := Lib.hid (B1.out.far (p := ⟨w.heap.size + 1 + 1, 0, none⟩) (by show w.heap.size + 1 ≠ w.heap.size + 1 + 1; omega) (.slice B x.1.length bc))
  have B2' := Lib.hid (B2.out.set 0 (.slice B x.1.length bc))
  have HR' := Lib.hid (HR.out.far (p := ⟨w.heap.size + 1 + 1, 0, none⟩) (fun g hg => by have h2 : w.heap.size + 3 ≤ g := hg; show g ≠ w.heap.size + 1 + 1; omega) (.slice B x.1.length bc))
  go_wp2_with fail
  refine (HC2.out _ XS.out).mono ?_
  rintro e w2 ⟨v', rfl, hr, hx⟩
  obtain ⟨C, cc, rfl, _⟩ := hr.shape
  have HE := Lib.hid (hr.mono (S' := fun q => w.heap.size + 3 ≤ q) (fun q hq => Nat.le_trans hnb (by simpa using hq)))
  have HR2 := Lib.hid (HR'.out.ext hx)
  have XW2 := Lib.hid (XS.out.trans hx)
  have C1 := Lib.hid (B1'.out.ext hx)
  have C2 := Lib.hid (B2'.out.ext hx)
  clear hr hx d0 d2 d3 f2 B0 B1 B2 B1' B2' HR HR' XW XS hnb
  have e0 := C2.out.at_ 0 rfl
  have e1 := C2.out.at_ 1 rfl
  have f1 := C2.out.free 1
  have D2 := Lib.hid (C2.out.set 1 (.slice C x.2.length cc))
  have D1 := Lib.hid (C1.out.far (p := ⟨w.heap.size + 1 + 1, 1, none⟩) (by show w.heap.size + 1 ≠ w.heap.size + 1 + 1; omega) (.slice C x.2.length cc))
  have hS : St 2 #[.slice B x.1.length bc, .slice C x.2.length cc] := ⟨rfl, fun u hu => by simp at hu; rcases hu with rfl | rfl <;> rfl⟩
  have HS := Lib.hid hS
  clear hS
  go_wp2_with (first | (refine wpl_loadB (cs := #[.slice B x.1.length bc, .slice C x.2.length cc]) D2.out aggBookI rfl rfl _ rfl rfl ?_) | (refine wpl_storeB (cs := #[.slice B x.1.length bc, .slice C x.2.length cc]) D1.out aggBookI HS.out rfl rfl _ _ rfl rfl rfl rfl ?_))
  have F : ∀ {α : Type} {N : NR α} {v : Value} {xs : List α}, RdN N w2 (fun q => w.heap.size + 3 ≤ q) v xs → RdN N ((w2.setCell ⟨w.heap.size + 1 + 1, 1, none⟩ (.slice C x.2.length cc)).setRow (w.heap.size + 1) #[.slice B x.1.length bc, .slice C x.2.length cc]) (fun g => w.heap.size ≤ g) v xs := fun h =>
    ((h.far (p := ⟨w.heap.size + 1 + 1, 1, none⟩) (fun g hg => by have h2 : w.heap.size + 3 ≤ g := hg; show g ≠ w.heap.size + 1 + 1; omega) _).keep (fun g hg => setRow_other _ _ g _ (by have h2 : w.heap.size + 3 ≤ g := hg; omega))).mono (fun g hg => by have h2 : w.heap.size + 3 ≤ g := hg; show w.heap.size ≤ g; omega)
  refine bodyPost_ret (results_blkB rfl _ rfl aggBookI rfl (D1.out.setRow _)) rfl ?_
  exact ⟨_, rfl, ⟨_, _, rfl, F HR2.out, F HE.out⟩, (XW2.out.set (by show w.heap.size ≤ w.heap.size + 1 + 1; omega) _).setRow (by omega) _⟩
set_option maxHeartbeats 1000000 in
set_option maxRecDepth 100000 in
theorem eqBook_u (cs cs' : Array Value) (x : Bk) (w : World) (S S' : Nat → Prop) (h : RBook w S cs x) (h' : RBook w S' cs' x) :
    Calls Try.prog 26 #[.agg cs, .agg cs'] w fun e w' => e = .returned (.bool true) ∧ Ext w w' := by
  obtain ⟨v1, v2, rfl, hr, hr2⟩ := h
  obtain ⟨u1, u2, rfl, hr', hr2'⟩ := h'
  have HC := Lib.hid (fun W hW => eqCommitS_u v1 u1 x.1 W S S' (hr.ext hW) (hr'.ext hW))
  have HC2 := Lib.hid (fun W hW => eqEntrySS_u v2 u2 x.2 W S S' (hr2.ext hW) (hr2'.ext hW))
  obtain ⟨A, cap, rfl, _⟩ := hr.shape
  obtain ⟨A2, cap2, rfl, _⟩ := hr2.shape
  obtain ⟨B, bap, rfl, _⟩ := hr'.shape
  obtain ⟨B2, bap2, rfl, _⟩ := hr2'.shape
  clear hr hr2 hr' hr2'
  have B0 := Lib.hid ((Blk.new w 51 #[.slice A x.1.length cap, .slice A2 x.2.length cap2]).alloc (.cells #[.slice B x.1.length bap, .slice B2 x.2.length bap2] 51))
  have B1 := Lib.hid (Blk.new' (g := w.heap.size + 1) (w := w.alloc (.cells #[.slice A x.1.length cap, .slice A2 x.2.length cap2] 51)) (by simp) 51 #[.slice B x.1.length bap, .slice B2 x.2.length bap2])
  go_enter Try.func26, Try.ntmps26
  go_wp2_with fail
  refine (HC.out _ ((ext_alloc _ _).alloc _)).mono ?_
  rintro e w1 ⟨rfl, hx⟩
  have XW := Lib.hid (((ext_alloc w _).alloc _).trans hx)
  have d0 := (B0.out.ext hx).at_ 1 rfl
  have d1 := (B1.out.ext hx).at_ 1 rfl
  clear hx
  go_wp2_with fail
  refine (HC2.out _ XW.out).mono ?_
  rintro e w2 ⟨rfl, hx⟩
  have XW2 := Lib.hid (XW.out.trans hx)
  clear hx d0 d1
  go_wp2_with fail
  go_ret
  exact ⟨rfl, XW2.out⟩
end Go.Proofs.Ytnklgkmpcochfaa
/- A name's place in a map: the reference and the program. No condition. -/
namespace Go.Proofs.Ytnklgkmpcochfaa
open Go.RowKit
set_option linter.unusedVariables false
set_option linter.unusedSimpArgs false

end Go.Proofs.Ytnklgkmpcochfaa
/- The entries of a range: the reference. No condition. -/
namespace Go.Proofs.Ytnklgkmpcochfaa
open Go.RowKit
set_option linter.unusedVariables false
set_option linter.unusedSimpArgs false

end Go.Proofs.Ytnklgkmpcochfaa
/- Rows of entries, entry by entry: read out of an owned row, written, shut again. No condition. -/
namespace Go.Proofs.Ytnklgkmpcochfaa
open Go.RowKit
set_option linter.unusedVariables false
set_option linter.unusedSimpArgs false

theorem grown_row {w w' : World} {g : Nat} (h : w.grownBy w' (some g)) (cs : Array Value) : w.grownBy (w'.setRow g cs) (some g) :=
  grown_trans h ⟨rfl, rfl, rfl, by simp, fun k hk hne => setRow_other w' g k cs (fun e => hne (by rw [e]))⟩
end Go.Proofs.Ytnklgkmpcochfaa
/- Steps of regions that make and fill variables; structs built of parts. No condition. -/
namespace Go.Proofs.Ytnklgkmpcochfaa
open Go.RowKit
set_option linter.unusedVariables false
set_option linter.unusedSimpArgs false

section
variable {P : Program} {ops : Array Oper} {o : Oper} {a : Act} {w : World} {K : Act → World → Prop} {Q : Exit → Act → World → Prop} {E : Prop}
/-- a new variable: one step of a region -/
theorem stp_alloc {t : TypeId} (z : Array Value) (hz : (P.info? t).map (·.zero) = some (some (.agg z))) (hgd : o.guard = none) (ho : o.op = .alloc t)
    (h : K (a.put o.dst (.pointer (some ⟨w.heap.size, 0, none⟩))) (w.alloc (.cells z t))) : if Region.wanted o (yielded ops a.tmps) = true then Oper.wp P o a w K Q else E := by
  have hw : Region.wanted o (yielded ops a.tmps) = true := by simp [Region.wanted, hgd]
  rw [if_pos hw]
  cases hq : P.info? t with
  | none => simp [hq] at hz
  | some i =>
    have hz' : i.zero = some (.agg z) := by simpa [hq] using hz
    have hrun : (Instr.alloc t true (.tuple #[])).run P w = .ok (.pointer (some ⟨w.heap.size, 0, none⟩)) (w.alloc (.cells z t)) := by
      simp [Instr.alloc, zeroValue, typeInfo, hq, hz', newVar, newRow, Value.cells]
    unfold Oper.wp execOp
    simp only [ho, Sem.run_bind, hrun, Result.andThen_ok, Sem.run_pure]
    exact h
/-- a variable of a struct's type, made full: one step of a region -/
theorem stp_box {t : TypeId} {cs : Array Value} (hgd : o.guard = none) (x : Operand) (ho : o.op = .box t x) (hx : a.eval x = .agg cs)
    (h : K (a.put o.dst (.pointer (some ⟨w.heap.size, 0, none⟩))) (w.alloc (.cells cs t))) : if Region.wanted o (yielded ops a.tmps) = true then Oper.wp P o a w K Q else E := by
  have hw : Region.wanted o (yielded ops a.tmps) = true := by simp [Region.wanted, hgd]
  rw [if_pos hw]
  have hrun : (Instr.box t (.agg cs)).run P w = .ok (.pointer (some ⟨w.heap.size, 0, none⟩)) (w.alloc (.cells cs t)) := by
    simp [Instr.box, newVar, newRow, Value.cells]
  unfold Oper.wp execOp
  simp only [ho, hx, Sem.run_bind, hrun, Result.andThen_ok, Sem.run_pure]
  exact h
/-- a struct is stored: one step of a region -/
theorem stp_storeP {t g e n off : Nat} {cs cur : Array Value} (hb : Blk w g e cur) (ht : Agg P t n) (hs : St n cs) (hl : off + n ≤ cur.size) (hgd : o.guard = none) (x y : Operand) (ho : o.op = .store t x y)
    (hx : a.eval x = .pointer (some ⟨g, off, none⟩)) (hy : a.eval y = .agg cs) (hd : o.dst = none) (h : K a (w.setRow g (splice cur off cs.toList))) :
    if Region.wanted o (yielded ops a.tmps) = true then Oper.wp P o a w K Q else E := by
  have hw : Region.wanted o (yielded ops a.tmps) = true := by simp [Region.wanted, hgd]
  rw [if_pos hw]
  have hsz : cs.toList.length = n := by rw [Array.length_toList, hs.size]
  have hrun := run_storeCells_at P g off e cs.toList 0 cur w hb (by rw [hsz]; simpa using hl) hs.one
  simp only [Nat.add_zero] at hrun
  have ht2 := ht.2
  cases hq : P.info? t with
  | none => simp [hq] at ht2
  | some i =>
    have hs' : i.size = cs.toList.length := by rw [hsz]; simpa [hq] using ht2
    unfold Oper.wp execOp
    simp only [ho, hx, hy, Instr.storeAt, Instr.sureAddr, Sem.run_bind, Sem.run_pure, Result.andThen_ok]
    have hst : (storeVar t ⟨g, off, none⟩ (.agg cs)).run P w = .ok () (w.setRow g (splice cur off cs.toList)) := by
      simp only [storeVar, Sem.run_bind, sizeOf, typeInfo]
      simp only [Array.length_toList] at hs'
      simp [hq, hs', Value.cells, hrun, splice]
    rw [hst]
    simp only [Result.andThen_ok, Sem.run_pure]
    simpa [hd, Act.put, Oper.upon] using h
theorem yields_build {S : World → Prop} {t : TypeId} {parts : Array (Nat × Operand)} {cells : Array Value} (hw : Region.wanted o (yielded ops a.tmps) = true) (ho : o.op = .build t parts)
    (hb : P.built t (parts.toList.map fun p => (p.1, a.eval p.2)) = some cells) : YieldsIf P ops S o (.agg cells) a := Or.inl ⟨hw, fun W hW => by
  replace hb : P.built t (parts.map fun (i, x) => (i, a.eval x)).toList = some cells := by rw [Array.toList_map]; exact hb
  unfold execOp
  simp only [ho, Sem.run_bind, run_build (P := P) W t _ cells hb, Result.andThen_ok, Sem.run_pure]⟩
theorem wpl_buildN {rest : List Oper} {t : TypeId} {parts : Array (Nat × Operand)} {cells : Array Value} (hgd : o.guard = none) (ho : o.op = .build t parts)
    (hb : P.built t (parts.toList.map fun p => (p.1, a.eval p.2)) = some cells) (h : wpList P ops Q rest (a.put o.dst (.agg cells)) w) : wpList P ops Q (o :: rest) a w := by
  replace hb : P.built t (parts.map fun (i, x) => (i, a.eval x)).toList = some cells := by rw [Array.toList_map]; exact hb
  refine wpList_plain hgd fun K hK => ?_
  refine wp_build t parts ho (by rw [hb]; rfl) ?_
  rw [hb]
  exact hK _ _ h
end
theorem fill_at (l : List Value) (n off : Nat) (Z : Array Value) (h : off + n + l.length ≤ Z.size) : ((l.zipIdx n).foldl (fun cs x => cs.setIfInBounds (off + x.2) x.1) Z) = splice Z (off + n) l := by
  induction l generalizing n Z with
  | nil =>
    simp only [List.zipIdx_nil, List.foldl_nil, splice, List.length_nil, Nat.add_zero, List.append_nil, List.take_append_drop, Array.toArray_toList]
  | cons x r ih =>
    simp only [List.length_cons] at h
    simp only [List.zipIdx_cons, List.foldl_cons]
    rw [ih (n + 1) _ (by simp; omega)]
    have e := list_seg_step Z.toList (off + n) x r (by simp; omega)
    unfold splice
    rw [Array.toList_setIfInBounds, List.length_cons]
    rw [show off + (n + 1) = off + n + 1 by omega, e]
theorem fill_one (place : Nat → Option (Nat × Nat)) (Z : Array Value) (i off n : Nat) (v : Value) (rest : List (Nat × Value)) (hp : place i = some (off, n)) (hv : v.cells.size = n) (hl : off + n ≤ Z.size) :
    Instr.fill place Z ((i, v) :: rest) = Instr.fill place (splice Z off v.cells.toList) rest := by
  have hf := fill_at v.cells.toList 0 off Z (by rw [Array.length_toList, hv]; omega)
  have hz : v.cells.zipIdx.foldl (fun cs x => cs.setIfInBounds (off + x.2) x.1) Z = splice Z off v.cells.toList := by
    rw [← Array.foldl_toList, Array.toList_zipIdx]
    simpa using hf
  rw [Instr.fill, hp]
  simp only [hv]
  rw [if_neg (by simp; omega)]
  exact congrArg (fun z => Instr.fill place z rest) hz
def zNd : List Value := List.replicate 64 (Value.int .u8 0) ++ [Value.string ⟨#[]⟩, Value.string ⟨#[]⟩]
theorem fold_fillA (cs Z : Array Value) (n : Nat) (hn : cs.size = n) (h : Z.size = n) : Array.foldl (fun cs x => cs.setIfInBounds x.2 x.1) Z cs.zipIdx 0 n = cs := by
  subst hn
  have e := fold_fill cs.toList Z (by simpa using h)
  rw [← Array.toList_zipIdx, Array.foldl_toList] at e
  simpa using e
/-- a node, built of its parts -/
theorem built_node (x : Nd) (hx : x.ok) : Try.prog.built 171 [(0, .agg (numsA .u8 x.l)), (1, .agg (numsA .u8 x.r)), (2, .agg #[.string x.n, .string x.v])] = some x.enc.toArray := by
  have hb : ∀ parts, Try.prog.built 171 parts = Instr.fill (fun i => #[(0, 32), (32, 32), (64, 2)][i]?) zNd.toArray parts := fun parts => by kernel_rfl
  have hnl : (nums .u8 x.l).length = 32 := by rw [nums_length, hx.1.1]
  have hnr : (nums .u8 x.r).length = 32 := by rw [nums_length, hx.2.1.1]
  have e1 : splice zNd.toArray 0 (nums .u8 x.l) = (nums .u8 x.l ++ zNd.drop 32).toArray := by
    have := splice_next [] zNd (nums .u8 x.l) (o := 0) rfl
    rw [hnl] at this
    simpa using this
  have e2 : splice (nums .u8 x.l ++ zNd.drop 32).toArray 32 (nums .u8 x.r) = (nums .u8 x.l ++ nums .u8 x.r ++ zNd.drop 64).toArray := by
    have := splice_next (nums .u8 x.l) (zNd.drop 32) (nums .u8 x.r) (o := 32) hnl
    rw [hnr, List.drop_drop] at this
    exact this
  have e3 : splice (nums .u8 x.l ++ nums .u8 x.r ++ zNd.drop 64).toArray 64 [.string x.n, .string x.v] = x.enc.toArray := by
    have := splice_next (nums .u8 x.l ++ nums .u8 x.r) (zNd.drop 64) [.string x.n, .string x.v] (o := 64) (by rw [List.length_append, hnl, hnr])
    rw [show (zNd.drop 64).drop ([Value.string x.n, Value.string x.v]).length = [] from rfl, List.append_nil] at this
    exact this
  have c1 : (Value.agg (numsA .u8 x.l)).cells.toList = nums .u8 x.l := rfl
  have c2 : (Value.agg (numsA .u8 x.r)).cells.toList = nums .u8 x.r := rfl
  have c3 : (Value.agg #[.string x.n, .string x.v]).cells.toList = [.string x.n, .string x.v] := rfl
  have z1 : zNd.length = 66 := rfl
  rw [hb, fill_one _ _ 0 0 32 _ _ rfl (by rw [← Array.length_toList, c1, hnl]) (by rw [List.size_toArray, z1]; decide), c1, e1,
    fill_one _ _ 1 32 32 _ _ rfl (by rw [← Array.length_toList, c2, hnr]) (by rw [List.size_toArray, List.length_append, hnl]; decide), c2, e2,
    fill_one _ _ 2 64 2 _ _ rfl rfl (by rw [List.size_toArray, List.length_append, List.length_append, hnl, hnr]; decide), c3, e3, Instr.fill]
/-- a number and a whole array in a variable are the results -/
theorem results_tb {P : Program} {w : World} {fn : Func} {c d : Tmp} {t g e n : Nat} {cs : Array Value} (hr : fn.results = #[.tmp d, .cell c t]) (tmps : Array Value) (hp : tmps.getD c undef = .pointer (some ⟨g, 0, none⟩)) (ht : Agg P t n) (hn : cs.size = n) (hb : Blk w g e cs) {v : Value} (hv : tmps.getD d undef = v) :
    (results fn tmps).run P w = .ok (.tuple #[v, .agg cs]) w := by
  have hl := run_loadB (P := P) hb ht hn
  have hp' : tmps[c]?.getD undef = .pointer (some ⟨g, 0, none⟩) := by simpa using hp
  have hv' : tmps[d]?.getD undef = v := by simpa using hv
  simp [results, hr, hp', hv', asAddr, hl]
theorem rowNd : Row Try.prog tNd 163 171 96 := Row.mk' Try.underlying163 (.agg zNd.toArray) (by kernel_rfl) rfl (by decide) (by decide)
theorem rd_nd {w : World} {S : Nat → Prop} {A : Option Addr} {c n : Nat} {xs : List Nd} (h : RdL tNd w S (.slice A n c) xs) : Rd w S tNd.sz A xs.length (xs.flatMap tNd.enc) := by
  obtain ⟨A', cap, e, h1, h2, h3, h4⟩ := h
  injection e with e1 e2 e3
  subst e1
  exact h3
theorem ok_nd {w : World} {S : Nat → Prop} {v : Value} {xs : List Nd} (h : RdL tNd w S v xs) : ∀ y ∈ xs, tNd.ok y := by
  obtain ⟨A', cap, e, h1, h2, h3, h4⟩ := h
  exact h4
end Go.Proofs.Ytnklgkmpcochfaa
/- Loads of whole arrays that every world of a region's condition answers alike (PkI's, for seats without lists). No condition. -/
namespace Go.Proofs.Ytnklgkmpcochfaa
open Go.RowKit
set_option linter.unusedVariables false
set_option linter.unusedSimpArgs false

theorem yields_loadSP {P : Program} {ops : Array Oper} {op : Oper} {a : Act} {S : World → Prop} {t : Nat} (g o : Nat) (cs : List Value) (ht : Agg P t cs.length) (hc : ∀ W, S W → ∀ j u, cs[j]? = some u → W.cell? ⟨g, o + j, none⟩ = some u) (hw : Region.wanted op (yielded ops a.tmps) = true) (x : Operand) (ho : op.op = .load t x) (hx : a.eval x = .pointer (some ⟨g, o, none⟩)) :
    YieldsIf P ops S op (.agg cs.toArray) a := Or.inl ⟨hw, fun W hW => by
  have hl := run_loadVar_at (P := P) (w := W) (t := t) ⟨g, o, none⟩ cs ht (fun j u hu => by rw [Addr.add_lit]; exact hc W hW j u hu)
  unfold execOp
  simp only [ho, hx, Instr.loadAt, Instr.sureAddr, Sem.run_bind, Sem.run_pure, Result.andThen_ok, hl]⟩
theorem yields_loadBSP {P : Program} {ops : Array Oper} {o : Oper} {a : Act} {S : World → Prop} {t g e n : Nat} {cs : Array Value} (hb : ∀ W, S W → Blk W g e cs) (ht : Agg P t n) (hn : cs.size = n) (hw : Region.wanted o (yielded ops a.tmps) = true) (x : Operand) (ho : o.op = .load t x) (hx : a.eval x = .pointer (some ⟨g, 0, none⟩)) :
    YieldsIf P ops S o (.agg cs) a := Or.inl ⟨hw, fun W hW => by
  unfold execOp
  simp only [ho, hx, Instr.loadAt, Instr.sureAddr, Sem.run_bind, Sem.run_pure, Result.andThen_ok, run_loadB (hb W hW) ht hn]⟩
end Go.Proofs.Ytnklgkmpcochfaa
/- Two variables of a struct's type, made and filled at once. No condition. -/
namespace Go.Proofs.Ytnklgkmpcochfaa
open Go.RowKit Go.BigFrame
set_option linter.unusedVariables false
set_option linter.unusedSimpArgs false

end Go.Proofs.Ytnklgkmpcochfaa
/- Where a key stands in a list: plain, and the program. No condition. -/
namespace Go.Proofs.Ytnklgkmpcochfaa
open Go.RowKit
set_option linter.unusedVariables false
set_option linter.unusedSimpArgs false

/-- where a key stands first -/
@[irreducible] def fdK (ks : List (List Int)) (k : List Int) : Nat := ks.findIdx (fun x => decide (x = k))
theorem fdK_le (ks : List (List Int)) (k : List Int) : fdK ks k ≤ ks.length := by rw [fdK]; exact List.findIdx_le_length
theorem fdK_lt {ks : List (List Int)} {k : List Int} : fdK ks k < ks.length ↔ k ∈ ks := by
  rw [fdK, List.findIdx_lt_length]
  constructor
  · rintro ⟨x, hx, h⟩
    rw [decide_eq_true_iff] at h
    exact h ▸ hx
  · exact fun h => ⟨k, h, decide_eq_true rfl⟩
theorem fdK_at {ks : List (List Int)} {k : List Int} (n : Nat) (hn : n < ks.length) (h0 : ∀ j (hj : j < ks.length), j < n → ks[j] ≠ k) (h : ks[n] = k) : fdK ks k = n := by
  rw [fdK, List.findIdx_eq hn]
  exact ⟨decide_eq_true h, fun j hj => decide_eq_false (h0 j (by omega) hj)⟩
theorem fdK_none {ks : List (List Int)} {k : List Int} (h0 : ∀ j (hj : j < ks.length), ks[j] ≠ k) : fdK ks k = ks.length := by
  have h1 := fdK_le ks k
  have h2 : ¬ fdK ks k < ks.length := fun h => by
    obtain ⟨j, hj, e⟩ := List.getElem_of_mem (fdK_lt.1 h)
    exact h0 j hj e
  omega
/-- the same as the program tells it: -1 for 'not there' -/
@[irreducible] def fdI (ks : List (List Int)) (k : List Int) : Int := if fdK ks k < ks.length then (fdK ks k : Int) else -1
theorem fdI_lt {ks : List (List Int)} {k : List Int} (h : k ∈ ks) : fdI ks k = fdK ks k ∧ fdK ks k < ks.length := by rw [fdI, if_pos (fdK_lt.2 h)]; exact ⟨rfl, fdK_lt.2 h⟩
theorem fdI_none {ks : List (List Int)} {k : List Int} (h : k ∉ ks) : fdI ks k = -1 := by rw [fdI, if_neg (fun q => h (fdK_lt.1 q))]
theorem fdI_at {ks : List (List Int)} {k : List Int} (n : Nat) (hn : n < ks.length) (h0 : ∀ j (hj : j < ks.length), j < n → ks[j] ≠ k) (h : ks[n] = k) : fdI ks k = n := by
  have e := fdK_at n hn h0 h
  rw [fdI, e, if_pos hn]
theorem fdI_no {ks : List (List Int)} {k : List Int} (h0 : ∀ j (hj : j < ks.length), ks[j] ≠ k) : fdI ks k = -1 := by
  rw [fdI, fdK_none h0, if_neg (Nat.lt_irrefl _)]
set_option maxHeartbeats 1000000 in
set_option maxRecDepth 100000 in
theorem idxK_any (v : Value) (xs : List (List Int)) (K : List Int) (hK : K32 K) (w : World) (S : Nat → Prop) (h : RdL tKey w S v xs) :
    Calls Try.prog 101 #[v, .agg (numsA .u8 K)] w fun q w' => q = .returned (.int .i64 (fdI xs K)) ∧ Ext w w' := by
  obtain ⟨A, cap, rfl, hcap, hlen, hrd, hok⟩ := h
  have Hrd := Lib.hid hrd
  have Hok := Lib.hid hok
  have HKK := Lib.hid hK
  have hks := sizeN (k := .u8) hK.1
  have BK := Lib.hid (Blk.new w 53 (numsA .u8 K))
  clear hrd hok hK
  go_enter Try.func101, Try.ntmps101
  go_wp2
  go_loopw [5, 8] (fun _ i wr => ∃ k : Nat, k ≤ xs.length ∧ i = .int .i64 k ∧ (∀ j (hj : j < xs.length), j < k → xs[j] ≠ K) ∧ Ext (w.alloc (.cells (numsA .u8 K) 53)) wr) (fun _ i _ => xs.length - (intOf i).toNat)
  case atStart => exact ⟨0, by omega, rfl, fun j hj h => by omega, Ext.refl _⟩
  case round =>
    obtain ⟨k, hk, rfl, hm, hx⟩ := hrel
    have B1 := Lib.hid (BK.out.ext hx)
    have HX := Lib.hid ((ext_alloc w (.cells (numsA .u8 K) 53)).trans hx)
    have HX0 := Lib.hid hx
    have HM := Lib.hid hm
    clear hx hm
    by_cases hlt : k < xs.length
    · obtain ⟨g, o, rfl, hs0, hc⟩ := Hrd.out.elem Hok.out k hlt
      have HC := Lib.hid (show ∀ j u, (nums .u8 xs[k])[j]? = some u → wr.cell? ⟨g, o + k * 32 + j, none⟩ = some u from fun j u hu => HX.out.cell (hc j u hu))
      have HE := Lib.hid (show K32 xs[k] from Hok.out _ (List.getElem_mem hlt))
      have heq := run_eqKey K xs[k] HKK.out HE.out
      have HEL := Lib.hid (show (nums .u8 xs[k]).length = 32 by rw [nums_length, HE.out.1])
      have hk0 : (0 : Int) ≤ (k : Int) := by omega
      have hk2 : (k : Int) < (xs.length : Int) := by omega
      obtain ⟨R, hR⟩ : ∃ R, decide (K = xs[k]) = R := ⟨_, rfl⟩
      rw [hR] at heq
      have HR := Lib.hid hR
      obtain ⟨y, hy⟩ : ∃ y, xs[k] = y := ⟨_, rfl⟩
      have HY := Lib.hid hy
      rw [hy] at HC HE heq HEL
      clear hc hR hy
      cases R with
      | true =>
        go_wp2_with fail
        refine wp_region_held_drew (S := fun W => Ext wr W) (by kernel_rfl) (Ext.refl _).drew (fun hHeld => ?_)
        refine tkI 0 (v := (.agg (numsA .u8 K))) (by simp only [List.getElem?_toArray, List.getElem?_cons_zero, List.getElem?_cons_succ]; rfl) (by kernel_rfl) (by exact fun _ _ _ h => h) (by refine yields_loadBSP (fun W hW => B1.out.ext hW) aggKey hks ?_ _ rfl rfl; rfl) (by assumption) ?_
        try simp only [Act.put, List.setIfInBounds_toArray, List.set_cons_zero, List.set_cons_succ]
        iterate 3
          refine tkD 0 (by simp only [List.size_toArray, List.length_cons, List.length_nil]; rfl) (by simp only [List.getElem?_toArray, List.getElem?_cons_zero, List.getElem?_cons_succ]; rfl) (by kernel_rfl) (by exact fun _ _ _ h => h) (by first | (exact Or.inl ⟨by rfl, by intro w hSw; (try dsimp only at hSw); go_simp; with_reducible rfl⟩) | (exact Or.inr ⟨by rfl, by rfl⟩)) (by assumption) ?_
          try simp only [Act.put, List.setIfInBounds_toArray, List.set_cons_zero, List.set_cons_succ]
        refine tkI 4 (v := (.agg (numsA .u8 y))) (by simp only [List.getElem?_toArray, List.getElem?_cons_zero, List.getElem?_cons_succ]; rfl) (by kernel_rfl) (by exact fun _ _ _ h => h) (by refine yields_loadSP g (o + k * 32) (nums .u8 y) (by rw [HEL.out]; exact aggKey) (fun W hW j u hu => hW.cell (HC.out j u hu)) ?_ _ rfl rfl; rfl) (by assumption) ?_
        try simp only [Act.put, List.setIfInBounds_toArray, List.set_cons_zero, List.set_cons_succ]
        refine tkI 5 (by simp only [List.getElem?_toArray, List.getElem?_cons_zero, List.getElem?_cons_succ]; rfl) (by kernel_rfl) (by exact fun _ _ _ h => h) (by first | (exact Or.inl ⟨by rfl, by intro w hSw; (try dsimp only at hSw); go_simp; with_reducible rfl⟩) | (exact Or.inr ⟨by rfl, by rfl⟩)) (by assumption) ?_
        try simp only [Act.put, List.setIfInBounds_toArray, List.set_cons_zero, List.set_cons_succ]
        refine wpAnyH_done (by kernel_rfl) ?_ _

        have HXF := Lib.hid (HX.out.trans hHeld)
        have hI := fdI_at k hlt HM.out (by have := of_decide_eq_true HR.out; exact this.symm)
        have HI := Lib.hid hI
        clear hHeld hI
        go_wp2
        go_ret
        exact ⟨ret_int HI.out.symm, HXF.out⟩
      | false =>
        go_wp2_with fail
        refine wp_region_held_drew (S := fun W => Ext wr W) (by kernel_rfl) (Ext.refl _).drew (fun hHeld => ?_)
        refine tkI 0 (v := (.agg (numsA .u8 K))) (by simp only [List.getElem?_toArray, List.getElem?_cons_zero, List.getElem?_cons_succ]; rfl) (by kernel_rfl) (by exact fun _ _ _ h => h) (by refine yields_loadBSP (fun W hW => B1.out.ext hW) aggKey hks ?_ _ rfl rfl; rfl) (by assumption) ?_
        try simp only [Act.put, List.setIfInBounds_toArray, List.set_cons_zero, List.set_cons_succ]
        iterate 3
          refine tkD 0 (by simp only [List.size_toArray, List.length_cons, List.length_nil]; rfl) (by simp only [List.getElem?_toArray, List.getElem?_cons_zero, List.getElem?_cons_succ]; rfl) (by kernel_rfl) (by exact fun _ _ _ h => h) (by first | (exact Or.inl ⟨by rfl, by intro w hSw; (try dsimp only at hSw); go_simp; with_reducible rfl⟩) | (exact Or.inr ⟨by rfl, by rfl⟩)) (by assumption) ?_
          try simp only [Act.put, List.setIfInBounds_toArray, List.set_cons_zero, List.set_cons_succ]
        refine tkI 4 (v := (.agg (numsA .u8 y))) (by simp only [List.getElem?_toArray, List.getElem?_cons_zero, List.getElem?_cons_succ]; rfl) (by kernel_rfl) (by exact fun _ _ _ h => h) (by refine yields_loadSP g (o + k * 32) (nums .u8 y) (by rw [HEL.out]; exact aggKey) (fun W hW j u hu => hW.cell (HC.out j u hu)) ?_ _ rfl rfl; rfl) (by assumption) ?_
        try simp only [Act.put, List.setIfInBounds_toArray, List.set_cons_zero, List.set_cons_succ]
        refine tkI 5 (by simp only [List.getElem?_toArray, List.getElem?_cons_zero, List.getElem?_cons_succ]; rfl) (by kernel_rfl) (by exact fun _ _ _ h => h) (by first | (exact Or.inl ⟨by rfl, by intro w hSw; (try dsimp only at hSw); go_simp; with_reducible rfl⟩) | (exact Or.inr ⟨by rfl, by rfl⟩)) (by assumption) ?_
        try simp only [Act.put, List.setIfInBounds_toArray, List.set_cons_zero, List.set_cons_succ]
        refine wpAnyH_done (by kernel_rfl) ?_ _

        have HXF := Lib.hid (HX0.out.trans hHeld)
        clear hHeld
        go_wp2
        go_roundw
        case rel => exact ⟨k + 1, by omega, by go_num, fun j hj h => by
          by_cases e : j = k
          · subst e; exact fun q => of_decide_eq_false HR.out q.symm
          · exact HM.out j hj (by omega), HXF.out⟩
        case measure => simp [intOf]; omega
    · obtain rfl : k = xs.length := by omega
      have HI := Lib.hid (fdI_no (fun j hj => HM.out j hj hj))
      go_wp2
      go_ret
      exact ⟨ret_int HI.out.symm, HX.out⟩
end Go.Proofs.Ytnklgkmpcochfaa
/- Books: what makes one valid, and where a commit stands in it. Plain. No condition. -/
namespace Go.Proofs.Ytnklgkmpcochfaa
open Go.RowKit
set_option linter.unusedVariables false
set_option linter.unusedSimpArgs false

/-- the key of a commit -/
@[irreducible] def ckL (c : Cm) : List Int := hashL 7 (dataL c)
theorem ckL_eq (c : Cm) : ckL c = hashL 7 (dataL c) := by rw [ckL]
theorem ckL_ok (c : Cm) : K32 (ckL c) := by rw [ckL]; exact hashL_ok _ _
/-- the keys of commits -/
def ksL (cs : List Cm) : List (List Int) := cs.map ckL
theorem ksL_length (cs : List Cm) : (ksL cs).length = cs.length := by simp [ksL]
theorem ksL_snoc (cs : List Cm) (n : Nat) (h : n < cs.length) : ksL (cs.take (n + 1)) = ksL (cs.take n) ++ [ckL cs[n]] := by
  rw [List.take_succ_eq_append_getElem h, ksL, List.map_append]; rfl
/-- a commit's number -/
def gC (cs : List Cm) (i : Nat) : Int := ((cs[i]?).map (fun c => c.num)).getD 0
theorem gC_lt {cs : List Cm} {i : Nat} (h : i < cs.length) : gC cs i = cs[i].num := by simp [gC, h]
/-- the number that a commit with these parents has: of the first n of them -/
def nmR (cs : List Cm) (ks par : List (List Int)) : Nat → Int
  | 0 => 0
  | n + 1 => max (nmR cs ks par n) (gC cs (fdK ks (gL par n)) + 1)
@[irreducible] def nmL (cs : List Cm) (ks par : List (List Int)) (n : Nat) : Int := nmR cs ks par n
theorem nmL_zero (cs : List Cm) (ks par : List (List Int)) : nmL cs ks par 0 = 0 := by rw [nmL]; rfl
theorem nmL_succ (cs : List Cm) (ks par : List (List Int)) (n : Nat) : nmL cs ks par (n + 1) = max (nmL cs ks par n) (gC cs (fdK ks (gL par n)) + 1) := by rw [nmL, nmL]; rfl
/-- all parents have been seen -/
@[irreducible] def knB (ks par : List (List Int)) (n : Nat) : Bool := (par.take n).all fun p => ks.contains p
theorem knB_zero (ks par : List (List Int)) : knB ks par 0 = true := by rw [knB]; rfl
theorem knB_succ (ks par : List (List Int)) (n : Nat) (h : n < par.length) : knB ks par (n + 1) = (knB ks par n && ks.contains par[n]) := by
  rw [knB, knB, List.take_succ_eq_append_getElem h, List.all_append]; simp
theorem knB_bad (ks par : List (List Int)) (k n : Nat) (h : k < n) (hk : k < par.length) (hb : ks.contains par[k] = false) : knB ks par n = false := by
  rw [knB, List.all_eq_false]
  exact ⟨par[k], by rw [List.mem_take_iff_getElem]; exact ⟨k, by omega, rfl⟩, by simp only [hb]; decide⟩
theorem knB_mem {ks par : List (List Int)} {n : Nat} (h : knB ks par n = true) (k : Nat) (hk : k < par.length) (hn : k < n) : par[k] ∈ ks := by
  cases hc : ks.contains par[k] with
  | true => exact List.contains_iff_mem.1 hc
  | false => rw [knB_bad ks par k n hn hk hc] at h; cases h
/-- commit n of a book is as it should be -/
@[irreducible] def stB (x : Bk) (n : Nat) : Bool := match x.1[n]?, x.2[n]? with
  | some c, some m => okCm c && okE m && decide ((trF m.length m).key = c.root) && knB (ksL (x.1.take n)) c.par c.par.length && decide (c.num = nmL x.1 (ksL (x.1.take n)) c.par c.par.length) && !(ksL (x.1.take n)).contains (ckL c)
  | _, _ => false
theorem stB_eq (x : Bk) (n : Nat) (h1 : n < x.1.length) (h2 : n < x.2.length) : stB x n = (okCm x.1[n] && okE x.2[n] && decide ((trF x.2[n].length x.2[n]).key = x.1[n].root) && knB (ksL (x.1.take n)) x.1[n].par x.1[n].par.length && decide (x.1[n].num = nmL x.1 (ksL (x.1.take n)) x.1[n].par x.1[n].par.length) && !(ksL (x.1.take n)).contains (ckL x.1[n])) := by
  rw [stB, List.getElem?_eq_getElem h1, List.getElem?_eq_getElem h2]
@[irreducible] def stN (x : Bk) (n : Nat) : Bool := (List.range n).all (stB x)
theorem stN_zero (x : Bk) : stN x 0 = true := by rw [stN]; rfl
theorem stN_succ (x : Bk) (n : Nat) : stN x (n + 1) = (stN x n && stB x n) := by rw [stN, stN, List.range_succ, List.all_append]; simp
theorem stN_bad (x : Bk) (k n : Nat) (h : k < n) (hb : stB x k = false) : stN x n = false := by
  rw [stN, List.all_eq_false]
  exact ⟨k, List.mem_range.2 h, by rw [hb]; decide⟩
/-- a book is valid -/
@[irreducible] def okBk (x : Bk) : Bool := decide (x.1.length ≤ 40) && decide (x.2.length = x.1.length) && stN x x.1.length
theorem okBk_eq (x : Bk) : okBk x = (decide (x.1.length ≤ 40) && decide (x.2.length = x.1.length) && stN x x.1.length) := by rw [okBk]
end Go.Proofs.Ytnklgkmpcochfaa
/- The key of a commit: the reference and the program. No condition. -/
namespace Go.Proofs.Ytnklgkmpcochfaa
open Go.RowKit
set_option linter.unusedVariables false
set_option linter.unusedSimpArgs false

theorem dataL_length {x : Cm} {w : World} {S : Nat → Prop} {cs : Array Value} (h : RCommit w S cs x) (hok : okCm x = true) : (dataL x).length ≤ 1000 := by
  obtain ⟨v, rfl, ⟨A, cap, rfl, _, _, _, hk⟩, hroot, _⟩ := h
  obtain ⟨h3, _, _, h64⟩ := okCm_le hok
  rw [dataL]
  simp only [List.length_append, List.length_cons, List.length_nil, hroot.1, flat32 x.par (fun k hk' => hk k hk'), strL_length]
  omega
set_option maxHeartbeats 1000000 in
set_option maxRecDepth 100000 in
theorem commitKey_any (cs : Array Value) (x : Cm) (hok : okCm x = true) (w : World) (S : Nat → Prop) (h : RCommit w S cs x) :
    Calls Try.prog 88 #[.agg cs] w fun e w' => e = .returned (.agg (numsA .u8 (hashL 7 (dataL x)))) ∧ Ext w w' := by
  have hk := (hashL_ok 7 (dataL x)).1
  have Hnl := Lib.hid (dataL_length h hok)
  have hsz := h.st.size
  have H := Lib.hid h
  clear h
  go_enter Try.func88, Try.ntmps88
  go_wp2_with (refine wpl_loadB ((Blk.new w _ _).alloc _) aggCommitI hsz rfl _ rfl rfl ?_)
  refine (commitData_any cs x hok _ S (H.out.ext ((ext_alloc _ _).alloc _))).mono ?_
  rintro e w1 ⟨v1, rfl, ho, hx⟩
  obtain ⟨A1, n1, c1, rfl⟩ := ho.shape3
  have B1 := Lib.hid ((Blk.new' (g := w.heap.size + 1) (w := w.alloc _) (by simp) 53 _).ext hx)
  have XW := Lib.hid (((ext_alloc w _).alloc _).trans hx)
  have HO := Lib.hid ho
  clear hx ho
  go_wp2_with fail
  refine (hash_any 7 (by decide) _ (dataL x) _ _ HO.out.rd (by have := Hnl.out; omega)).mono ?_
  rintro e w2 ⟨rfl, hx⟩
  replace B1 := Lib.hid (B1.out.ext hx)
  replace XW := Lib.hid (XW.out.trans hx)
  clear hx HO
  go_wp2_with (refine wpl_storeN B1.out aggKey hk rfl rfl _ _ rfl rfl rfl rfl ?_)
  refine bodyPost_ret (results_blk rfl _ rfl aggKey hk (B1.out.setRow _)) rfl ?_
  exact ⟨rfl, XW.out.setRow (by omega) _⟩
end Go.Proofs.Ytnklgkmpcochfaa
/- A commit wherever it lies: whether it is valid, its data, its key. No condition. -/
namespace Go.Proofs.Ytnklgkmpcochfaa
open Go.RowKit
set_option linter.unusedVariables false
set_option linter.unusedSimpArgs false

set_option maxHeartbeats 1000000 in
set_option maxRecDepth 100000 in
theorem l07Ok_at (cs : Array Value) (x : Cm) (w : World) (S : Nat → Prop) (h : RCommit w S cs x) (gb ob : Nat) (hb : ∀ j u, cs[j]? = some u → w.cell? ⟨gb, ob + j, none⟩ = some u) :
    Calls Try.prog 78 #[.pointer (some ⟨gb, ob, none⟩)] w fun e w' => e = .returned (.bool (okCm x)) ∧ Ext w w' := by
  obtain ⟨v, rfl, hr, hroot, hnum, hnote⟩ := h
  obtain ⟨A, cap, rfl, hcap, hlen, hrd, hok⟩ := id hr
  have HAT := Lib.hid (Cm.at_ hroot (.slice A x.par.length cap))
  have HB := Lib.hid hb
  have Hrd := Lib.hid hrd
  have Hok := Lib.hid hok
  have Hcm := Lib.hid (okCm_eq x)
  have c0 := hb 32 _ HAT.out.1
  have c1 := hb 33 _ HAT.out.2.1
  have c2 := hb 34 _ HAT.out.2.2
  have hin := l00In_any x.num 0 40
  clear hb hrd hok hr
  by_cases h1 : x.par.length ≤ 3
  rotate_left
  · have e : okCm x = false := by rw [Hcm.out]; simp [h1]
    rw [e]
    clear e Hcm
    go_enter Try.func78, Try.ntmps78
    go_wp2
    go_ret
    exact ⟨rfl, Ext.refl _⟩
  cases h2 : (decide (0 ≤ x.num) && decide (x.num ≤ 40)) with
  | false =>
    have e : okCm x = false := by rw [Hcm.out, h2]; simp
    rw [e]
    simp only [h2] at hin
    clear e Hcm h2
    go_enter Try.func78, Try.ntmps78
    go_wp2_with fail
    refine (hin _).mono ?_
    rintro e w' ⟨rfl, rfl⟩
    go_wp2
    go_ret
    exact ⟨rfl, Ext.refl _⟩
  | true =>
    simp only [h2] at hin
    by_cases h3 : x.note.size ≤ 64
    rotate_left
    · have e : okCm x = false := by rw [Hcm.out]; simp [h3]
      rw [e]
      clear e Hcm h2
      go_enter Try.func78, Try.ntmps78
      go_wp2_with fail
      refine (hin _).mono ?_
      rintro e w' ⟨rfl, rfl⟩
      go_wp2
      go_ret
      exact ⟨rfl, Ext.refl _⟩
    have e : okCm x = srtB x.par x.par.length := by rw [Hcm.out, h2]; simp [h1, h3]
    have HE := Lib.hid e
    clear e Hcm h2
    have Hz := Lib.hid (srtB_one x.par 1 (Nat.le_refl _))
    go_enter Try.func78, Try.ntmps78
    go_wp2_with fail
    refine (hin _).mono ?_
    rintro e w' ⟨rfl, rfl⟩
    go_wp2
    go_loopw [3] (fun i wr => ∃ k : Nat, (k + 1 ≤ x.par.length ∨ k = 0) ∧ i = .int .i64 ((k : Int) + 1) ∧ srtB x.par (k + 1) = true ∧ Ext w wr) (fun i _ => x.par.length - (intOf i).toNat)
    case atStart => exact ⟨0, by omega, rfl, Hz.out, Ext.refl _⟩
    case round =>
    obtain ⟨k, hk, rfl, hs, hx⟩ := hrel
    have HS := Lib.hid hs
    have HX := Lib.hid hx
    clear hs hx hin c0 c1 c2 Hz
    have d0 : ∀ W, Ext wr W → W.cell? ⟨gb, ob + 32, none⟩ = some (.slice A x.par.length cap) := fun W hW => (HX.out.trans hW).cell (HB.out 32 _ HAT.out.1)
    have R := Ext.refl wr
    by_cases hlt : k + 1 < x.par.length
    · obtain ⟨g, o, rfl, hs0, hc0⟩ := Hrd.out.elem Hok.out k (by omega)
      obtain ⟨g2, o2, e, hs1, hc1⟩ := Hrd.out.elem Hok.out (k + 1) hlt
      injection e with e
      injection e with e1 e2
      subst e1
      subst e2
      have HX0 := Lib.hid (show K32 x.par[k] from Hok.out _ (List.getElem_mem _))
      have HX1 := Lib.hid (show K32 x.par[k + 1] from Hok.out _ (List.getElem_mem hlt))
      have HD0 := Lib.hid (show ∀ j u, (tKey.enc x.par[k])[j]? = some u → wr.cell? ⟨g, o + k * 32 + j, none⟩ = some u from fun j u hu => HX.out.cell (hc0 j u hu))
      have HD1 := Lib.hid (show ∀ j u, (tKey.enc x.par[k + 1])[j]? = some u → wr.cell? ⟨g, o + (k + 1) * 32 + j, none⟩ = some u from fun j u hu => HX.out.cell (hc1 j u hu))
      clear hc0 hc1
      have hi : (0 : Int) ≤ (k : Int) := by omega
      have hi3 : (0 : Int) ≤ (k : Int) + 1 := by omega
      have hi1 : (k : Int) < (x.par.length : Int) := by omega
      have hi2 : (k : Int) + 1 < (x.par.length : Int) := by omega
      have HSN := Lib.hid (srtB_succ x.par k)
      have HG0 := Lib.hid (gL_lt (L := x.par) (i := k) (by omega))
      have HG1 := Lib.hid (gL_lt hlt)
      have W1 : IntKind.i64.wrap (k : Int) = k := IntWalk.i64_in _ (by omega)
      go_wp2_with fail
      refine wp_region_held_drew (S := fun W => Ext wr W) (by kernel_rfl) (Ext.refl _).drew (fun hHeld => ?_)
      iterate 7
        refine tkD 0 (by simp only [List.size_toArray, List.length_cons, List.length_nil]; rfl) (by simp only [List.getElem?_toArray, List.getElem?_cons_zero, List.getElem?_cons_succ]; rfl) (by kernel_rfl) (by exact fun _ _ _ h => h) (by first | (exact Or.inl ⟨by rfl, by intro w hSw; (try dsimp only at hSw); go_simp; with_reducible rfl⟩) | (exact Or.inr ⟨by rfl, by rfl⟩)) (by assumption) ?_
        try simp only [Act.put, List.setIfInBounds_toArray, List.set_cons_zero, List.set_cons_succ]
      refine tkI 7 (v := (.agg (tKey.enc x.par[k]).toArray)) (by simp only [List.getElem?_toArray, List.getElem?_cons_zero, List.getElem?_cons_succ]; rfl) (by kernel_rfl) (by exact fun _ _ _ h => h) (by refine yields_loadR g (o + k * 32) (tKey.enc x.par[k]) (by rw [tKey.len _ HX0.out]; exact aggKey) HD0.out ?_ _ rfl rfl; rfl) (by assumption) ?_
      try simp only [Act.put, List.setIfInBounds_toArray, List.set_cons_zero, List.set_cons_succ]
      iterate 6
        refine tkD 0 (by simp only [List.size_toArray, List.length_cons, List.length_nil]; rfl) (by simp only [List.getElem?_toArray, List.getElem?_cons_zero, List.getElem?_cons_succ]; rfl) (by kernel_rfl) (by exact fun _ _ _ h => h) (by first | (exact Or.inl ⟨by rfl, by intro w hSw; (try dsimp only at hSw); go_simp; with_reducible rfl⟩) | (exact Or.inr ⟨by rfl, by rfl⟩)) (by assumption) ?_
        try simp only [Act.put, List.setIfInBounds_toArray, List.set_cons_zero, List.set_cons_succ]
      refine tkI 14 (v := (.agg (tKey.enc x.par[k + 1]).toArray)) (by simp only [List.getElem?_toArray, List.getElem?_cons_zero, List.getElem?_cons_succ]; rfl) (by kernel_rfl) (by exact fun _ _ _ h => h) (by refine yields_loadR g (o + (k + 1) * 32) (tKey.enc x.par[k + 1]) (by rw [tKey.len _ HX1.out]; exact aggKey) HD1.out ?_ _ rfl rfl; rfl) (by assumption) ?_
      try simp only [Act.put, List.setIfInBounds_toArray, List.set_cons_zero, List.set_cons_succ]
      refine wpAnyH_ready (rs := [15]) (by kernel_rfl) (by simp) (AllReadyH.cons (o := ?oy1615) ?hy1615 (fun K hK => ?sy1615) AllReadyH.nil)
      case hy1615 => simp only [List.getElem?_toArray, List.getElem?_cons_zero, List.getElem?_cons_succ]; rfl
      go_simp
      refine (l01Compare_any x.par[k] x.par[k + 1] HX0.out HX1.out _).mono ?_
      rintro e w1 ⟨rfl, hx⟩
      have hH2 := hHeld.trans hx
      refine hK.out _ _ hH2 (fun _ => ?_)
      clear hHeld hK K
      have hHeld := hH2
      clear hH2
      try simp only [Act.put, List.setIfInBounds_toArray, List.set_cons_zero, List.set_cons_succ]
      refine tkI 16 (by simp only [List.getElem?_toArray, List.getElem?_cons_zero, List.getElem?_cons_succ]; rfl) (by kernel_rfl) (by exact fun _ _ _ h => h) (by first | (exact Or.inl ⟨by rfl, by intro w hSw; (try dsimp only at hSw); go_simp; with_reducible rfl⟩) | (exact Or.inr ⟨by rfl, by rfl⟩)) (by assumption) ?_
      try simp only [Act.put, List.setIfInBounds_toArray, List.set_cons_zero, List.set_cons_succ]
      refine wpAnyH_done (by kernel_rfl) ?_ _
      have HX2 := Lib.hid (HX.out.trans hHeld)
      clear hHeld d0 R
      by_cases hc : cmpL x.par[k] x.par[k + 1] < 0
      · have hge : ¬ (0 : Int) ≤ cmpL x.par[k] x.par[k + 1] := by omega
        have Hc := Lib.hid hc
        clear hc
        go_wp2
        go_roundw
        case rel => exact ⟨k + 1, by omega, by go_num, by rw [HSN.out, HS.out, HG0.out, HG1.out]; simpa using Hc.out, HX2.out⟩
        case measure => simp [intOf]; omega
      · have hge : (0 : Int) ≤ cmpL x.par[k] x.par[k + 1] := by omega
        have Hbad := Lib.hid (srtB_bad x.par k x.par.length hlt (by rw [HG0.out, HG1.out]; exact hc))
        clear hc
        go_wp2
        go_ret
        exact ⟨by rw [HE.out, Hbad.out]; rfl, HX2.out⟩
    · go_wp2
      go_ret
      refine ⟨?_, HX.out⟩
      rw [HE.out]
      rcases hk with hk | rfl
      · rw [show x.par.length = k + 1 by omega, HS.out]; rfl
      · rw [srtB_one _ _ (by omega)]; rfl
set_option maxHeartbeats 1000000 in
set_option maxRecDepth 100000 in
theorem l07Data_at (cs : Array Value) (x : Cm) (hok : okCm x = true) (w : World) (S : Nat → Prop) (h : RCommit w S cs x) (gb ob : Nat) (hb : ∀ j u, cs[j]? = some u → w.cell? ⟨gb, ob + j, none⟩ = some u) :
    Calls Try.prog 106 #[.pointer (some ⟨gb, ob, none⟩)] w fun e w' => ∃ v', e = .returned v' ∧ Own tByte 5 w' w.heap.size v' (dataL x) ∧ Ext w w' := by
  obtain ⟨v, rfl, hr, hroot, hnum, hnote⟩ := h
  obtain ⟨A, cap, rfl, hcap, hlen, hrd, hokp⟩ := id hr
  obtain ⟨hp3, hn0, hn40, hnt⟩ := okCm_le hok
  have H := Lib.hid hr
  have HR := Lib.hid hroot
  have HL := Lib.hid (sizeN (k := .u8) hroot.1)
  have HB := Lib.hid hb
  have HN9 := Lib.hid (show (nums .u8 x.root).length = 32 by rw [nums_length, hroot.1])
  have HD9 := Lib.hid (show ∀ j u, (nums .u8 x.root)[j]? = some u → w.cell? ⟨gb, ob + j, none⟩ = some u from fun j u hu => HB.out j u (by have := Cm.root_at (x := x) (.slice A x.par.length cap) j u (by simpa [numsA] using hu); rwa [Nat.zero_add] at this))
  have HAT := Lib.hid (Cm.at_ hroot (.slice A x.par.length cap))
  have Hrd := Lib.hid hrd
  have Hokp := Lib.hid hokp
  have HD := Lib.hid (dataL_eq x)
  have c0 : ∀ W, Ext w W → W.cell? ⟨gb, ob + 32, none⟩ = some (.slice A x.par.length cap) := fun W hW => hW.cell (HB.out 32 _ HAT.out.1)
  have c1 : ∀ W, Ext w W → W.cell? ⟨gb, ob + 33, none⟩ = some (.int .i64 x.num) := fun W hW => hW.cell (HB.out 33 _ HAT.out.2.1)
  have c2 : ∀ W, Ext w W → W.cell? ⟨gb, ob + 34, none⟩ = some (.string x.note) := fun W hW => hW.cell (HB.out 34 _ HAT.out.2.2)
  have hu : (0 : Int) ≤ (x.par.length : Int) + 1 ∧ (x.par.length : Int) + 1 ≤ 255 := by omega
  have hu2 : (0 : Int) ≤ x.num ∧ x.num ≤ 255 := by omega
  have W1 : IntKind.u8.wrap ((x.par.length : Int) + 1) = (x.par.length : Int) + 1 := by rw [IntKind.wrap_u8]; omega
  have W3 : IntKind.i64.wrap ((x.par.length : Int) + 1) = (x.par.length : Int) + 1 := IntWalk.i64_in _ (by omega)
  have W2 : IntKind.u8.wrap x.num = x.num := by rw [IntKind.wrap_u8]; omega
  clear hr hrd hokp hroot hb hok
  go_enter Try.func106, Try.ntmps106
  go_wp2_with fail
  refine wp_region_held_drew (S := fun W => Ext w W) (by kernel_rfl) (Ext.refl _).drew (fun hHeld => ?_)
  generalize hw0 : World.drew w = w0 at hHeld ⊢
  clear hw0
  iterate 7
    refine tkD 0 (by simp only [List.size_toArray, List.length_cons, List.length_nil]; rfl) (by simp only [List.getElem?_toArray, List.getElem?_cons_zero, List.getElem?_cons_succ]; rfl) (by kernel_rfl) (by exact fun _ _ _ h => h) (by first | (exact Or.inl ⟨by rfl, by intro w hSw; (try dsimp only at hSw); go_simp; with_reducible rfl⟩) | (exact Or.inr ⟨by rfl, by rfl⟩)) (by assumption) ?_
    try simp only [Act.put, List.setIfInBounds_toArray, List.set_cons_zero, List.set_cons_succ]
  iterate 3
    refine tkD 1 (by simp only [List.size_toArray, List.length_cons, List.length_nil]; rfl) (by simp only [List.getElem?_toArray, List.getElem?_cons_zero, List.getElem?_cons_succ]; rfl) (by kernel_rfl) (by exact fun _ _ _ h => h) (by first | (exact Or.inl ⟨by rfl, by intro w hSw; (try dsimp only at hSw); go_simp; with_reducible rfl⟩) | (exact Or.inr ⟨by rfl, by rfl⟩)) (by assumption) ?_
    try simp only [Act.put, List.setIfInBounds_toArray, List.set_cons_zero, List.set_cons_succ]
  refine tkI 11 (v := (.agg (numsA .u8 x.root))) (by simp only [List.getElem?_toArray, List.getElem?_cons_zero, List.getElem?_cons_succ]; rfl) (by kernel_rfl) (by exact fun _ _ _ h => h) (by refine yields_loadR gb ob (nums .u8 x.root) (by rw [HN9.out]; exact aggKey) HD9.out ?_ _ rfl rfl; rfl) (by assumption) ?_
  try simp only [Act.put, List.setIfInBounds_toArray, List.set_cons_zero, List.set_cons_succ]
  refine wpAnyH_ready (rs := [7]) (by kernel_rfl) (by simp) (AllReadyH.cons (o := ?oy327) ?hy327 (fun K hK => ?sy327) AllReadyH.nil)
  case hy327 => simp only [List.getElem?_toArray, List.getElem?_cons_zero, List.getElem?_cons_succ]; rfl
  go_simp
  have HO7 := Lib.hid (ownOne hHeld hu)
  have hH2 := hHeld.alloc (.cells #[.int .u8 ((x.par.length : Int) + 1)] 5)
  refine hK.out _ _ hH2 (fun _ => ?_)
  clear hHeld hK K
  have hHeld := hH2
  clear hH2
  try simp only [Act.put, List.setIfInBounds_toArray, List.set_cons_zero, List.set_cons_succ]
  refine wpAnyH_ready (rs := [12]) (by kernel_rfl) (by simp) (AllReadyH.cons (o := ?oy3312) ?hy3312 (fun K hK => ?sy3312) AllReadyH.nil)
  case hy3312 => simp only [List.getElem?_toArray, List.getElem?_cons_zero, List.getElem?_cons_succ]; rfl
  go_simp
  refine (l07Add_any _ _ x.root HR.out _ w HO7.out hHeld (by simp)).mono ?_
  rintro e w1 ⟨v1, rfl, ho, hx⟩
  obtain ⟨B1, bn, bc, rfl⟩ := ho.shape3
  have HO1 := Lib.hid ho
  clear ho
  have hH2 := hx
  refine hK.out _ _ hH2 (fun _ => ?_)
  clear hHeld hK K
  have hHeld := hH2
  clear hH2
  try simp only [Act.put, List.setIfInBounds_toArray, List.set_cons_zero, List.set_cons_succ]
  clear hx
  refine tkI 13 (by simp only [List.getElem?_toArray, List.getElem?_cons_zero, List.getElem?_cons_succ]; rfl) (by kernel_rfl) (by exact fun _ _ _ h => h) (by first | (exact Or.inl ⟨by rfl, by intro w hSw; (try dsimp only at hSw); go_simp; with_reducible rfl⟩) | (exact Or.inr ⟨by rfl, by rfl⟩)) (by assumption) ?_
  try simp only [Act.put, List.setIfInBounds_toArray, List.set_cons_zero, List.set_cons_succ]
  refine wpAnyH_done (by kernel_rfl) ?_ _
  have HL1 := Lib.hid (flat32 x.par (fun k hk => Hokp.out k hk))
  have XW := Lib.hid hHeld
  clear hHeld
  go_wp2_with fail
  go_loopw [3, 4] (fun o i wr => ∃ k : Nat, k ≤ x.par.length ∧ i = .int .i64 k ∧ Own tByte 5 wr w.heap.size o ([(x.par.length : Int) + 1] ++ x.root ++ (x.par.take k).flatten) ∧ Ext w wr) (fun _ i _ => x.par.length - (intOf i).toNat)
  case atStart => exact ⟨0, by omega, rfl, by rw [List.take_zero, List.flatten_nil, List.append_nil]; exact HO1.out, XW.out⟩
  case round =>
    clear HO1 XW
    obtain ⟨k, hk, rfl, ho, hx⟩ := hrel
    have HO := Lib.hid ho
    have HX := Lib.hid hx
    obtain ⟨C, cn, cc, rfl⟩ := ho.shape3
    have d0 := c0 _ hx
    clear ho hx
    by_cases hlt : k < x.par.length
    · obtain ⟨g, o, rfl, hs, hc⟩ := Hrd.out.elem Hokp.out k hlt
      have HX0 := Lib.hid (show K32 x.par[k] from Hokp.out _ (List.getElem_mem hlt))
      have HD0 := Lib.hid (show ∀ j u, (tKey.enc x.par[k])[j]? = some u → wr.cell? ⟨g, o + k * 32 + j, none⟩ = some u from fun j u hu => HX.out.cell (hc j u hu))
      have HTL := Lib.hid (flat32 (x.par.take k) (fun q hq => Hokp.out q (List.mem_of_mem_take hq)))
      have HSN := Lib.hid (show (x.par.take (k + 1)).flatten = (x.par.take k).flatten ++ x.par[k] by rw [List.take_succ_eq_append_getElem hlt, List.flatten_append]; simp)
      clear hc c0 c1 c2
      have hi : (0 : Int) ≤ (k : Int) := by omega
      have hi2 : (k : Int) < (x.par.length : Int) := by omega
      go_wp2_with (refine wpl_load ⟨g, o + k * 32, none⟩ (tKey.enc x.par[k]) (by rw [tKey.len _ HX0.out]; exact aggKey) rfl _ rfl rfl (fun j u hu => by rw [Addr.add_lit]; exact HD0.out j u hu) ?_)
      refine (l07Add_any _ _ x.par[k] HX0.out _ w HO.out HX.out (by simp only [List.length_append, HTL.out, HR.out.1, List.length_take]; simp; omega)).mono ?_
      rintro e w1 ⟨v1, rfl, ho, hx⟩
      have HO2 := Lib.hid ho
      have HX2 := Lib.hid hx
      obtain ⟨D, dn, dc, rfl⟩ := ho.shape3
      clear ho hx
      go_wp2_with fail
      go_roundw
      case rel => exact ⟨k + 1, by omega, by go_num, by rw [HSN.out, ← List.append_assoc]; exact HO2.out, HX2.out⟩
      case measure => simp [intOf]; omega
    · obtain rfl : k = x.par.length := by omega
      rw [List.take_length] at HO
      have HLN := Lib.hid (show ([(x.par.length : Int) + 1] ++ x.root ++ x.par.flatten).length = 33 + 32 * x.par.length by simp only [List.length_append, HL1.out, HR.out.1, List.length_cons, List.length_nil] <;> omega)
      have HLS := Lib.hid (strL_length x.note)

      go_wp2_with fail
      refine wp_region_held_drew (S := fun W => Ext w W) (by kernel_rfl) HX.out.drew (fun hHeld => ?_)
      generalize hw0 : World.drew wr = w0 at hHeld ⊢
      have HO := Lib.hid (show Own tByte 5 w0 w.heap.size (.slice C cn cc) _ by rw [← hw0]; exact HO.out.drew)
      clear hw0
      iterate 6
        refine tkD 0 (by simp only [List.size_toArray, List.length_cons, List.length_nil]; rfl) (by simp only [List.getElem?_toArray, List.getElem?_cons_zero, List.getElem?_cons_succ]; rfl) (by kernel_rfl) (by exact fun _ _ _ h => h) (by first | (exact Or.inl ⟨by rfl, by intro w hSw; (try dsimp only at hSw); go_simp; with_reducible rfl⟩) | (exact Or.inr ⟨by rfl, by rfl⟩)) (by assumption) ?_
        try simp only [Act.put, List.setIfInBounds_toArray, List.set_cons_zero, List.set_cons_succ]
      iterate 4
        refine tkD 2 (by simp only [List.size_toArray, List.length_cons, List.length_nil]; rfl) (by simp only [List.getElem?_toArray, List.getElem?_cons_zero, List.getElem?_cons_succ]; rfl) (by kernel_rfl) (by exact fun _ _ _ h => h) (by first | (exact Or.inl ⟨by rfl, by intro w hSw; (try dsimp only at hSw); go_simp; with_reducible rfl⟩) | (exact Or.inr ⟨by rfl, by rfl⟩)) (by assumption) ?_
        try simp only [Act.put, List.setIfInBounds_toArray, List.set_cons_zero, List.set_cons_succ]
      refine wpAnyH_ready (rs := [6, 12]) (by kernel_rfl) (by simp) (AllReadyH.cons (o := ?oy456) ?hy456 (fun K hK => ?sy456) (AllReadyH.cons (o := ?oy4512) ?hy4512 (fun K hK => ?sy4512) AllReadyH.nil))
      case hy456 => simp only [List.getElem?_toArray, List.getElem?_cons_zero, List.getElem?_cons_succ]; rfl
      case hy4512 => simp only [List.getElem?_toArray, List.getElem?_cons_zero, List.getElem?_cons_succ]; rfl
      case sy456 =>
        go_simp
        obtain ⟨p1, hV, hx, HR6⟩ := byteStep w0 hu2
        rw [← hV]
        clear hV
        replace HO := Lib.hid (HO.out.ext hx)
        have hH2 := hHeld.trans hx
        refine hK.out _ _ hH2 (fun _ => ?_)
        clear hHeld hK K
        have hHeld := hH2
        clear hH2
        try simp only [Act.put, List.setIfInBounds_toArray, List.set_cons_zero, List.set_cons_succ]
        clear hx
        refine wpAnyH_ready (rs := [7, 12]) (by kernel_rfl) (by simp) (AllReadyH.cons (o := ?oy467) ?hy467 (fun K hK => ?sy467) (AllReadyH.cons (o := ?oy4612) ?hy4612 (fun K hK => ?sy4612) AllReadyH.nil))
        case hy467 => simp only [List.getElem?_toArray, List.getElem?_cons_zero, List.getElem?_cons_succ]; rfl
        case hy4612 => simp only [List.getElem?_toArray, List.getElem?_cons_zero, List.getElem?_cons_succ]; rfl
        case sy467 =>
          refine stp_append rowByte rfl (.tmp 36) (.tmp 42) rfl (v := .slice C cn cc) rfl HO.out _ _ rfl (ys := [x.num]) rfl (rd_of HR6.out).1 (rd_of HR6.out).2.1 (by rw [HLN.out]; simp; omega) hHeld.size ?_
          intro v7 p2 ho1 hg1 hat1
          obtain ⟨D, dn, dc, rfl⟩ := ho1.shape3
          have hh := HO.out.ext_app hHeld hg1
          have HO7 := Lib.hid ho1
          clear ho1 hg1 hat1 HO
          have hH2 := hh
          refine hK.out _ _ hH2 (fun _ => ?_)
          clear hHeld hK K
          have hHeld := hH2
          clear hH2
          try simp only [Act.put, List.setIfInBounds_toArray, List.set_cons_zero, List.set_cons_succ]
          clear hh
          refine wpAnyH_ready (rs := [12]) (by kernel_rfl) (by simp) (AllReadyH.cons (o := ?oy4712) ?hy4712 (fun K hK => ?sy4712) AllReadyH.nil)
          case hy4712 => simp only [List.getElem?_toArray, List.getElem?_cons_zero, List.getElem?_cons_succ]; rfl
          have hne : ∀ q, (Value.slice D dn dc).ownBlock = some q → q < _ := fun q hq => (HO7.out.base_le q hq).2
          refine stp_conv2 (s := x.note) Try.underlying9 Try.underlying66 Try.underlying5 rfl (.tmp 47) rfl rfl (by omega) ?_
          intro A12 c12 p3 hr hx
          have HR12 := Lib.hid hr
          have HNE := Lib.hid hne
          have HM := Lib.hid (Nat.le_refl p3.heap.size)
          clear hr hne
          replace HO7 := Lib.hid (HO7.out.ext hx)
          have hH2 := hHeld.trans hx
          refine hK.out _ _ hH2 (fun _ => ?_)
          clear hHeld hK K
          have hHeld := hH2
          clear hH2
          try simp only [Act.put, List.setIfInBounds_toArray, List.set_cons_zero, List.set_cons_succ]
          clear hx
          refine wpAnyH_ready (rs := [13]) (by kernel_rfl) (by simp) (AllReadyH.cons (o := ?oy4813) ?hy4813 (fun K hK => ?sy4813) AllReadyH.nil)
          case hy4813 => simp only [List.getElem?_toArray, List.getElem?_cons_zero, List.getElem?_cons_succ]; rfl
          refine stp_append rowByte rfl (.tmp 43) (.tmp 48) rfl (v := .slice D dn dc) rfl HO7.out _ _ rfl (ys := strL x.note) (rd_of HR12.out).2.2 (rd_of HR12.out).1 (rd_of HR12.out).2.1 (by rw [List.length_append, HLN.out, HLS.out]; simp; omega) hHeld.size ?_
          intro v13 p4 ho1 hg1 hat1
          have hh := HO7.out.ext_app hHeld hg1
          have HO13 := Lib.hid ho1
          clear ho1 hg1 hat1 HO7
          obtain ⟨E, en, ec, rfl⟩ := HO13.out.shape3
          have hH2 := hh
          refine hK.out _ _ hH2 (fun _ => ?_)
          clear hHeld hK K
          have hHeld := hH2
          clear hH2
          try simp only [Act.put, List.setIfInBounds_toArray, List.set_cons_zero, List.set_cons_succ]
          clear hh
          refine tkI 14 (by simp only [List.getElem?_toArray, List.getElem?_cons_zero, List.getElem?_cons_succ]; rfl) (by kernel_rfl) (by exact fun _ _ _ h => h) (by first | (exact Or.inl ⟨by rfl, by intro w hSw; (try dsimp only at hSw); go_simp; with_reducible rfl⟩) | (exact Or.inr ⟨by rfl, by rfl⟩)) (by assumption) ?_
          try simp only [Act.put, List.setIfInBounds_toArray, List.set_cons_zero, List.set_cons_succ]
          refine wpAnyH_done (by kernel_rfl) ?_ _
          have XW := Lib.hid hHeld
          clear hHeld
          go_wp2_with fail
          go_ret
          exact ⟨_, rfl, by rw [HD.out]; exact HO13.out, XW.out⟩
        case sy4612 =>
          have hne : ∀ q, (Value.slice C cn cc).ownBlock = some q → q < _ := fun q hq => (HO.out.base_le q hq).2
          refine stp_conv2 (s := x.note) Try.underlying9 Try.underlying66 Try.underlying5 rfl (.tmp 47) rfl rfl (by omega) ?_
          intro A12 c12 p5 hr hx
          have HR12 := Lib.hid hr
          have HNE := Lib.hid hne
          have HM := Lib.hid (Nat.le_refl p5.heap.size)
          clear hr hne
          replace HR6 := Lib.hid (HR6.out.ext (by decide) hx)
          replace HO := Lib.hid (HO.out.ext hx)
          have hH2 := hHeld.trans hx
          refine hK.out _ _ hH2 (fun _ => ?_)
          clear hHeld hK K
          have hHeld := hH2
          clear hH2
          try simp only [Act.put, List.setIfInBounds_toArray, List.set_cons_zero, List.set_cons_succ]
          clear hx
          refine wpAnyH_ready (rs := [7]) (by kernel_rfl) (by simp) (AllReadyH.cons (o := ?oy507) ?hy507 (fun K hK => ?sy507) AllReadyH.nil)
          case hy507 => simp only [List.getElem?_toArray, List.getElem?_cons_zero, List.getElem?_cons_succ]; rfl
          refine stp_append rowByte rfl (.tmp 36) (.tmp 42) rfl (v := .slice C cn cc) rfl HO.out _ _ rfl (ys := [x.num]) rfl (rd_of HR6.out).1 (rd_of HR6.out).2.1 (by rw [HLN.out]; simp; omega) hHeld.size ?_
          intro v7 p6 ho1 hg1 hat1
          obtain ⟨D, dn, dc, rfl⟩ := ho1.shape3
          have hh := HO.out.ext_app hHeld hg1
          replace HR12 := Lib.hid (appOver HR12.out HNE.out HM.out hg1)
          have HO7 := Lib.hid ho1
          clear ho1 hg1 hat1 HO
          have hH2 := hh
          refine hK.out _ _ hH2 (fun _ => ?_)
          clear hHeld hK K
          have hHeld := hH2
          clear hH2
          try simp only [Act.put, List.setIfInBounds_toArray, List.set_cons_zero, List.set_cons_succ]
          clear hh
          refine wpAnyH_ready (rs := [13]) (by kernel_rfl) (by simp) (AllReadyH.cons (o := ?oy5113) ?hy5113 (fun K hK => ?sy5113) AllReadyH.nil)
          case hy5113 => simp only [List.getElem?_toArray, List.getElem?_cons_zero, List.getElem?_cons_succ]; rfl
          refine stp_append rowByte rfl (.tmp 43) (.tmp 48) rfl (v := .slice D dn dc) rfl HO7.out _ _ rfl (ys := strL x.note) (rd_of HR12.out).2.2 (rd_of HR12.out).1 (rd_of HR12.out).2.1 (by rw [List.length_append, HLN.out, HLS.out]; simp; omega) hHeld.size ?_
          intro v13 p7 ho1 hg1 hat1
          have hh := HO7.out.ext_app hHeld hg1
          have HO13 := Lib.hid ho1
          clear ho1 hg1 hat1 HO7
          obtain ⟨E, en, ec, rfl⟩ := HO13.out.shape3
          have hH2 := hh
          refine hK.out _ _ hH2 (fun _ => ?_)
          clear hHeld hK K
          have hHeld := hH2
          clear hH2
          try simp only [Act.put, List.setIfInBounds_toArray, List.set_cons_zero, List.set_cons_succ]
          clear hh
          refine tkI 14 (by simp only [List.getElem?_toArray, List.getElem?_cons_zero, List.getElem?_cons_succ]; rfl) (by kernel_rfl) (by exact fun _ _ _ h => h) (by first | (exact Or.inl ⟨by rfl, by intro w hSw; (try dsimp only at hSw); go_simp; with_reducible rfl⟩) | (exact Or.inr ⟨by rfl, by rfl⟩)) (by assumption) ?_
          try simp only [Act.put, List.setIfInBounds_toArray, List.set_cons_zero, List.set_cons_succ]
          refine wpAnyH_done (by kernel_rfl) ?_ _
          have XW := Lib.hid hHeld
          clear hHeld
          go_wp2_with fail
          go_ret
          exact ⟨_, rfl, by rw [HD.out]; exact HO13.out, XW.out⟩
      case sy4512 =>
        have hne : ∀ q, (Value.slice C cn cc).ownBlock = some q → q < _ := fun q hq => (HO.out.base_le q hq).2
        refine stp_conv2 (s := x.note) Try.underlying9 Try.underlying66 Try.underlying5 rfl (.tmp 47) rfl rfl (by omega) ?_
        intro A12 c12 p8 hr hx
        have HR12 := Lib.hid hr
        have HNE := Lib.hid hne
        have HM := Lib.hid (Nat.le_refl p8.heap.size)
        clear hr hne
        replace HO := Lib.hid (HO.out.ext hx)
        have hH2 := hHeld.trans hx
        refine hK.out _ _ hH2 (fun _ => ?_)
        clear hHeld hK K
        have hHeld := hH2
        clear hH2
        try simp only [Act.put, List.setIfInBounds_toArray, List.set_cons_zero, List.set_cons_succ]
        clear hx
        refine wpAnyH_ready (rs := [6]) (by kernel_rfl) (by simp) (AllReadyH.cons (o := ?oy536) ?hy536 (fun K hK => ?sy536) AllReadyH.nil)
        case hy536 => simp only [List.getElem?_toArray, List.getElem?_cons_zero, List.getElem?_cons_succ]; rfl
        go_simp
        obtain ⟨p9, hV, hx, HR6⟩ := byteStep p8 hu2
        rw [← hV]
        clear hV
        replace HR12 := Lib.hid (HR12.out.ext (by decide) hx)
        replace HM := Lib.hid (Nat.le_trans HM.out hx.size)
        replace HO := Lib.hid (HO.out.ext hx)
        have hH2 := hHeld.trans hx
        refine hK.out _ _ hH2 (fun _ => ?_)
        clear hHeld hK K
        have hHeld := hH2
        clear hH2
        try simp only [Act.put, List.setIfInBounds_toArray, List.set_cons_zero, List.set_cons_succ]
        clear hx
        refine wpAnyH_ready (rs := [7]) (by kernel_rfl) (by simp) (AllReadyH.cons (o := ?oy547) ?hy547 (fun K hK => ?sy547) AllReadyH.nil)
        case hy547 => simp only [List.getElem?_toArray, List.getElem?_cons_zero, List.getElem?_cons_succ]; rfl
        refine stp_append rowByte rfl (.tmp 36) (.tmp 42) rfl (v := .slice C cn cc) rfl HO.out _ _ rfl (ys := [x.num]) rfl (rd_of HR6.out).1 (rd_of HR6.out).2.1 (by rw [HLN.out]; simp; omega) hHeld.size ?_
        intro v7 p10 ho1 hg1 hat1
        obtain ⟨D, dn, dc, rfl⟩ := ho1.shape3
        have hh := HO.out.ext_app hHeld hg1
        replace HR12 := Lib.hid (appOver HR12.out HNE.out HM.out hg1)
        have HO7 := Lib.hid ho1
        clear ho1 hg1 hat1 HO
        have hH2 := hh
        refine hK.out _ _ hH2 (fun _ => ?_)
        clear hHeld hK K
        have hHeld := hH2
        clear hH2
        try simp only [Act.put, List.setIfInBounds_toArray, List.set_cons_zero, List.set_cons_succ]
        clear hh
        refine wpAnyH_ready (rs := [13]) (by kernel_rfl) (by simp) (AllReadyH.cons (o := ?oy5513) ?hy5513 (fun K hK => ?sy5513) AllReadyH.nil)
        case hy5513 => simp only [List.getElem?_toArray, List.getElem?_cons_zero, List.getElem?_cons_succ]; rfl
        refine stp_append rowByte rfl (.tmp 43) (.tmp 48) rfl (v := .slice D dn dc) rfl HO7.out _ _ rfl (ys := strL x.note) (rd_of HR12.out).2.2 (rd_of HR12.out).1 (rd_of HR12.out).2.1 (by rw [List.length_append, HLN.out, HLS.out]; simp; omega) hHeld.size ?_
        intro v13 p11 ho1 hg1 hat1
        have hh := HO7.out.ext_app hHeld hg1
        have HO13 := Lib.hid ho1
        clear ho1 hg1 hat1 HO7
        obtain ⟨E, en, ec, rfl⟩ := HO13.out.shape3
        have hH2 := hh
        refine hK.out _ _ hH2 (fun _ => ?_)
        clear hHeld hK K
        have hHeld := hH2
        clear hH2
        try simp only [Act.put, List.setIfInBounds_toArray, List.set_cons_zero, List.set_cons_succ]
        clear hh
        refine tkI 14 (by simp only [List.getElem?_toArray, List.getElem?_cons_zero, List.getElem?_cons_succ]; rfl) (by kernel_rfl) (by exact fun _ _ _ h => h) (by first | (exact Or.inl ⟨by rfl, by intro w hSw; (try dsimp only at hSw); go_simp; with_reducible rfl⟩) | (exact Or.inr ⟨by rfl, by rfl⟩)) (by assumption) ?_
        try simp only [Act.put, List.setIfInBounds_toArray, List.set_cons_zero, List.set_cons_succ]
        refine wpAnyH_done (by kernel_rfl) ?_ _
        have XW := Lib.hid hHeld
        clear hHeld
        go_wp2_with fail
        go_ret
        exact ⟨_, rfl, by rw [HD.out]; exact HO13.out, XW.out⟩
set_option maxHeartbeats 1000000 in
set_option maxRecDepth 100000 in
theorem l07Key_at (cs : Array Value) (x : Cm) (hok : okCm x = true) (w : World) (S : Nat → Prop) (h : RCommit w S cs x) (gb ob : Nat) (hb : ∀ j u, cs[j]? = some u → w.cell? ⟨gb, ob + j, none⟩ = some u) :
    Calls Try.prog 81 #[.pointer (some ⟨gb, ob, none⟩)] w fun e w' => e = .returned (.agg (numsA .u8 (hashL 7 (dataL x)))) ∧ Ext w w' := by
  have hk := (hashL_ok 7 (dataL x)).1
  have Hnl := Lib.hid (dataL_length h hok)
  have H := Lib.hid h
  have HB := Lib.hid hb
  clear h hb
  go_enter Try.func81, Try.ntmps81
  go_wp2_with fail
  refine (l07Data_at cs x hok _ S (H.out.ext (ext_alloc _ _)) gb ob (fun j u hu => (ext_alloc _ _).cell (HB.out j u hu))).mono ?_
  rintro e w1 ⟨v1, rfl, ho, hx⟩
  obtain ⟨A1, n1, c1, rfl⟩ := ho.shape3
  have B1 := Lib.hid ((Blk.new w 53 _).ext hx)
  have XW := Lib.hid ((ext_alloc w _).trans hx)
  have HO := Lib.hid ho
  clear hx ho
  go_wp2_with fail
  refine (l01Hash_any 7 (by decide) _ (dataL x) _ _ HO.out.rd (by have := Hnl.out; omega)).mono ?_
  rintro e w2 ⟨rfl, hx⟩
  replace B1 := Lib.hid (B1.out.ext hx)
  replace XW := Lib.hid (XW.out.trans hx)
  clear hx HO
  go_wp2_with (refine wpl_storeN B1.out aggKey hk rfl rfl _ _ rfl rfl rfl rfl ?_)
  refine bodyPost_ret (results_blk rfl _ rfl aggKey hk (B1.out.setRow _)) rfl ?_
  exact ⟨rfl, XW.out.setRow (by omega) _⟩
end Go.Proofs.Ytnklgkmpcochfaa
/- The place of the greatest priority: the reference. No condition. -/
namespace Go.Proofs.Ytnklgkmpcochfaa
open Go.RowKit
set_option linter.unusedVariables false
set_option linter.unusedSimpArgs false

set_option maxHeartbeats 1000000 in
set_option maxRecDepth 100000 in
theorem l04Top_any (v : Value) (L : List En) (h0 : 0 < L.length) (hg : good L) (w : World) (S : Nat → Prop) (h : RdL tEnt w S v L) :
    Calls Try.prog 135 #[v] w fun e w' => e = .returned (.int .i64 (topE L)) ∧ Ext w w' := by
  obtain ⟨A, cap, rfl, hcap, hlen, hrd, hok⟩ := h
  have Hrd := Lib.hid hrd
  have Hok := Lib.hid hok
  have HG := Lib.hid hg
  clear hrd hok hg
  have hsz : ∀ k (hk : k < L.length), L[k].1.size ≤ 1048576 := fun k hk => by have := entB_le (HG.out _ (List.getElem_mem hk)).2; omega
  have HSZ := Lib.hid hsz
  obtain ⟨g, o, rfl, hs0, hc⟩ := Hrd.out.elem Hok.out 0 h0
  have d0 : w.cell? ⟨g, o, none⟩ = some (.string L[0].1) := by have := hc 0 _ rfl; simpa using this
  have i0 : (0 : Int) < (L.length : Int) := by omega
  have hT := topE
  have HTE := Lib.hid (show topE L = topI (prios L) L.length from rfl)
  have HT1 := Lib.hid (topI_one (prios L))
  have HP0 := Lib.hid (prios_at L 0 h0)
  clear hc hsz hT
  go_enter Try.func135, Try.ntmps135
  go_wp2_with fail
  refine (l04Priority_any L[0].1 (HSZ.out 0 h0) _).mono ?_
  rintro e w1 ⟨rfl, hx⟩
  have HX1 := Lib.hid hx
  have HK := Lib.hid (fun k => (prioL_ok k).1)
  clear hx d0
  go_wp2_with (refine wpl_storeNew aggKey (HK.out _) rfl rfl _ _ rfl rfl rfl rfl ?_)
  go_loopw [3, 5] (fun b i wr => ∃ k : Nat, 1 ≤ k ∧ k ≤ L.length ∧ i = .int .i64 k ∧ b = .int .i64 (topI (prios L) k) ∧ Blk wr w1.heap.size 53 (numsA .u8 (gK (prios L) (topI (prios L) k))) ∧ Ext w wr) (fun _ i _ => L.length - (intOf i).toNat)
  case atStart => exact ⟨1, Nat.le_refl _, h0, rfl, by rw [HT1.out]; rfl, by rw [HT1.out, HP0.out]; exact Blk.new w1 _ _, HX1.out.alloc _⟩
  case round =>
    obtain ⟨k, hk1, hk, rfl, rfl, hB, hx⟩ := hrel
    have HX := Lib.hid hx
    have HB := Lib.hid hB
    have HTL := Lib.hid (topI_lt (prios L) k (by omega))
    have HSC := Lib.hid (topI_succ (prios L) k)
    clear hx hB
    obtain ⟨t, ht⟩ : ∃ t, topI (prios L) k = t := ⟨_, rfl⟩
    rw [ht] at HB HTL HSC ⊢
    have HT := Lib.hid ht
    clear ht
    by_cases hlt : k < L.length
    · obtain ⟨g2, o2, e2, hs2, hc⟩ := Hrd.out.elem Hok.out k hlt
      injection e2 with e2
      injection e2 with e3 e4
      subst e3 e4
      have d0 : wr.cell? ⟨g, o + k * 2, none⟩ = some (.string L[k].1) := HX.out.cell (hc 0 _ rfl)
      have HPK := Lib.hid (prios_at L k hlt)
      have HKT := Lib.hid (show K32 (gK (prios L) t) by rw [gK_lt (by rw [prios_length]; have := HTL.out; omega)]; exact prios_ok L _ (List.getElem_mem _))
      have hi : (0 : Int) ≤ (k : Int) := by omega
      have hi2 : (k : Int) < (L.length : Int) := by omega
      clear hc
      go_wp2_with fail
      refine (l04Priority_any L[k].1 (HSZ.out k hlt) _).mono ?_
      rintro e w2 ⟨rfl, hx⟩
      have HX2 := Lib.hid (HX.out.trans hx)
      have HB2 := Lib.hid (HB.out.ext hx)
      clear hx d0 HX HB
      go_wp2_with (first
        | (refine wpl_storeNew aggKey (HK.out _) rfl rfl _ _ rfl rfl rfl rfl ?_)
        | (refine wpl_loadN (Blk.new w2 53 (numsA .u8 (prioL L[k].1))) aggKey (HK.out _) rfl _ rfl rfl ?_)
        | (refine wpl_loadN (HB2.out.alloc _) aggKey HKT.out.1 rfl _ rfl rfl ?_))
      refine (l01Compare_any (prioL L[k].1) (gK (prios L) t) (prioL_ok _) HKT.out _).mono ?_
      rintro e w3 ⟨rfl, hx⟩
      have HB3 := Lib.hid ((HB2.out.alloc (.cells (numsA .u8 (prioL L[k].1)) 53)).ext hx)
      have HN3 := Lib.hid ((Blk.new w2 53 (numsA .u8 (prioL L[k].1))).ext hx)
      have HX3 := Lib.hid ((HX2.out.alloc _).trans hx)
      clear hx
      by_cases hc : 0 < cmpL (prioL L[k].1) (gK (prios L) t)
      · have HC := Lib.hid (show topI (prios L) (k + 1) = k by rw [HSC.out, HPK.out, if_pos hc])
        go_wp2_with (first
          | (refine wpl_loadN HN3.out aggKey (HK.out _) rfl _ rfl rfl ?_)
          | (refine wpl_storeN HB3.out aggKey (HK.out _) (by rw [numsA_size, HKT.out.1]) rfl _ _ rfl rfl rfl rfl ?_))
        go_roundw
        case rel => exact ⟨k + 1, by omega, by omega, by go_num, by rw [HC.out], by rw [HC.out, HPK.out]; exact HB3.out.setRow _, HX3.out.setRow HX1.out.size _⟩
        case measure => simp [intOf]; omega
      · have HC := Lib.hid (show topI (prios L) (k + 1) = t by rw [HSC.out, HPK.out, if_neg hc])
        go_wp2
        go_roundw
        case rel => exact ⟨k + 1, by omega, by omega, by go_num, by rw [HC.out], by rw [HC.out]; exact HB3.out, HX3.out⟩
        case measure => simp [intOf]; omega
    · obtain rfl : k = L.length := by omega
      go_wp2
      go_ret
      exact ⟨by rw [HTE.out, HT.out]; rfl, HX.out⟩
end Go.Proofs.Ytnklgkmpcochfaa
