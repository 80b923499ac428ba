/- What the walk of the law FnExactSameBook needs, part 3 of 4. No condition. -/
import Derived.Test.YteegnbdgfedajaaPFnExactSameBook2
/- Equal lists of keys and equal commits: the reference and the program. No condition. -/
namespace Go.Proofs.Yteegnbdgfedajaa
open Go.RowKit
set_option linter.unusedVariables false
set_option linter.unusedSimpArgs false

/-- a load of a part of a variable that any world behind w0 answers alike -/
theorem yields_loadP {P : Program} {ops : Array Oper} {op : Oper} {a : Act} {w0 : World} {t g e n off : Nat} {cs sub : Array Value} (hb : Blk w0 g e cs) (ht : Agg P t n) (hn : sub.size = n) (hp : ∀ j u, sub[j]? = some u → cs[off + j]? = some u) (hw : Region.wanted op (yielded ops a.tmps) = true) (x : Operand) (ho : op.op = .load t x) (hx : a.eval x = .pointer (some ⟨g, off, none⟩)) :
    YieldsIf P ops (fun W => Ext w0 W) op (.agg sub) a := by
  have := yields_loadR (P := P) (ops := ops) (op := op) (a := a) (w0 := w0) (t := t) g off sub.toList (by simpa [hn] using ht) (fun j u hu => by
    rw [hb.cell]
    exact hp j u (by simpa using hu)) hw x ho hx
  simpa using this
set_option maxHeartbeats 1000000 in
set_option maxRecDepth 100000 in
theorem l03Lists_any (v u : Value) (xs ys : List (List Int)) (w : World) (S S' : Nat → Prop) (h : RdL tKey w S v xs) (h' : RdL tKey w S' u ys) :
    Calls Try.prog 90 #[v, u] w fun e w' => e = .returned (.bool (decide (xs = ys))) ∧ Ext w w' := by
  obtain ⟨A, cap, rfl, hcap, hlen, hrd, hok⟩ := h
  obtain ⟨A', cap', rfl, hcap', hlen', hrd', hok'⟩ := h'
  have Hrd := Lib.hid hrd
  have Hrd' := Lib.hid hrd'
  have Hok := Lib.hid hok
  have Hok' := Lib.hid hok'
  clear hrd hok hrd' hok'
  by_cases hl : xs.length = ys.length
  rotate_left
  · have Hl := Lib.hid hl
    have hl1 : ((xs.length : Int) != (ys.length : Int)) = true := by simp; omega
    clear hl
    go_enter Try.func90, Try.ntmps90
    go_wp2
    go_ret
    exact ⟨by rw [decide_eq_false (fun h => Hl.out (by rw [h]))]; rfl, Ext.refl _⟩
  have Hl := Lib.hid hl
  have hl1 : ((xs.length : Int) != (ys.length : Int)) = false := by simp [hl]
  clear hl
  go_enter Try.func90, Try.ntmps90
  go_wp2
  go_loopw [5] (fun i wr => ∃ k : Nat, k ≤ xs.length ∧ i = .int .i64 k ∧ xs.take k = ys.take k ∧ Ext w wr) (fun i _ => xs.length - (intOf i).toNat)
  case atStart => exact ⟨0, by omega, rfl, by simp, Ext.refl _⟩
  case round =>
    obtain ⟨k, hk, rfl, ht, hx⟩ := hrel
    have Ht := Lib.hid ht
    have HX := Lib.hid hx
    clear ht hl1 hx
    by_cases hlt : k < xs.length
    · have hlt' : k < ys.length := by rw [← Hl.out]; exact hlt
      obtain ⟨g, o, rfl, hs, hc⟩ := Hrd.out.elem Hok.out k hlt
      obtain ⟨g2, o2, rfl, hs2, hc2⟩ := Hrd'.out.elem Hok'.out k hlt'
      have HX0 := Lib.hid (show K32 xs[k] from Hok.out _ (List.getElem_mem hlt))
      have HX1 := Lib.hid (show K32 ys[k] from Hok'.out _ (List.getElem_mem hlt'))
      have HD0 := Lib.hid (show ∀ j u, (tKey.enc xs[k])[j]? = some u → wr.cell? ⟨g, o + k * 32 + j, none⟩ = some u from fun j u hu => HX.out.cell (hc j u hu))
      have HD1 := Lib.hid (show ∀ j u, (tKey.enc ys[k])[j]? = some u → wr.cell? ⟨g2, o2 + k * 32 + j, none⟩ = some u from fun j u hu => HX.out.cell (hc2 j u hu))
      clear hc hc2
      have hi : (0 : Int) ≤ (k : Int) := by omega
      have hi2 : (k : Int) < (xs.length : Int) := by omega
      have hi3 : (k : Int) < (ys.length : Int) := by omega
      by_cases he : xs[k] = ys[k]
      · have He := Lib.hid he
        have hneq : ∀ W, (binOp .neq 40 (.agg (tKey.enc xs[k]).toArray) (.agg (tKey.enc ys[k]).toArray)).run Try.prog W = .ok (.bool false) W := fun W => by
          have := run_neqKey xs[k] ys[k] HX0.out HX1.out W
          rw [decide_eq_true He.out] at this
          exact this
        clear he
        go_wp2_with fail
        refine wp_region_held_drew (S := fun W => Ext wr W) (by kernel_rfl) (Ext.refl _).drew (fun hHeld => ?_)
        refine wpAnyH_take (i := 0) (oi := ?oiz1) (v := ?vz1) ?hiz1 (by kernel_rfl) (by kernel_rfl) (by kernel_rfl) ?hQz1 ?hyz1 (by assumption) ?restz1
        case hiz1 => simp only [List.getElem?_toArray, List.getElem?_cons_zero, List.getElem?_cons_succ]; rfl
        case hQz1 => exact fun _ _ _ h => h
        case hyz1 => exact Or.inl ⟨by rfl, by intro w hSw; (try dsimp only at hSw); go_simp; with_reducible rfl⟩
        try simp only [Act.put, List.setIfInBounds_toArray, List.set_cons_zero, List.set_cons_succ]
        refine wpAnyH_take (i := 1) (oi := ?oiz2) (v := ?vz2) ?hiz2 (by kernel_rfl) (by kernel_rfl) (by kernel_rfl) ?hQz2 ?hyz2 (by assumption) ?restz2
        case hiz2 => simp only [List.getElem?_toArray, List.getElem?_cons_zero, List.getElem?_cons_succ]; rfl
        case hQz2 => exact fun _ _ _ h => h
        case hyz2 => exact Or.inl ⟨by rfl, by intro w hSw; (try dsimp only at hSw); go_simp; with_reducible rfl⟩
        try simp only [Act.put, List.setIfInBounds_toArray, List.set_cons_zero, List.set_cons_succ]
        refine wpAnyH_take (i := 2) (oi := ?oiz3) (v := ?vz3) ?hiz3 (by kernel_rfl) (by kernel_rfl) (by kernel_rfl) ?hQz3 ?hyz3 (by assumption) ?restz3
        case hiz3 => simp only [List.getElem?_toArray, List.getElem?_cons_zero, List.getElem?_cons_succ]; rfl
        case hQz3 => exact fun _ _ _ h => h
        case hyz3 => exact Or.inl ⟨by rfl, by intro w hSw; (try dsimp only at hSw); go_simp; with_reducible rfl⟩
        try simp only [Act.put, List.setIfInBounds_toArray, List.set_cons_zero, List.set_cons_succ]
        refine wpAnyH_take (i := 3) (oi := ?oiz4) (v := (.agg (tKey.enc xs[k]).toArray)) ?hiz4 (by kernel_rfl) (by kernel_rfl) (by kernel_rfl) ?hQz4 ?hyz4 (by assumption) ?restz4
        case hiz4 => simp only [List.getElem?_toArray, List.getElem?_cons_zero, List.getElem?_cons_succ]; rfl
        case hQz4 => exact fun _ _ _ h => h
        case hyz4 => refine yields_loadR g (o + k * 32) (tKey.enc xs[k]) (by rw [tKey.len _ HX0.out]; exact aggKey) HD0.out ?_ _ rfl rfl; rfl
        try simp only [Act.put, List.setIfInBounds_toArray, List.set_cons_zero, List.set_cons_succ]
        refine wpAnyH_take (i := 4) (oi := ?oiz5) (v := ?vz5) ?hiz5 (by kernel_rfl) (by kernel_rfl) (by kernel_rfl) ?hQz5 ?hyz5 (by assumption) ?restz5
        case hiz5 => simp only [List.getElem?_toArray, List.getElem?_cons_zero, List.getElem?_cons_succ]; rfl
        case hQz5 => exact fun _ _ _ h => h
        case hyz5 => exact Or.inl ⟨by rfl, by intro w hSw; (try dsimp only at hSw); go_simp; with_reducible rfl⟩
        try simp only [Act.put, List.setIfInBounds_toArray, List.set_cons_zero, List.set_cons_succ]
        refine wpAnyH_take (i := 5) (oi := ?oiz6) (v := ?vz6) ?hiz6 (by kernel_rfl) (by kernel_rfl) (by kernel_rfl) ?hQz6 ?hyz6 (by assumption) ?restz6
        case hiz6 => simp only [List.getElem?_toArray, List.getElem?_cons_zero, List.getElem?_cons_succ]; rfl
        case hQz6 => exact fun _ _ _ h => h
        case hyz6 => exact Or.inl ⟨by rfl, by intro w hSw; (try dsimp only at hSw); go_simp; with_reducible rfl⟩
        try simp only [Act.put, List.setIfInBounds_toArray, List.set_cons_zero, List.set_cons_succ]
        refine wpAnyH_take (i := 6) (oi := ?oiz7) (v := ?vz7) ?hiz7 (by kernel_rfl) (by kernel_rfl) (by kernel_rfl) ?hQz7 ?hyz7 (by assumption) ?restz7
        case hiz7 => simp only [List.getElem?_toArray, List.getElem?_cons_zero, List.getElem?_cons_succ]; rfl
        case hQz7 => exact fun _ _ _ h => h
        case hyz7 => exact Or.inl ⟨by rfl, by intro w hSw; (try dsimp only at hSw); go_simp; with_reducible rfl⟩
        try simp only [Act.put, List.setIfInBounds_toArray, List.set_cons_zero, List.set_cons_succ]
        refine wpAnyH_take (i := 7) (oi := ?oiz8) (v := (.agg (tKey.enc ys[k]).toArray)) ?hiz8 (by kernel_rfl) (by kernel_rfl) (by kernel_rfl) ?hQz8 ?hyz8 (by assumption) ?restz8
        case hiz8 => simp only [List.getElem?_toArray, List.getElem?_cons_zero, List.getElem?_cons_succ]; rfl
        case hQz8 => exact fun _ _ _ h => h
        case hyz8 => refine yields_loadR g2 (o2 + k * 32) (tKey.enc ys[k]) (by rw [tKey.len _ HX1.out]; exact aggKey) HD1.out ?_ _ rfl rfl; rfl
        try simp only [Act.put, List.setIfInBounds_toArray, List.set_cons_zero, List.set_cons_succ]
        refine wpAnyH_take (i := 8) (oi := ?oiz9) (v := ?vz9) ?hiz9 (by kernel_rfl) (by kernel_rfl) (by kernel_rfl) ?hQz9 ?hyz9 (by assumption) ?restz9
        case hiz9 => simp only [List.getElem?_toArray, List.getElem?_cons_zero, List.getElem?_cons_succ]; rfl
        case hQz9 => exact fun _ _ _ h => h
        case hyz9 => exact Or.inl ⟨by rfl, by intro w hSw; (try dsimp only at hSw); go_simp; with_reducible rfl⟩
        try simp only [Act.put, List.setIfInBounds_toArray, List.set_cons_zero, List.set_cons_succ]
        refine wpAnyH_done (by kernel_rfl) ?_ _
        have HX2 := Lib.hid (HX.out.trans hHeld)
        clear hHeld
        go_wp2
        go_roundw
        case rel => exact ⟨k + 1, by omega, by go_num, by rw [List.take_succ_eq_append_getElem hlt, List.take_succ_eq_append_getElem hlt', Ht.out, He.out], HX2.out⟩
        case measure => simp [intOf]; omega
      · have He := Lib.hid he
        have hneq : ∀ W, (binOp .neq 40 (.agg (tKey.enc xs[k]).toArray) (.agg (tKey.enc ys[k]).toArray)).run Try.prog W = .ok (.bool true) W := fun W => by
          have := run_neqKey xs[k] ys[k] HX0.out HX1.out W
          rw [decide_eq_false He.out] at this
          exact this
        clear he
        go_wp2_with fail
        refine wp_region_held_drew (S := fun W => Ext wr W) (by kernel_rfl) (Ext.refl _).drew (fun hHeld => ?_)
        refine wpAnyH_take (i := 0) (oi := ?oiz10) (v := ?vz10) ?hiz10 (by kernel_rfl) (by kernel_rfl) (by kernel_rfl) ?hQz10 ?hyz10 (by assumption) ?restz10
        case hiz10 => simp only [List.getElem?_toArray, List.getElem?_cons_zero, List.getElem?_cons_succ]; rfl
        case hQz10 => exact fun _ _ _ h => h
        case hyz10 => exact Or.inl ⟨by rfl, by intro w hSw; (try dsimp only at hSw); go_simp; with_reducible rfl⟩
        try simp only [Act.put, List.setIfInBounds_toArray, List.set_cons_zero, List.set_cons_succ]
        refine wpAnyH_take (i := 1) (oi := ?oiz11) (v := ?vz11) ?hiz11 (by kernel_rfl) (by kernel_rfl) (by kernel_rfl) ?hQz11 ?hyz11 (by assumption) ?restz11
        case hiz11 => simp only [List.getElem?_toArray, List.getElem?_cons_zero, List.getElem?_cons_succ]; rfl
        case hQz11 => exact fun _ _ _ h => h
        case hyz11 => exact Or.inl ⟨by rfl, by intro w hSw; (try dsimp only at hSw); go_simp; with_reducible rfl⟩
        try simp only [Act.put, List.setIfInBounds_toArray, List.set_cons_zero, List.set_cons_succ]
        refine wpAnyH_take (i := 2) (oi := ?oiz12) (v := ?vz12) ?hiz12 (by kernel_rfl) (by kernel_rfl) (by kernel_rfl) ?hQz12 ?hyz12 (by assumption) ?restz12
        case hiz12 => simp only [List.getElem?_toArray, List.getElem?_cons_zero, List.getElem?_cons_succ]; rfl
        case hQz12 => exact fun _ _ _ h => h
        case hyz12 => exact Or.inl ⟨by rfl, by intro w hSw; (try dsimp only at hSw); go_simp; with_reducible rfl⟩
        try simp only [Act.put, List.setIfInBounds_toArray, List.set_cons_zero, List.set_cons_succ]
        refine wpAnyH_take (i := 3) (oi := ?oiz13) (v := (.agg (tKey.enc xs[k]).toArray)) ?hiz13 (by kernel_rfl) (by kernel_rfl) (by kernel_rfl) ?hQz13 ?hyz13 (by assumption) ?restz13
        case hiz13 => simp only [List.getElem?_toArray, List.getElem?_cons_zero, List.getElem?_cons_succ]; rfl
        case hQz13 => exact fun _ _ _ h => h
        case hyz13 => refine yields_loadR g (o + k * 32) (tKey.enc xs[k]) (by rw [tKey.len _ HX0.out]; exact aggKey) HD0.out ?_ _ rfl rfl; rfl
        try simp only [Act.put, List.setIfInBounds_toArray, List.set_cons_zero, List.set_cons_succ]
        refine wpAnyH_take (i := 4) (oi := ?oiz14) (v := ?vz14) ?hiz14 (by kernel_rfl) (by kernel_rfl) (by kernel_rfl) ?hQz14 ?hyz14 (by assumption) ?restz14
        case hiz14 => simp only [List.getElem?_toArray, List.getElem?_cons_zero, List.getElem?_cons_succ]; rfl
        case hQz14 => exact fun _ _ _ h => h
        case hyz14 => exact Or.inl ⟨by rfl, by intro w hSw; (try dsimp only at hSw); go_simp; with_reducible rfl⟩
        try simp only [Act.put, List.setIfInBounds_toArray, List.set_cons_zero, List.set_cons_succ]
        refine wpAnyH_take (i := 5) (oi := ?oiz15) (v := ?vz15) ?hiz15 (by kernel_rfl) (by kernel_rfl) (by kernel_rfl) ?hQz15 ?hyz15 (by assumption) ?restz15
        case hiz15 => simp only [List.getElem?_toArray, List.getElem?_cons_zero, List.getElem?_cons_succ]; rfl
        case hQz15 => exact fun _ _ _ h => h
        case hyz15 => exact Or.inl ⟨by rfl, by intro w hSw; (try dsimp only at hSw); go_simp; with_reducible rfl⟩
        try simp only [Act.put, List.setIfInBounds_toArray, List.set_cons_zero, List.set_cons_succ]
        refine wpAnyH_take (i := 6) (oi := ?oiz16) (v := ?vz16) ?hiz16 (by kernel_rfl) (by kernel_rfl) (by kernel_rfl) ?hQz16 ?hyz16 (by assumption) ?restz16
        case hiz16 => simp only [List.getElem?_toArray, List.getElem?_cons_zero, List.getElem?_cons_succ]; rfl
        case hQz16 => exact fun _ _ _ h => h
        case hyz16 => exact Or.inl ⟨by rfl, by intro w hSw; (try dsimp only at hSw); go_simp; with_reducible rfl⟩
        try simp only [Act.put, List.setIfInBounds_toArray, List.set_cons_zero, List.set_cons_succ]
        refine wpAnyH_take (i := 7) (oi := ?oiz17) (v := (.agg (tKey.enc ys[k]).toArray)) ?hiz17 (by kernel_rfl) (by kernel_rfl) (by kernel_rfl) ?hQz17 ?hyz17 (by assumption) ?restz17
        case hiz17 => simp only [List.getElem?_toArray, List.getElem?_cons_zero, List.getElem?_cons_succ]; rfl
        case hQz17 => exact fun _ _ _ h => h
        case hyz17 => refine yields_loadR g2 (o2 + k * 32) (tKey.enc ys[k]) (by rw [tKey.len _ HX1.out]; exact aggKey) HD1.out ?_ _ rfl rfl; rfl
        try simp only [Act.put, List.setIfInBounds_toArray, List.set_cons_zero, List.set_cons_succ]
        refine wpAnyH_take (i := 8) (oi := ?oiz18) (v := ?vz18) ?hiz18 (by kernel_rfl) (by kernel_rfl) (by kernel_rfl) ?hQz18 ?hyz18 (by assumption) ?restz18
        case hiz18 => simp only [List.getElem?_toArray, List.getElem?_cons_zero, List.getElem?_cons_succ]; rfl
        case hQz18 => exact fun _ _ _ h => h
        case hyz18 => exact Or.inl ⟨by rfl, by intro w hSw; (try dsimp only at hSw); go_simp; with_reducible rfl⟩
        try simp only [Act.put, List.setIfInBounds_toArray, List.set_cons_zero, List.set_cons_succ]
        refine wpAnyH_done (by kernel_rfl) ?_ _
        have HX2 := Lib.hid (HX.out.trans hHeld)
        clear hHeld
        go_wp2
        go_ret
        exact ⟨by rw [decide_eq_false (fun h => He.out (by subst h; rfl))]; rfl, HX2.out⟩
    · go_wp2
      go_ret
      obtain rfl : k = xs.length := by omega
      refine ⟨?_, HX.out⟩
      have e := Ht.out
      rw [List.take_of_length_le (by omega), List.take_of_length_le (by rw [Hl.out]; omega)] at e
      rw [decide_eq_true e]; rfl
set_option maxHeartbeats 1000000 in
set_option maxRecDepth 100000 in
theorem slEqualKey_any (v u : Value) (xs ys : List (List Int)) (w : World) (S S' : Nat → Prop) (h : RdL tKey w S v xs) (h' : RdL tKey w S' u ys) :
    Calls Try.prog 93 #[v, u] w fun e w' => e = .returned (.bool (decide (xs = ys))) ∧ Ext w w' := by
  obtain ⟨A, cap, rfl, hcap, hlen, hrd, hok⟩ := h
  obtain ⟨A', cap', rfl, hcap', hlen', hrd', hok'⟩ := h'
  have Hrd := Lib.hid hrd
  have Hrd' := Lib.hid hrd'
  have Hok := Lib.hid hok
  have Hok' := Lib.hid hok'
  clear hrd hok hrd' hok'
  by_cases hl : xs.length = ys.length
  rotate_left
  · have Hl := Lib.hid hl
    have hl1 : ((xs.length : Int) != (ys.length : Int)) = true := by simp; omega
    clear hl
    go_enter Try.func93, Try.ntmps93
    go_wp2
    go_ret
    exact ⟨by rw [decide_eq_false (fun h => Hl.out (by rw [h]))]; rfl, Ext.refl _⟩
  have Hl := Lib.hid hl
  have hl1 : ((xs.length : Int) != (ys.length : Int)) = false := by simp [hl]
  clear hl
  go_enter Try.func93, Try.ntmps93
  go_wp2
  go_loopw [13] (fun i wr => ∃ k : Nat, k ≤ xs.length ∧ i = .int .i64 k ∧ xs.take k = ys.take k ∧ Ext w wr) (fun i _ => xs.length - (intOf i).toNat)
  case atStart => exact ⟨0, by omega, rfl, by simp, Ext.refl _⟩
  case round =>
    obtain ⟨k, hk, rfl, ht, hx⟩ := hrel
    have Ht := Lib.hid ht
    have HX := Lib.hid hx
    clear ht hl1 hx
    by_cases hlt : k < xs.length
    · have hlt' : k < ys.length := by rw [← Hl.out]; exact hlt
      obtain ⟨g, o, rfl, hs, hc⟩ := Hrd.out.elem Hok.out k hlt
      obtain ⟨g2, o2, rfl, hs2, hc2⟩ := Hrd'.out.elem Hok'.out k hlt'
      have HX0 := Lib.hid (show K32 xs[k] from Hok.out _ (List.getElem_mem hlt))
      have HX1 := Lib.hid (show K32 ys[k] from Hok'.out _ (List.getElem_mem hlt'))
      have HD0 := Lib.hid (show ∀ j u, (tKey.enc xs[k])[j]? = some u → wr.cell? ⟨g, o + k * 32 + j, none⟩ = some u from fun j u hu => HX.out.cell (hc j u hu))
      have HD1 := Lib.hid (show ∀ j u, (tKey.enc ys[k])[j]? = some u → wr.cell? ⟨g2, o2 + k * 32 + j, none⟩ = some u from fun j u hu => HX.out.cell (hc2 j u hu))
      clear hc hc2
      have hi : (0 : Int) ≤ (k : Int) := by omega
      have hi2 : (k : Int) < (xs.length : Int) := by omega
      have hi3 : (k : Int) < (ys.length : Int) := by omega
      by_cases he : xs[k] = ys[k]
      · have He := Lib.hid he
        have hneq : ∀ W, (binOp .neq 40 (.agg (tKey.enc xs[k]).toArray) (.agg (tKey.enc ys[k]).toArray)).run Try.prog W = .ok (.bool false) W := fun W => by
          have := run_neqKey xs[k] ys[k] HX0.out HX1.out W
          rw [decide_eq_true He.out] at this
          exact this
        clear he
        go_wp2_with fail
        refine wp_region_held_drew (S := fun W => Ext wr W) (by kernel_rfl) (Ext.refl _).drew (fun hHeld => ?_)
        refine wpAnyH_take (i := 0) (oi := ?oiz19) (v := ?vz19) ?hiz19 (by kernel_rfl) (by kernel_rfl) (by kernel_rfl) ?hQz19 ?hyz19 (by assumption) ?restz19
        case hiz19 => simp only [List.getElem?_toArray, List.getElem?_cons_zero, List.getElem?_cons_succ]; rfl
        case hQz19 => exact fun _ _ _ h => h
        case hyz19 => exact Or.inl ⟨by rfl, by intro w hSw; (try dsimp only at hSw); go_simp; with_reducible rfl⟩
        try simp only [Act.put, List.setIfInBounds_toArray, List.set_cons_zero, List.set_cons_succ]
        refine wpAnyH_take (i := 1) (oi := ?oiz20) (v := ?vz20) ?hiz20 (by kernel_rfl) (by kernel_rfl) (by kernel_rfl) ?hQz20 ?hyz20 (by assumption) ?restz20
        case hiz20 => simp only [List.getElem?_toArray, List.getElem?_cons_zero, List.getElem?_cons_succ]; rfl
        case hQz20 => exact fun _ _ _ h => h
        case hyz20 => exact Or.inl ⟨by rfl, by intro w hSw; (try dsimp only at hSw); go_simp; with_reducible rfl⟩
        try simp only [Act.put, List.setIfInBounds_toArray, List.set_cons_zero, List.set_cons_succ]
        refine wpAnyH_take (i := 2) (oi := ?oiz21) (v := ?vz21) ?hiz21 (by kernel_rfl) (by kernel_rfl) (by kernel_rfl) ?hQz21 ?hyz21 (by assumption) ?restz21
        case hiz21 => simp only [List.getElem?_toArray, List.getElem?_cons_zero, List.getElem?_cons_succ]; rfl
        case hQz21 => exact fun _ _ _ h => h
        case hyz21 => exact Or.inl ⟨by rfl, by intro w hSw; (try dsimp only at hSw); go_simp; with_reducible rfl⟩
        try simp only [Act.put, List.setIfInBounds_toArray, List.set_cons_zero, List.set_cons_succ]
        refine wpAnyH_take (i := 3) (oi := ?oiz22) (v := (.agg (tKey.enc xs[k]).toArray)) ?hiz22 (by kernel_rfl) (by kernel_rfl) (by kernel_rfl) ?hQz22 ?hyz22 (by assumption) ?restz22
        case hiz22 => simp only [List.getElem?_toArray, List.getElem?_cons_zero, List.getElem?_cons_succ]; rfl
        case hQz22 => exact fun _ _ _ h => h
        case hyz22 => refine yields_loadR g (o + k * 32) (tKey.enc xs[k]) (by rw [tKey.len _ HX0.out]; exact aggKey) HD0.out ?_ _ rfl rfl; rfl
        try simp only [Act.put, List.setIfInBounds_toArray, List.set_cons_zero, List.set_cons_succ]
        refine wpAnyH_take (i := 4) (oi := ?oiz23) (v := ?vz23) ?hiz23 (by kernel_rfl) (by kernel_rfl) (by kernel_rfl) ?hQz23 ?hyz23 (by assumption) ?restz23
        case hiz23 => simp only [List.getElem?_toArray, List.getElem?_cons_zero, List.getElem?_cons_succ]; rfl
        case hQz23 => exact fun _ _ _ h => h
        case hyz23 => exact Or.inl ⟨by rfl, by intro w hSw; (try dsimp only at hSw); go_simp; with_reducible rfl⟩
        try simp only [Act.put, List.setIfInBounds_toArray, List.set_cons_zero, List.set_cons_succ]
        refine wpAnyH_take (i := 5) (oi := ?oiz24) (v := ?vz24) ?hiz24 (by kernel_rfl) (by kernel_rfl) (by kernel_rfl) ?hQz24 ?hyz24 (by assumption) ?restz24
        case hiz24 => simp only [List.getElem?_toArray, List.getElem?_cons_zero, List.getElem?_cons_succ]; rfl
        case hQz24 => exact fun _ _ _ h => h
        case hyz24 => exact Or.inl ⟨by rfl, by intro w hSw; (try dsimp only at hSw); go_simp; with_reducible rfl⟩
        try simp only [Act.put, List.setIfInBounds_toArray, List.set_cons_zero, List.set_cons_succ]
        refine wpAnyH_take (i := 6) (oi := ?oiz25) (v := ?vz25) ?hiz25 (by kernel_rfl) (by kernel_rfl) (by kernel_rfl) ?hQz25 ?hyz25 (by assumption) ?restz25
        case hiz25 => simp only [List.getElem?_toArray, List.getElem?_cons_zero, List.getElem?_cons_succ]; rfl
        case hQz25 => exact fun _ _ _ h => h
        case hyz25 => exact Or.inl ⟨by rfl, by intro w hSw; (try dsimp only at hSw); go_simp; with_reducible rfl⟩
        try simp only [Act.put, List.setIfInBounds_toArray, List.set_cons_zero, List.set_cons_succ]
        refine wpAnyH_take (i := 7) (oi := ?oiz26) (v := (.agg (tKey.enc ys[k]).toArray)) ?hiz26 (by kernel_rfl) (by kernel_rfl) (by kernel_rfl) ?hQz26 ?hyz26 (by assumption) ?restz26
        case hiz26 => simp only [List.getElem?_toArray, List.getElem?_cons_zero, List.getElem?_cons_succ]; rfl
        case hQz26 => exact fun _ _ _ h => h
        case hyz26 => refine yields_loadR g2 (o2 + k * 32) (tKey.enc ys[k]) (by rw [tKey.len _ HX1.out]; exact aggKey) HD1.out ?_ _ rfl rfl; rfl
        try simp only [Act.put, List.setIfInBounds_toArray, List.set_cons_zero, List.set_cons_succ]
        refine wpAnyH_take (i := 8) (oi := ?oiz27) (v := ?vz27) ?hiz27 (by kernel_rfl) (by kernel_rfl) (by kernel_rfl) ?hQz27 ?hyz27 (by assumption) ?restz27
        case hiz27 => simp only [List.getElem?_toArray, List.getElem?_cons_zero, List.getElem?_cons_succ]; rfl
        case hQz27 => exact fun _ _ _ h => h
        case hyz27 => exact Or.inl ⟨by rfl, by intro w hSw; (try dsimp only at hSw); go_simp; with_reducible rfl⟩
        try simp only [Act.put, List.setIfInBounds_toArray, List.set_cons_zero, List.set_cons_succ]
        refine wpAnyH_done (by kernel_rfl) ?_ _
        have HX2 := Lib.hid (HX.out.trans hHeld)
        clear hHeld
        go_wp2
        go_roundw
        case rel => exact ⟨k + 1, by omega, by go_num, by rw [List.take_succ_eq_append_getElem hlt, List.take_succ_eq_append_getElem hlt', Ht.out, He.out], HX2.out⟩
        case measure => simp [intOf]; omega
      · have He := Lib.hid he
        have hneq : ∀ W, (binOp .neq 40 (.agg (tKey.enc xs[k]).toArray) (.agg (tKey.enc ys[k]).toArray)).run Try.prog W = .ok (.bool true) W := fun W => by
          have := run_neqKey xs[k] ys[k] HX0.out HX1.out W
          rw [decide_eq_false He.out] at this
          exact this
        clear he
        go_wp2_with fail
        refine wp_region_held_drew (S := fun W => Ext wr W) (by kernel_rfl) (Ext.refl _).drew (fun hHeld => ?_)
        refine wpAnyH_take (i := 0) (oi := ?oiz28) (v := ?vz28) ?hiz28 (by kernel_rfl) (by kernel_rfl) (by kernel_rfl) ?hQz28 ?hyz28 (by assumption) ?restz28
        case hiz28 => simp only [List.getElem?_toArray, List.getElem?_cons_zero, List.getElem?_cons_succ]; rfl
        case hQz28 => exact fun _ _ _ h => h
        case hyz28 => exact Or.inl ⟨by rfl, by intro w hSw; (try dsimp only at hSw); go_simp; with_reducible rfl⟩
        try simp only [Act.put, List.setIfInBounds_toArray, List.set_cons_zero, List.set_cons_succ]
        refine wpAnyH_take (i := 1) (oi := ?oiz29) (v := ?vz29) ?hiz29 (by kernel_rfl) (by kernel_rfl) (by kernel_rfl) ?hQz29 ?hyz29 (by assumption) ?restz29
        case hiz29 => simp only [List.getElem?_toArray, List.getElem?_cons_zero, List.getElem?_cons_succ]; rfl
        case hQz29 => exact fun _ _ _ h => h
        case hyz29 => exact Or.inl ⟨by rfl, by intro w hSw; (try dsimp only at hSw); go_simp; with_reducible rfl⟩
        try simp only [Act.put, List.setIfInBounds_toArray, List.set_cons_zero, List.set_cons_succ]
        refine wpAnyH_take (i := 2) (oi := ?oiz30) (v := ?vz30) ?hiz30 (by kernel_rfl) (by kernel_rfl) (by kernel_rfl) ?hQz30 ?hyz30 (by assumption) ?restz30
        case hiz30 => simp only [List.getElem?_toArray, List.getElem?_cons_zero, List.getElem?_cons_succ]; rfl
        case hQz30 => exact fun _ _ _ h => h
        case hyz30 => exact Or.inl ⟨by rfl, by intro w hSw; (try dsimp only at hSw); go_simp; with_reducible rfl⟩
        try simp only [Act.put, List.setIfInBounds_toArray, List.set_cons_zero, List.set_cons_succ]
        refine wpAnyH_take (i := 3) (oi := ?oiz31) (v := (.agg (tKey.enc xs[k]).toArray)) ?hiz31 (by kernel_rfl) (by kernel_rfl) (by kernel_rfl) ?hQz31 ?hyz31 (by assumption) ?restz31
        case hiz31 => simp only [List.getElem?_toArray, List.getElem?_cons_zero, List.getElem?_cons_succ]; rfl
        case hQz31 => exact fun _ _ _ h => h
        case hyz31 => refine yields_loadR g (o + k * 32) (tKey.enc xs[k]) (by rw [tKey.len _ HX0.out]; exact aggKey) HD0.out ?_ _ rfl rfl; rfl
        try simp only [Act.put, List.setIfInBounds_toArray, List.set_cons_zero, List.set_cons_succ]
        refine wpAnyH_take (i := 4) (oi := ?oiz32) (v := ?vz32) ?hiz32 (by kernel_rfl) (by kernel_rfl) (by kernel_rfl) ?hQz32 ?hyz32 (by assumption) ?restz32
        case hiz32 => simp only [List.getElem?_toArray, List.getElem?_cons_zero, List.getElem?_cons_succ]; rfl
        case hQz32 => exact fun _ _ _ h => h
        case hyz32 => exact Or.inl ⟨by rfl, by intro w hSw; (try dsimp only at hSw); go_simp; with_reducible rfl⟩
        try simp only [Act.put, List.setIfInBounds_toArray, List.set_cons_zero, List.set_cons_succ]
        refine wpAnyH_take (i := 5) (oi := ?oiz33) (v := ?vz33) ?hiz33 (by kernel_rfl) (by kernel_rfl) (by kernel_rfl) ?hQz33 ?hyz33 (by assumption) ?restz33
        case hiz33 => simp only [List.getElem?_toArray, List.getElem?_cons_zero, List.getElem?_cons_succ]; rfl
        case hQz33 => exact fun _ _ _ h => h
        case hyz33 => exact Or.inl ⟨by rfl, by intro w hSw; (try dsimp only at hSw); go_simp; with_reducible rfl⟩
        try simp only [Act.put, List.setIfInBounds_toArray, List.set_cons_zero, List.set_cons_succ]
        refine wpAnyH_take (i := 6) (oi := ?oiz34) (v := ?vz34) ?hiz34 (by kernel_rfl) (by kernel_rfl) (by kernel_rfl) ?hQz34 ?hyz34 (by assumption) ?restz34
        case hiz34 => simp only [List.getElem?_toArray, List.getElem?_cons_zero, List.getElem?_cons_succ]; rfl
        case hQz34 => exact fun _ _ _ h => h
        case hyz34 => exact Or.inl ⟨by rfl, by intro w hSw; (try dsimp only at hSw); go_simp; with_reducible rfl⟩
        try simp only [Act.put, List.setIfInBounds_toArray, List.set_cons_zero, List.set_cons_succ]
        refine wpAnyH_take (i := 7) (oi := ?oiz35) (v := (.agg (tKey.enc ys[k]).toArray)) ?hiz35 (by kernel_rfl) (by kernel_rfl) (by kernel_rfl) ?hQz35 ?hyz35 (by assumption) ?restz35
        case hiz35 => simp only [List.getElem?_toArray, List.getElem?_cons_zero, List.getElem?_cons_succ]; rfl
        case hQz35 => exact fun _ _ _ h => h
        case hyz35 => refine yields_loadR g2 (o2 + k * 32) (tKey.enc ys[k]) (by rw [tKey.len _ HX1.out]; exact aggKey) HD1.out ?_ _ rfl rfl; rfl
        try simp only [Act.put, List.setIfInBounds_toArray, List.set_cons_zero, List.set_cons_succ]
        refine wpAnyH_take (i := 8) (oi := ?oiz36) (v := ?vz36) ?hiz36 (by kernel_rfl) (by kernel_rfl) (by kernel_rfl) ?hQz36 ?hyz36 (by assumption) ?restz36
        case hiz36 => simp only [List.getElem?_toArray, List.getElem?_cons_zero, List.getElem?_cons_succ]; rfl
        case hQz36 => exact fun _ _ _ h => h
        case hyz36 => exact Or.inl ⟨by rfl, by intro w hSw; (try dsimp only at hSw); go_simp; with_reducible rfl⟩
        try simp only [Act.put, List.setIfInBounds_toArray, List.set_cons_zero, List.set_cons_succ]
        refine wpAnyH_done (by kernel_rfl) ?_ _
        have HX2 := Lib.hid (HX.out.trans hHeld)
        clear hHeld
        go_wp2
        go_ret
        exact ⟨by rw [decide_eq_false (fun h => He.out (by subst h; rfl))]; rfl, HX2.out⟩
    · go_wp2
      go_ret
      obtain rfl : k = xs.length := by omega
      refine ⟨?_, HX.out⟩
      have e := Ht.out
      rw [List.take_of_length_le (by omega), List.take_of_length_le (by rw [Hl.out]; omega)] at e
      rw [decide_eq_true e]; rfl
/-- equal commits -/
@[irreducible] def sameCm (x y : Cm) : Bool := decide (x.root = y.root) && (decide (x.par = y.par) && ((x.num == y.num) && (x.note.toList == y.note.toList)))
theorem sameCm_eq (x y : Cm) : sameCm x y = (decide (x.root = y.root) && (decide (x.par = y.par) && ((x.num == y.num) && (x.note.toList == y.note.toList)))) := by rw [sameCm]
attribute [local irreducible] Blk in
set_option maxHeartbeats 1000000 in
set_option maxRecDepth 100000 in
theorem l07Same_any (cs cs' : Array Value) (x y : Cm) (w : World) (S S' : Nat → Prop) (h : RCommit w S cs x) (h' : RCommit w S' cs' y) (b b' : Nat) (hb : Blk w b 43 cs) (hb' : Blk w b' 43 cs') :
    Calls Try.prog 62 #[.pointer (some ⟨b, 0, none⟩), .pointer (some ⟨b', 0, none⟩)] w fun e w' => e = .returned (.bool (sameCm x y)) ∧ Ext w w' := by
  obtain ⟨v, rfl, hr, hroot, hnum, hnote⟩ := h
  obtain ⟨v', rfl, hr', hroot', hnum', hnote'⟩ := h'
  obtain ⟨A, cap, rfl, _⟩ := id hr
  obtain ⟨A', cap', rfl, _⟩ := id hr'
  have H := Lib.hid hr
  have H' := Lib.hid hr'
  have HL := Lib.hid (sizeN (k := .u8) hroot.1)
  have HL' := Lib.hid (sizeN (k := .u8) hroot'.1)
  have HB := Lib.hid hb
  have HB' := Lib.hid hb'
  have HAT := Lib.hid (Cm.at_ hroot (.slice A x.par.length cap))
  have HAT' := Lib.hid (Cm.at_ hroot' (.slice A' y.par.length cap'))
  have HE := Lib.hid (sameCm_eq x y)
  have heq := run_eqKey x.root y.root hroot hroot'
  clear hr hr' hb hb' hroot hroot'
  have hls := fun W (h1 : RdL tKey W S (.slice A x.par.length cap) x.par) (h2 : RdL tKey W S' (.slice A' y.par.length cap') y.par) => l03Lists_any _ _ x.par y.par W S S' h1 h2
  have c0 : ∀ W, Ext w W → W.cell? ⟨b, 32, none⟩ = some (.slice A x.par.length cap) := fun W hW => (HB.out.ext hW).at_ 32 HAT.out.1
  have c1 : ∀ W, Ext w W → W.cell? ⟨b', 32, none⟩ = some (.slice A' y.par.length cap') := fun W hW => (HB'.out.ext hW).at_ 32 HAT'.out.1
  have c2 : ∀ W, Ext w W → W.cell? ⟨b, 33, none⟩ = some (.int .i64 x.num) := fun W hW => (HB.out.ext hW).at_ 33 HAT.out.2.1
  have c3 : ∀ W, Ext w W → W.cell? ⟨b', 33, none⟩ = some (.int .i64 y.num) := fun W hW => (HB'.out.ext hW).at_ 33 HAT'.out.2.1
  have c4 : ∀ W, Ext w W → W.cell? ⟨b, 34, none⟩ = some (.string x.note) := fun W hW => (HB.out.ext hW).at_ 34 HAT.out.2.2
  have c5 : ∀ W, Ext w W → W.cell? ⟨b', 34, none⟩ = some (.string y.note) := fun W hW => (HB'.out.ext hW).at_ 34 HAT'.out.2.2
  have R := Ext.refl w
  by_cases e1 : x.root = y.root
  rotate_left
  · have E1 := Lib.hid e1
    simp only [decide_eq_false e1] at heq
    clear e1
    go_enter Try.func62, Try.ntmps62
    go_wp2_with fail
    refine wp_region_held_drew (S := fun W => Ext w W) (by kernel_rfl) (Ext.refl _).drew (fun hHeld => ?_)
    refine wpAnyH_take (i := 0) (oi := ?oiz37) (v := ?vz37) ?hiz37 (by kernel_rfl) (by kernel_rfl) (by kernel_rfl) ?hQz37 ?hyz37 (by assumption) ?restz37
    case hiz37 => simp only [List.getElem?_toArray, List.getElem?_cons_zero, List.getElem?_cons_succ]; rfl
    case hQz37 => exact fun _ _ _ h => h
    case hyz37 => exact Or.inl ⟨by rfl, by intro w hSw; (try dsimp only at hSw); go_simp; with_reducible rfl⟩
    try simp only [Act.put, List.setIfInBounds_toArray, List.set_cons_zero, List.set_cons_succ]
    refine wpAnyH_take (i := 1) (oi := ?oiz38) (v := ?vz38) ?hiz38 (by kernel_rfl) (by kernel_rfl) (by kernel_rfl) ?hQz38 ?hyz38 (by assumption) ?restz38
    case hiz38 => simp only [List.getElem?_toArray, List.getElem?_cons_zero, List.getElem?_cons_succ]; rfl
    case hQz38 => exact fun _ _ _ h => h
    case hyz38 => exact Or.inl ⟨by rfl, by intro w hSw; (try dsimp only at hSw); go_simp; with_reducible rfl⟩
    try simp only [Act.put, List.setIfInBounds_toArray, List.set_cons_zero, List.set_cons_succ]
    refine wpAnyH_take (i := 2) (oi := ?oiz39) (v := ?vz39) ?hiz39 (by kernel_rfl) (by kernel_rfl) (by kernel_rfl) ?hQz39 ?hyz39 (by assumption) ?restz39
    case hiz39 => simp only [List.getElem?_toArray, List.getElem?_cons_zero, List.getElem?_cons_succ]; rfl
    case hQz39 => exact fun _ _ _ h => h
    case hyz39 => exact Or.inl ⟨by rfl, by intro w hSw; (try dsimp only at hSw); go_simp; with_reducible rfl⟩
    try simp only [Act.put, List.setIfInBounds_toArray, List.set_cons_zero, List.set_cons_succ]
    refine wpAnyH_take (i := 3) (oi := ?oiz40) (v := (.agg (numsA .u8 x.root))) ?hiz40 (by kernel_rfl) (by kernel_rfl) (by kernel_rfl) ?hQz40 ?hyz40 (by assumption) ?restz40
    case hiz40 => simp only [List.getElem?_toArray, List.getElem?_cons_zero, List.getElem?_cons_succ]; rfl
    case hQz40 => exact fun _ _ _ h => h
    case hyz40 => refine yields_loadP HB.out aggKey HL.out (Cm.root_at _) ?_ _ rfl rfl; rfl
    try simp only [Act.put, List.setIfInBounds_toArray, List.set_cons_zero, List.set_cons_succ]
    refine wpAnyH_take (i := 4) (oi := ?oiz41) (v := ?vz41) ?hiz41 (by kernel_rfl) (by kernel_rfl) (by kernel_rfl) ?hQz41 ?hyz41 (by assumption) ?restz41
    case hiz41 => simp only [List.getElem?_toArray, List.getElem?_cons_zero, List.getElem?_cons_succ]; rfl
    case hQz41 => exact fun _ _ _ h => h
    case hyz41 => exact Or.inl ⟨by rfl, by intro w hSw; (try dsimp only at hSw); go_simp; with_reducible rfl⟩
    try simp only [Act.put, List.setIfInBounds_toArray, List.set_cons_zero, List.set_cons_succ]
    refine wpAnyH_take (i := 5) (oi := ?oiz42) (v := ?vz42) ?hiz42 (by kernel_rfl) (by kernel_rfl) (by kernel_rfl) ?hQz42 ?hyz42 (by assumption) ?restz42
    case hiz42 => simp only [List.getElem?_toArray, List.getElem?_cons_zero, List.getElem?_cons_succ]; rfl
    case hQz42 => exact fun _ _ _ h => h
    case hyz42 => exact Or.inl ⟨by rfl, by intro w hSw; (try dsimp only at hSw); go_simp; with_reducible rfl⟩
    try simp only [Act.put, List.setIfInBounds_toArray, List.set_cons_zero, List.set_cons_succ]
    refine wpAnyH_take (i := 6) (oi := ?oiz43) (v := ?vz43) ?hiz43 (by kernel_rfl) (by kernel_rfl) (by kernel_rfl) ?hQz43 ?hyz43 (by assumption) ?restz43
    case hiz43 => simp only [List.getElem?_toArray, List.getElem?_cons_zero, List.getElem?_cons_succ]; rfl
    case hQz43 => exact fun _ _ _ h => h
    case hyz43 => exact Or.inl ⟨by rfl, by intro w hSw; (try dsimp only at hSw); go_simp; with_reducible rfl⟩
    try simp only [Act.put, List.setIfInBounds_toArray, List.set_cons_zero, List.set_cons_succ]
    refine wpAnyH_take (i := 7) (oi := ?oiz44) (v := (.agg (numsA .u8 y.root))) ?hiz44 (by kernel_rfl) (by kernel_rfl) (by kernel_rfl) ?hQz44 ?hyz44 (by assumption) ?restz44
    case hiz44 => simp only [List.getElem?_toArray, List.getElem?_cons_zero, List.getElem?_cons_succ]; rfl
    case hQz44 => exact fun _ _ _ h => h
    case hyz44 => refine yields_loadP HB'.out aggKey HL'.out (Cm.root_at _) ?_ _ rfl rfl; rfl
    try simp only [Act.put, List.setIfInBounds_toArray, List.set_cons_zero, List.set_cons_succ]
    refine wpAnyH_take (i := 8) (oi := ?oiz45) (v := ?vz45) ?hiz45 (by kernel_rfl) (by kernel_rfl) (by kernel_rfl) ?hQz45 ?hyz45 (by assumption) ?restz45
    case hiz45 => simp only [List.getElem?_toArray, List.getElem?_cons_zero, List.getElem?_cons_succ]; rfl
    case hQz45 => exact fun _ _ _ h => h
    case hyz45 => exact Or.inl ⟨by rfl, by intro w hSw; (try dsimp only at hSw); go_simp; with_reducible rfl⟩
    try simp only [Act.put, List.setIfInBounds_toArray, List.set_cons_zero, List.set_cons_succ]
    refine wpAnyH_take (i := 9) (oi := ?oiz46) (v := ?vz46) ?hiz46 (by kernel_rfl) (by kernel_rfl) (by kernel_rfl) ?hQz46 ?hyz46 (by assumption) ?restz46
    case hiz46 => simp only [List.getElem?_toArray, List.getElem?_cons_zero, List.getElem?_cons_succ]; rfl
    case hQz46 => exact fun _ _ _ h => h
    case hyz46 => exact Or.inl ⟨by rfl, by intro w hSw; (try dsimp only at hSw); go_simp; with_reducible rfl⟩
    try simp only [Act.put, List.setIfInBounds_toArray, List.set_cons_zero, List.set_cons_succ]
    refine wpAnyH_take (i := 10) (oi := ?oiz47) (v := undef) ?hiz47 (by kernel_rfl) (by kernel_rfl) (by kernel_rfl) ?hQz47 ?hyz47 (by assumption) ?restz47
    case hiz47 => simp only [List.getElem?_toArray, List.getElem?_cons_zero, List.getElem?_cons_succ]; rfl
    case hQz47 => exact fun _ _ _ h => h
    case hyz47 => exact Or.inr ⟨by rfl, rfl⟩
    try simp only [Act.put, List.setIfInBounds_toArray, List.set_cons_zero, List.set_cons_succ]
    refine wpAnyH_take (i := 11) (oi := ?oiz48) (v := undef) ?hiz48 (by kernel_rfl) (by kernel_rfl) (by kernel_rfl) ?hQz48 ?hyz48 (by assumption) ?restz48
    case hiz48 => simp only [List.getElem?_toArray, List.getElem?_cons_zero, List.getElem?_cons_succ]; rfl
    case hQz48 => exact fun _ _ _ h => h
    case hyz48 => exact Or.inr ⟨by rfl, rfl⟩
    try simp only [Act.put, List.setIfInBounds_toArray, List.set_cons_zero, List.set_cons_succ]
    refine wpAnyH_take (i := 12) (oi := ?oiz49) (v := undef) ?hiz49 (by kernel_rfl) (by kernel_rfl) (by kernel_rfl) ?hQz49 ?hyz49 (by assumption) ?restz49
    case hiz49 => simp only [List.getElem?_toArray, List.getElem?_cons_zero, List.getElem?_cons_succ]; rfl
    case hQz49 => exact fun _ _ _ h => h
    case hyz49 => exact Or.inr ⟨by rfl, rfl⟩
    try simp only [Act.put, List.setIfInBounds_toArray, List.set_cons_zero, List.set_cons_succ]
    refine wpAnyH_take (i := 13) (oi := ?oiz50) (v := undef) ?hiz50 (by kernel_rfl) (by kernel_rfl) (by kernel_rfl) ?hQz50 ?hyz50 (by assumption) ?restz50
    case hiz50 => simp only [List.getElem?_toArray, List.getElem?_cons_zero, List.getElem?_cons_succ]; rfl
    case hQz50 => exact fun _ _ _ h => h
    case hyz50 => exact Or.inr ⟨by rfl, rfl⟩
    try simp only [Act.put, List.setIfInBounds_toArray, List.set_cons_zero, List.set_cons_succ]
    refine wpAnyH_take (i := 14) (oi := ?oiz51) (v := undef) ?hiz51 (by kernel_rfl) (by kernel_rfl) (by kernel_rfl) ?hQz51 ?hyz51 (by assumption) ?restz51
    case hiz51 => simp only [List.getElem?_toArray, List.getElem?_cons_zero, List.getElem?_cons_succ]; rfl
    case hQz51 => exact fun _ _ _ h => h
    case hyz51 => exact Or.inr ⟨by rfl, rfl⟩
    try simp only [Act.put, List.setIfInBounds_toArray, List.set_cons_zero, List.set_cons_succ]
    refine wpAnyH_take (i := 15) (oi := ?oiz52) (v := undef) ?hiz52 (by kernel_rfl) (by kernel_rfl) (by kernel_rfl) ?hQz52 ?hyz52 (by assumption) ?restz52
    case hiz52 => simp only [List.getElem?_toArray, List.getElem?_cons_zero, List.getElem?_cons_succ]; rfl
    case hQz52 => exact fun _ _ _ h => h
    case hyz52 => exact Or.inr ⟨by rfl, rfl⟩
    try simp only [Act.put, List.setIfInBounds_toArray, List.set_cons_zero, List.set_cons_succ]
    refine wpAnyH_take (i := 16) (oi := ?oiz53) (v := undef) ?hiz53 (by kernel_rfl) (by kernel_rfl) (by kernel_rfl) ?hQz53 ?hyz53 (by assumption) ?restz53
    case hiz53 => simp only [List.getElem?_toArray, List.getElem?_cons_zero, List.getElem?_cons_succ]; rfl
    case hQz53 => exact fun _ _ _ h => h
    case hyz53 => exact Or.inr ⟨by rfl, rfl⟩
    try simp only [Act.put, List.setIfInBounds_toArray, List.set_cons_zero, List.set_cons_succ]
    refine wpAnyH_take (i := 17) (oi := ?oiz54) (v := undef) ?hiz54 (by kernel_rfl) (by kernel_rfl) (by kernel_rfl) ?hQz54 ?hyz54 (by assumption) ?restz54
    case hiz54 => simp only [List.getElem?_toArray, List.getElem?_cons_zero, List.getElem?_cons_succ]; rfl
    case hQz54 => exact fun _ _ _ h => h
    case hyz54 => exact Or.inr ⟨by rfl, rfl⟩
    try simp only [Act.put, List.setIfInBounds_toArray, List.set_cons_zero, List.set_cons_succ]
    refine wpAnyH_take (i := 18) (oi := ?oiz55) (v := undef) ?hiz55 (by kernel_rfl) (by kernel_rfl) (by kernel_rfl) ?hQz55 ?hyz55 (by assumption) ?restz55
    case hiz55 => simp only [List.getElem?_toArray, List.getElem?_cons_zero, List.getElem?_cons_succ]; rfl
    case hQz55 => exact fun _ _ _ h => h
    case hyz55 => exact Or.inr ⟨by rfl, rfl⟩
    try simp only [Act.put, List.setIfInBounds_toArray, List.set_cons_zero, List.set_cons_succ]
    refine wpAnyH_take (i := 19) (oi := ?oiz56) (v := ?vz56) ?hiz56 (by kernel_rfl) (by kernel_rfl) (by kernel_rfl) ?hQz56 ?hyz56 (by assumption) ?restz56
    case hiz56 => simp only [List.getElem?_toArray, List.getElem?_cons_zero, List.getElem?_cons_succ]; rfl
    case hQz56 => exact fun _ _ _ h => h
    case hyz56 => exact Or.inl ⟨by rfl, by intro w hSw; (try dsimp only at hSw); go_simp; with_reducible rfl⟩
    try simp only [Act.put, List.setIfInBounds_toArray, List.set_cons_zero, List.set_cons_succ]
    refine wpAnyH_take (i := 20) (oi := ?oiz57) (v := ?vz57) ?hiz57 (by kernel_rfl) (by kernel_rfl) (by kernel_rfl) ?hQz57 ?hyz57 (by assumption) ?restz57
    case hiz57 => simp only [List.getElem?_toArray, List.getElem?_cons_zero, List.getElem?_cons_succ]; rfl
    case hQz57 => exact fun _ _ _ h => h
    case hyz57 => exact Or.inl ⟨by rfl, by intro w hSw; (try dsimp only at hSw); go_simp; with_reducible rfl⟩
    try simp only [Act.put, List.setIfInBounds_toArray, List.set_cons_zero, List.set_cons_succ]
    refine wpAnyH_take (i := 21) (oi := ?oiz58) (v := undef) ?hiz58 (by kernel_rfl) (by kernel_rfl) (by kernel_rfl) ?hQz58 ?hyz58 (by assumption) ?restz58
    case hiz58 => simp only [List.getElem?_toArray, List.getElem?_cons_zero, List.getElem?_cons_succ]; rfl
    case hQz58 => exact fun _ _ _ h => h
    case hyz58 => exact Or.inr ⟨by rfl, rfl⟩
    try simp only [Act.put, List.setIfInBounds_toArray, List.set_cons_zero, List.set_cons_succ]
    refine wpAnyH_take (i := 22) (oi := ?oiz59) (v := undef) ?hiz59 (by kernel_rfl) (by kernel_rfl) (by kernel_rfl) ?hQz59 ?hyz59 (by assumption) ?restz59
    case hiz59 => simp only [List.getElem?_toArray, List.getElem?_cons_zero, List.getElem?_cons_succ]; rfl
    case hQz59 => exact fun _ _ _ h => h
    case hyz59 => exact Or.inr ⟨by rfl, rfl⟩
    try simp only [Act.put, List.setIfInBounds_toArray, List.set_cons_zero, List.set_cons_succ]
    refine wpAnyH_take (i := 23) (oi := ?oiz60) (v := undef) ?hiz60 (by kernel_rfl) (by kernel_rfl) (by kernel_rfl) ?hQz60 ?hyz60 (by assumption) ?restz60
    case hiz60 => simp only [List.getElem?_toArray, List.getElem?_cons_zero, List.getElem?_cons_succ]; rfl
    case hQz60 => exact fun _ _ _ h => h
    case hyz60 => exact Or.inr ⟨by rfl, rfl⟩
    try simp only [Act.put, List.setIfInBounds_toArray, List.set_cons_zero, List.set_cons_succ]
    refine wpAnyH_take (i := 24) (oi := ?oiz61) (v := undef) ?hiz61 (by kernel_rfl) (by kernel_rfl) (by kernel_rfl) ?hQz61 ?hyz61 (by assumption) ?restz61
    case hiz61 => simp only [List.getElem?_toArray, List.getElem?_cons_zero, List.getElem?_cons_succ]; rfl
    case hQz61 => exact fun _ _ _ h => h
    case hyz61 => exact Or.inr ⟨by rfl, rfl⟩
    try simp only [Act.put, List.setIfInBounds_toArray, List.set_cons_zero, List.set_cons_succ]
    refine wpAnyH_take (i := 25) (oi := ?oiz62) (v := undef) ?hiz62 (by kernel_rfl) (by kernel_rfl) (by kernel_rfl) ?hQz62 ?hyz62 (by assumption) ?restz62
    case hiz62 => simp only [List.getElem?_toArray, List.getElem?_cons_zero, List.getElem?_cons_succ]; rfl
    case hQz62 => exact fun _ _ _ h => h
    case hyz62 => exact Or.inr ⟨by rfl, rfl⟩
    try simp only [Act.put, List.setIfInBounds_toArray, List.set_cons_zero, List.set_cons_succ]
    refine wpAnyH_take (i := 26) (oi := ?oiz63) (v := undef) ?hiz63 (by kernel_rfl) (by kernel_rfl) (by kernel_rfl) ?hQz63 ?hyz63 (by assumption) ?restz63
    case hiz63 => simp only [List.getElem?_toArray, List.getElem?_cons_zero, List.getElem?_cons_succ]; rfl
    case hQz63 => exact fun _ _ _ h => h
    case hyz63 => exact Or.inr ⟨by rfl, rfl⟩
    try simp only [Act.put, List.setIfInBounds_toArray, List.set_cons_zero, List.set_cons_succ]
    refine wpAnyH_take (i := 27) (oi := ?oiz64) (v := undef) ?hiz64 (by kernel_rfl) (by kernel_rfl) (by kernel_rfl) ?hQz64 ?hyz64 (by assumption) ?restz64
    case hiz64 => simp only [List.getElem?_toArray, List.getElem?_cons_zero, List.getElem?_cons_succ]; rfl
    case hQz64 => exact fun _ _ _ h => h
    case hyz64 => exact Or.inr ⟨by rfl, rfl⟩
    try simp only [Act.put, List.setIfInBounds_toArray, List.set_cons_zero, List.set_cons_succ]
    refine wpAnyH_take (i := 28) (oi := ?oiz65) (v := undef) ?hiz65 (by kernel_rfl) (by kernel_rfl) (by kernel_rfl) ?hQz65 ?hyz65 (by assumption) ?restz65
    case hiz65 => simp only [List.getElem?_toArray, List.getElem?_cons_zero, List.getElem?_cons_succ]; rfl
    case hQz65 => exact fun _ _ _ h => h
    case hyz65 => exact Or.inr ⟨by rfl, rfl⟩
    try simp only [Act.put, List.setIfInBounds_toArray, List.set_cons_zero, List.set_cons_succ]
    refine wpAnyH_take (i := 29) (oi := ?oiz66) (v := undef) ?hiz66 (by kernel_rfl) (by kernel_rfl) (by kernel_rfl) ?hQz66 ?hyz66 (by assumption) ?restz66
    case hiz66 => simp only [List.getElem?_toArray, List.getElem?_cons_zero, List.getElem?_cons_succ]; rfl
    case hQz66 => exact fun _ _ _ h => h
    case hyz66 => exact Or.inr ⟨by rfl, rfl⟩
    try simp only [Act.put, List.setIfInBounds_toArray, List.set_cons_zero, List.set_cons_succ]
    refine wpAnyH_take (i := 30) (oi := ?oiz67) (v := ?vz67) ?hiz67 (by kernel_rfl) (by kernel_rfl) (by kernel_rfl) ?hQz67 ?hyz67 (by assumption) ?restz67
    case hiz67 => simp only [List.getElem?_toArray, List.getElem?_cons_zero, List.getElem?_cons_succ]; rfl
    case hQz67 => exact fun _ _ _ h => h
    case hyz67 => exact Or.inl ⟨by rfl, by intro w hSw; (try dsimp only at hSw); go_simp; with_reducible rfl⟩
    try simp only [Act.put, List.setIfInBounds_toArray, List.set_cons_zero, List.set_cons_succ]
    refine wpAnyH_take (i := 31) (oi := ?oiz68) (v := ?vz68) ?hiz68 (by kernel_rfl) (by kernel_rfl) (by kernel_rfl) ?hQz68 ?hyz68 (by assumption) ?restz68
    case hiz68 => simp only [List.getElem?_toArray, List.getElem?_cons_zero, List.getElem?_cons_succ]; rfl
    case hQz68 => exact fun _ _ _ h => h
    case hyz68 => exact Or.inl ⟨by rfl, by intro w hSw; (try dsimp only at hSw); go_simp; with_reducible rfl⟩
    try simp only [Act.put, List.setIfInBounds_toArray, List.set_cons_zero, List.set_cons_succ]
    refine wpAnyH_take (i := 32) (oi := ?oiz69) (v := undef) ?hiz69 (by kernel_rfl) (by kernel_rfl) (by kernel_rfl) ?hQz69 ?hyz69 (by assumption) ?restz69
    case hiz69 => simp only [List.getElem?_toArray, List.getElem?_cons_zero, List.getElem?_cons_succ]; rfl
    case hQz69 => exact fun _ _ _ h => h
    case hyz69 => exact Or.inr ⟨by rfl, rfl⟩
    try simp only [Act.put, List.setIfInBounds_toArray, List.set_cons_zero, List.set_cons_succ]
    refine wpAnyH_take (i := 33) (oi := ?oiz70) (v := undef) ?hiz70 (by kernel_rfl) (by kernel_rfl) (by kernel_rfl) ?hQz70 ?hyz70 (by assumption) ?restz70
    case hiz70 => simp only [List.getElem?_toArray, List.getElem?_cons_zero, List.getElem?_cons_succ]; rfl
    case hQz70 => exact fun _ _ _ h => h
    case hyz70 => exact Or.inr ⟨by rfl, rfl⟩
    try simp only [Act.put, List.setIfInBounds_toArray, List.set_cons_zero, List.set_cons_succ]
    refine wpAnyH_take (i := 34) (oi := ?oiz71) (v := undef) ?hiz71 (by kernel_rfl) (by kernel_rfl) (by kernel_rfl) ?hQz71 ?hyz71 (by assumption) ?restz71
    case hiz71 => simp only [List.getElem?_toArray, List.getElem?_cons_zero, List.getElem?_cons_succ]; rfl
    case hQz71 => exact fun _ _ _ h => h
    case hyz71 => exact Or.inr ⟨by rfl, rfl⟩
    try simp only [Act.put, List.setIfInBounds_toArray, List.set_cons_zero, List.set_cons_succ]
    refine wpAnyH_take (i := 35) (oi := ?oiz72) (v := undef) ?hiz72 (by kernel_rfl) (by kernel_rfl) (by kernel_rfl) ?hQz72 ?hyz72 (by assumption) ?restz72
    case hiz72 => simp only [List.getElem?_toArray, List.getElem?_cons_zero, List.getElem?_cons_succ]; rfl
    case hQz72 => exact fun _ _ _ h => h
    case hyz72 => exact Or.inr ⟨by rfl, rfl⟩
    try simp only [Act.put, List.setIfInBounds_toArray, List.set_cons_zero, List.set_cons_succ]
    refine wpAnyH_take (i := 36) (oi := ?oiz73) (v := undef) ?hiz73 (by kernel_rfl) (by kernel_rfl) (by kernel_rfl) ?hQz73 ?hyz73 (by assumption) ?restz73
    case hiz73 => simp only [List.getElem?_toArray, List.getElem?_cons_zero, List.getElem?_cons_succ]; rfl
    case hQz73 => exact fun _ _ _ h => h
    case hyz73 => exact Or.inr ⟨by rfl, rfl⟩
    try simp only [Act.put, List.setIfInBounds_toArray, List.set_cons_zero, List.set_cons_succ]
    refine wpAnyH_take (i := 37) (oi := ?oiz74) (v := undef) ?hiz74 (by kernel_rfl) (by kernel_rfl) (by kernel_rfl) ?hQz74 ?hyz74 (by assumption) ?restz74
    case hiz74 => simp only [List.getElem?_toArray, List.getElem?_cons_zero, List.getElem?_cons_succ]; rfl
    case hQz74 => exact fun _ _ _ h => h
    case hyz74 => exact Or.inr ⟨by rfl, rfl⟩
    try simp only [Act.put, List.setIfInBounds_toArray, List.set_cons_zero, List.set_cons_succ]
    refine wpAnyH_take (i := 38) (oi := ?oiz75) (v := undef) ?hiz75 (by kernel_rfl) (by kernel_rfl) (by kernel_rfl) ?hQz75 ?hyz75 (by assumption) ?restz75
    case hiz75 => simp only [List.getElem?_toArray, List.getElem?_cons_zero, List.getElem?_cons_succ]; rfl
    case hQz75 => exact fun _ _ _ h => h
    case hyz75 => exact Or.inr ⟨by rfl, rfl⟩
    try simp only [Act.put, List.setIfInBounds_toArray, List.set_cons_zero, List.set_cons_succ]
    refine wpAnyH_take (i := 39) (oi := ?oiz76) (v := undef) ?hiz76 (by kernel_rfl) (by kernel_rfl) (by kernel_rfl) ?hQz76 ?hyz76 (by assumption) ?restz76
    case hiz76 => simp only [List.getElem?_toArray, List.getElem?_cons_zero, List.getElem?_cons_succ]; rfl
    case hQz76 => exact fun _ _ _ h => h
    case hyz76 => exact Or.inr ⟨by rfl, rfl⟩
    try simp only [Act.put, List.setIfInBounds_toArray, List.set_cons_zero, List.set_cons_succ]
    refine wpAnyH_take (i := 40) (oi := ?oiz77) (v := undef) ?hiz77 (by kernel_rfl) (by kernel_rfl) (by kernel_rfl) ?hQz77 ?hyz77 (by assumption) ?restz77
    case hiz77 => simp only [List.getElem?_toArray, List.getElem?_cons_zero, List.getElem?_cons_succ]; rfl
    case hQz77 => exact fun _ _ _ h => h
    case hyz77 => exact Or.inr ⟨by rfl, rfl⟩
    try simp only [Act.put, List.setIfInBounds_toArray, List.set_cons_zero, List.set_cons_succ]
    refine wpAnyH_take (i := 41) (oi := ?oiz78) (v := ?vz78) ?hiz78 (by kernel_rfl) (by kernel_rfl) (by kernel_rfl) ?hQz78 ?hyz78 (by assumption) ?restz78
    case hiz78 => simp only [List.getElem?_toArray, List.getElem?_cons_zero, List.getElem?_cons_succ]; rfl
    case hQz78 => exact fun _ _ _ h => h
    case hyz78 => exact Or.inl ⟨by rfl, by intro w hSw; (try dsimp only at hSw); go_simp; with_reducible rfl⟩
    try simp only [Act.put, List.setIfInBounds_toArray, List.set_cons_zero, List.set_cons_succ]
    refine wpAnyH_take (i := 42) (oi := ?oiz79) (v := ?vz79) ?hiz79 (by kernel_rfl) (by kernel_rfl) (by kernel_rfl) ?hQz79 ?hyz79 (by assumption) ?restz79
    case hiz79 => simp only [List.getElem?_toArray, List.getElem?_cons_zero, List.getElem?_cons_succ]; rfl
    case hQz79 => exact fun _ _ _ h => h
    case hyz79 => exact Or.inl ⟨by rfl, by intro w hSw; (try dsimp only at hSw); go_simp; with_reducible rfl⟩
    try simp only [Act.put, List.setIfInBounds_toArray, List.set_cons_zero, List.set_cons_succ]
    refine wpAnyH_done (by kernel_rfl) ?_ _
    have XW := Lib.hid hHeld
    clear hHeld
    go_wp2
    go_ret
    exact ⟨by rw [HE.out, decide_eq_false E1.out]; rfl, XW.out⟩
  have E1 := Lib.hid e1
  simp only [decide_eq_true e1] at heq
  clear e1
  by_cases e2 : x.par = y.par
  rotate_left
  · have E2 := Lib.hid e2
    simp only [decide_eq_false e2] at hls
    clear e2
    go_enter Try.func62, Try.ntmps62
    go_wp2_with fail
    refine wp_region_held_drew (S := fun W => Ext w W) (by kernel_rfl) (Ext.refl _).drew (fun hHeld => ?_)
    refine wpAnyH_take (i := 0) (oi := ?oiz80) (v := ?vz80) ?hiz80 (by kernel_rfl) (by kernel_rfl) (by kernel_rfl) ?hQz80 ?hyz80 (by assumption) ?restz80
    case hiz80 => simp only [List.getElem?_toArray, List.getElem?_cons_zero, List.getElem?_cons_succ]; rfl
    case hQz80 => exact fun _ _ _ h => h
    case hyz80 => exact Or.inl ⟨by rfl, by intro w hSw; (try dsimp only at hSw); go_simp; with_reducible rfl⟩
    try simp only [Act.put, List.setIfInBounds_toArray, List.set_cons_zero, List.set_cons_succ]
    refine wpAnyH_take (i := 1) (oi := ?oiz81) (v := ?vz81) ?hiz81 (by kernel_rfl) (by kernel_rfl) (by kernel_rfl) ?hQz81 ?hyz81 (by assumption) ?restz81
    case hiz81 => simp only [List.getElem?_toArray, List.getElem?_cons_zero, List.getElem?_cons_succ]; rfl
    case hQz81 => exact fun _ _ _ h => h
    case hyz81 => exact Or.inl ⟨by rfl, by intro w hSw; (try dsimp only at hSw); go_simp; with_reducible rfl⟩
    try simp only [Act.put, List.setIfInBounds_toArray, List.set_cons_zero, List.set_cons_succ]
    refine wpAnyH_take (i := 2) (oi := ?oiz82) (v := ?vz82) ?hiz82 (by kernel_rfl) (by kernel_rfl) (by kernel_rfl) ?hQz82 ?hyz82 (by assumption) ?restz82
    case hiz82 => simp only [List.getElem?_toArray, List.getElem?_cons_zero, List.getElem?_cons_succ]; rfl
    case hQz82 => exact fun _ _ _ h => h
    case hyz82 => exact Or.inl ⟨by rfl, by intro w hSw; (try dsimp only at hSw); go_simp; with_reducible rfl⟩
    try simp only [Act.put, List.setIfInBounds_toArray, List.set_cons_zero, List.set_cons_succ]
    refine wpAnyH_take (i := 3) (oi := ?oiz83) (v := (.agg (numsA .u8 x.root))) ?hiz83 (by kernel_rfl) (by kernel_rfl) (by kernel_rfl) ?hQz83 ?hyz83 (by assumption) ?restz83
    case hiz83 => simp only [List.getElem?_toArray, List.getElem?_cons_zero, List.getElem?_cons_succ]; rfl
    case hQz83 => exact fun _ _ _ h => h
    case hyz83 => refine yields_loadP HB.out aggKey HL.out (Cm.root_at _) ?_ _ rfl rfl; rfl
    try simp only [Act.put, List.setIfInBounds_toArray, List.set_cons_zero, List.set_cons_succ]
    refine wpAnyH_take (i := 4) (oi := ?oiz84) (v := ?vz84) ?hiz84 (by kernel_rfl) (by kernel_rfl) (by kernel_rfl) ?hQz84 ?hyz84 (by assumption) ?restz84
    case hiz84 => simp only [List.getElem?_toArray, List.getElem?_cons_zero, List.getElem?_cons_succ]; rfl
    case hQz84 => exact fun _ _ _ h => h
    case hyz84 => exact Or.inl ⟨by rfl, by intro w hSw; (try dsimp only at hSw); go_simp; with_reducible rfl⟩
    try simp only [Act.put, List.setIfInBounds_toArray, List.set_cons_zero, List.set_cons_succ]
    refine wpAnyH_take (i := 5) (oi := ?oiz85) (v := ?vz85) ?hiz85 (by kernel_rfl) (by kernel_rfl) (by kernel_rfl) ?hQz85 ?hyz85 (by assumption) ?restz85
    case hiz85 => simp only [List.getElem?_toArray, List.getElem?_cons_zero, List.getElem?_cons_succ]; rfl
    case hQz85 => exact fun _ _ _ h => h
    case hyz85 => exact Or.inl ⟨by rfl, by intro w hSw; (try dsimp only at hSw); go_simp; with_reducible rfl⟩
    try simp only [Act.put, List.setIfInBounds_toArray, List.set_cons_zero, List.set_cons_succ]
    refine wpAnyH_take (i := 6) (oi := ?oiz86) (v := ?vz86) ?hiz86 (by kernel_rfl) (by kernel_rfl) (by kernel_rfl) ?hQz86 ?hyz86 (by assumption) ?restz86
    case hiz86 => simp only [List.getElem?_toArray, List.getElem?_cons_zero, List.getElem?_cons_succ]; rfl
    case hQz86 => exact fun _ _ _ h => h
    case hyz86 => exact Or.inl ⟨by rfl, by intro w hSw; (try dsimp only at hSw); go_simp; with_reducible rfl⟩
    try simp only [Act.put, List.setIfInBounds_toArray, List.set_cons_zero, List.set_cons_succ]
    refine wpAnyH_take (i := 7) (oi := ?oiz87) (v := (.agg (numsA .u8 y.root))) ?hiz87 (by kernel_rfl) (by kernel_rfl) (by kernel_rfl) ?hQz87 ?hyz87 (by assumption) ?restz87
    case hiz87 => simp only [List.getElem?_toArray, List.getElem?_cons_zero, List.getElem?_cons_succ]; rfl
    case hQz87 => exact fun _ _ _ h => h
    case hyz87 => refine yields_loadP HB'.out aggKey HL'.out (Cm.root_at _) ?_ _ rfl rfl; rfl
    try simp only [Act.put, List.setIfInBounds_toArray, List.set_cons_zero, List.set_cons_succ]
    refine wpAnyH_take (i := 8) (oi := ?oiz88) (v := ?vz88) ?hiz88 (by kernel_rfl) (by kernel_rfl) (by kernel_rfl) ?hQz88 ?hyz88 (by assumption) ?restz88
    case hiz88 => simp only [List.getElem?_toArray, List.getElem?_cons_zero, List.getElem?_cons_succ]; rfl
    case hQz88 => exact fun _ _ _ h => h
    case hyz88 => exact Or.inl ⟨by rfl, by intro w hSw; (try dsimp only at hSw); go_simp; with_reducible rfl⟩
    try simp only [Act.put, List.setIfInBounds_toArray, List.set_cons_zero, List.set_cons_succ]
    refine wpAnyH_take (i := 9) (oi := ?oiz89) (v := ?vz89) ?hiz89 (by kernel_rfl) (by kernel_rfl) (by kernel_rfl) ?hQz89 ?hyz89 (by assumption) ?restz89
    case hiz89 => simp only [List.getElem?_toArray, List.getElem?_cons_zero, List.getElem?_cons_succ]; rfl
    case hQz89 => exact fun _ _ _ h => h
    case hyz89 => exact Or.inl ⟨by rfl, by intro w hSw; (try dsimp only at hSw); go_simp; with_reducible rfl⟩
    try simp only [Act.put, List.setIfInBounds_toArray, List.set_cons_zero, List.set_cons_succ]
    refine wpAnyH_take (i := 10) (oi := ?oiz90) (v := ?vz90) ?hiz90 (by kernel_rfl) (by kernel_rfl) (by kernel_rfl) ?hQz90 ?hyz90 (by assumption) ?restz90
    case hiz90 => simp only [List.getElem?_toArray, List.getElem?_cons_zero, List.getElem?_cons_succ]; rfl
    case hQz90 => exact fun _ _ _ h => h
    case hyz90 => exact Or.inl ⟨by rfl, by intro w hSw; (try dsimp only at hSw); go_simp; with_reducible rfl⟩
    try simp only [Act.put, List.setIfInBounds_toArray, List.set_cons_zero, List.set_cons_succ]
    refine wpAnyH_take (i := 11) (oi := ?oiz91) (v := ?vz91) ?hiz91 (by kernel_rfl) (by kernel_rfl) (by kernel_rfl) ?hQz91 ?hyz91 (by assumption) ?restz91
    case hiz91 => simp only [List.getElem?_toArray, List.getElem?_cons_zero, List.getElem?_cons_succ]; rfl
    case hQz91 => exact fun _ _ _ h => h
    case hyz91 => exact Or.inl ⟨by rfl, by intro w hSw; (try dsimp only at hSw); go_simp; with_reducible rfl⟩
    try simp only [Act.put, List.setIfInBounds_toArray, List.set_cons_zero, List.set_cons_succ]
    refine wpAnyH_take (i := 12) (oi := ?oiz92) (v := ?vz92) ?hiz92 (by kernel_rfl) (by kernel_rfl) (by kernel_rfl) ?hQz92 ?hyz92 (by assumption) ?restz92
    case hiz92 => simp only [List.getElem?_toArray, List.getElem?_cons_zero, List.getElem?_cons_succ]; rfl
    case hQz92 => exact fun _ _ _ h => h
    case hyz92 => exact Or.inl ⟨by rfl, by intro w hSw; (try dsimp only at hSw); go_simp; with_reducible rfl⟩
    try simp only [Act.put, List.setIfInBounds_toArray, List.set_cons_zero, List.set_cons_succ]
    refine wpAnyH_take (i := 13) (oi := ?oiz93) (v := ?vz93) ?hiz93 (by kernel_rfl) (by kernel_rfl) (by kernel_rfl) ?hQz93 ?hyz93 (by assumption) ?restz93
    case hiz93 => simp only [List.getElem?_toArray, List.getElem?_cons_zero, List.getElem?_cons_succ]; rfl
    case hQz93 => exact fun _ _ _ h => h
    case hyz93 => exact Or.inl ⟨by rfl, by intro w hSw; (try dsimp only at hSw); go_simp; with_reducible rfl⟩
    try simp only [Act.put, List.setIfInBounds_toArray, List.set_cons_zero, List.set_cons_succ]
    refine wpAnyH_take (i := 14) (oi := ?oiz94) (v := ?vz94) ?hiz94 (by kernel_rfl) (by kernel_rfl) (by kernel_rfl) ?hQz94 ?hyz94 (by assumption) ?restz94
    case hiz94 => simp only [List.getElem?_toArray, List.getElem?_cons_zero, List.getElem?_cons_succ]; rfl
    case hQz94 => exact fun _ _ _ h => h
    case hyz94 => exact Or.inl ⟨by rfl, by intro w hSw; (try dsimp only at hSw); go_simp; with_reducible rfl⟩
    try simp only [Act.put, List.setIfInBounds_toArray, List.set_cons_zero, List.set_cons_succ]
    refine wpAnyH_take (i := 15) (oi := ?oiz95) (v := ?vz95) ?hiz95 (by kernel_rfl) (by kernel_rfl) (by kernel_rfl) ?hQz95 ?hyz95 (by assumption) ?restz95
    case hiz95 => simp only [List.getElem?_toArray, List.getElem?_cons_zero, List.getElem?_cons_succ]; rfl
    case hQz95 => exact fun _ _ _ h => h
    case hyz95 => exact Or.inl ⟨by rfl, by intro w hSw; (try dsimp only at hSw); go_simp; with_reducible rfl⟩
    try simp only [Act.put, List.setIfInBounds_toArray, List.set_cons_zero, List.set_cons_succ]
    refine wpAnyH_take (i := 16) (oi := ?oiz96) (v := ?vz96) ?hiz96 (by kernel_rfl) (by kernel_rfl) (by kernel_rfl) ?hQz96 ?hyz96 (by assumption) ?restz96
    case hiz96 => simp only [List.getElem?_toArray, List.getElem?_cons_zero, List.getElem?_cons_succ]; rfl
    case hQz96 => exact fun _ _ _ h => h
    case hyz96 => exact Or.inl ⟨by rfl, by intro w hSw; (try dsimp only at hSw); go_simp; with_reducible rfl⟩
    try simp only [Act.put, List.setIfInBounds_toArray, List.set_cons_zero, List.set_cons_succ]
    refine wpAnyH_take (i := 17) (oi := ?oiz97) (v := ?vz97) ?hiz97 (by kernel_rfl) (by kernel_rfl) (by kernel_rfl) ?hQz97 ?hyz97 (by assumption) ?restz97
    case hiz97 => simp only [List.getElem?_toArray, List.getElem?_cons_zero, List.getElem?_cons_succ]; rfl
    case hQz97 => exact fun _ _ _ h => h
    case hyz97 => exact Or.inl ⟨by rfl, by intro w hSw; (try dsimp only at hSw); go_simp; with_reducible rfl⟩
    try simp only [Act.put, List.setIfInBounds_toArray, List.set_cons_zero, List.set_cons_succ]
    refine wpAnyH_ready (rs := [18]) (by kernel_rfl) (by simp) (AllReadyH.cons (o := ?oy9818) ?hy9818 (fun K hK => ?sy9818) AllReadyH.nil)
    case hy9818 => simp only [List.getElem?_toArray, List.getElem?_cons_zero, List.getElem?_cons_succ]; rfl
    go_simp
    refine (hls _ (H.out.ext (by decide) hHeld) (H'.out.ext (by decide) hHeld)).mono ?_
    rintro e w1 ⟨rfl, hx⟩
    have hH2 := hHeld.trans hx
    refine hK.out _ _ hH2 (fun _ => ?_)
    clear hHeld hK K
    have hHeld := hH2
    clear hH2
    try simp only [Act.put, List.setIfInBounds_toArray, List.set_cons_zero, List.set_cons_succ]
    refine wpAnyH_take (i := 19) (oi := ?oiz99) (v := ?vz99) ?hiz99 (by kernel_rfl) (by kernel_rfl) (by kernel_rfl) ?hQz99 ?hyz99 (by assumption) ?restz99
    case hiz99 => simp only [List.getElem?_toArray, List.getElem?_cons_zero, List.getElem?_cons_succ]; rfl
    case hQz99 => exact fun _ _ _ h => h
    case hyz99 => exact Or.inl ⟨by rfl, by intro w hSw; (try dsimp only at hSw); go_simp; with_reducible rfl⟩
    try simp only [Act.put, List.setIfInBounds_toArray, List.set_cons_zero, List.set_cons_succ]
    refine wpAnyH_take (i := 20) (oi := ?oiz100) (v := ?vz100) ?hiz100 (by kernel_rfl) (by kernel_rfl) (by kernel_rfl) ?hQz100 ?hyz100 (by assumption) ?restz100
    case hiz100 => simp only [List.getElem?_toArray, List.getElem?_cons_zero, List.getElem?_cons_succ]; rfl
    case hQz100 => exact fun _ _ _ h => h
    case hyz100 => exact Or.inl ⟨by rfl, by intro w hSw; (try dsimp only at hSw); go_simp; with_reducible rfl⟩
    try simp only [Act.put, List.setIfInBounds_toArray, List.set_cons_zero, List.set_cons_succ]
    refine wpAnyH_take (i := 21) (oi := ?oiz101) (v := undef) ?hiz101 (by kernel_rfl) (by kernel_rfl) (by kernel_rfl) ?hQz101 ?hyz101 (by assumption) ?restz101
    case hiz101 => simp only [List.getElem?_toArray, List.getElem?_cons_zero, List.getElem?_cons_succ]; rfl
    case hQz101 => exact fun _ _ _ h => h
    case hyz101 => exact Or.inr ⟨by rfl, rfl⟩
    try simp only [Act.put, List.setIfInBounds_toArray, List.set_cons_zero, List.set_cons_succ]
    refine wpAnyH_take (i := 22) (oi := ?oiz102) (v := undef) ?hiz102 (by kernel_rfl) (by kernel_rfl) (by kernel_rfl) ?hQz102 ?hyz102 (by assumption) ?restz102
    case hiz102 => simp only [List.getElem?_toArray, List.getElem?_cons_zero, List.getElem?_cons_succ]; rfl
    case hQz102 => exact fun _ _ _ h => h
    case hyz102 => exact Or.inr ⟨by rfl, rfl⟩
    try simp only [Act.put, List.setIfInBounds_toArray, List.set_cons_zero, List.set_cons_succ]
    refine wpAnyH_take (i := 23) (oi := ?oiz103) (v := undef) ?hiz103 (by kernel_rfl) (by kernel_rfl) (by kernel_rfl) ?hQz103 ?hyz103 (by assumption) ?restz103
    case hiz103 => simp only [List.getElem?_toArray, List.getElem?_cons_zero, List.getElem?_cons_succ]; rfl
    case hQz103 => exact fun _ _ _ h => h
    case hyz103 => exact Or.inr ⟨by rfl, rfl⟩
    try simp only [Act.put, List.setIfInBounds_toArray, List.set_cons_zero, List.set_cons_succ]
    refine wpAnyH_take (i := 24) (oi := ?oiz104) (v := undef) ?hiz104 (by kernel_rfl) (by kernel_rfl) (by kernel_rfl) ?hQz104 ?hyz104 (by assumption) ?restz104
    case hiz104 => simp only [List.getElem?_toArray, List.getElem?_cons_zero, List.getElem?_cons_succ]; rfl
    case hQz104 => exact fun _ _ _ h => h
    case hyz104 => exact Or.inr ⟨by rfl, rfl⟩
    try simp only [Act.put, List.setIfInBounds_toArray, List.set_cons_zero, List.set_cons_succ]
    refine wpAnyH_take (i := 25) (oi := ?oiz105) (v := undef) ?hiz105 (by kernel_rfl) (by kernel_rfl) (by kernel_rfl) ?hQz105 ?hyz105 (by assumption) ?restz105
    case hiz105 => simp only [List.getElem?_toArray, List.getElem?_cons_zero, List.getElem?_cons_succ]; rfl
    case hQz105 => exact fun _ _ _ h => h
    case hyz105 => exact Or.inr ⟨by rfl, rfl⟩
    try simp only [Act.put, List.setIfInBounds_toArray, List.set_cons_zero, List.set_cons_succ]
    refine wpAnyH_take (i := 26) (oi := ?oiz106) (v := undef) ?hiz106 (by kernel_rfl) (by kernel_rfl) (by kernel_rfl) ?hQz106 ?hyz106 (by assumption) ?restz106
    case hiz106 => simp only [List.getElem?_toArray, List.getElem?_cons_zero, List.getElem?_cons_succ]; rfl
    case hQz106 => exact fun _ _ _ h => h
    case hyz106 => exact Or.inr ⟨by rfl, rfl⟩
    try simp only [Act.put, List.setIfInBounds_toArray, List.set_cons_zero, List.set_cons_succ]
    refine wpAnyH_take (i := 27) (oi := ?oiz107) (v := undef) ?hiz107 (by kernel_rfl) (by kernel_rfl) (by kernel_rfl) ?hQz107 ?hyz107 (by assumption) ?restz107
    case hiz107 => simp only [List.getElem?_toArray, List.getElem?_cons_zero, List.getElem?_cons_succ]; rfl
    case hQz107 => exact fun _ _ _ h => h
    case hyz107 => exact Or.inr ⟨by rfl, rfl⟩
    try simp only [Act.put, List.setIfInBounds_toArray, List.set_cons_zero, List.set_cons_succ]
    refine wpAnyH_take (i := 28) (oi := ?oiz108) (v := undef) ?hiz108 (by kernel_rfl) (by kernel_rfl) (by kernel_rfl) ?hQz108 ?hyz108 (by assumption) ?restz108
    case hiz108 => simp only [List.getElem?_toArray, List.getElem?_cons_zero, List.getElem?_cons_succ]; rfl
    case hQz108 => exact fun _ _ _ h => h
    case hyz108 => exact Or.inr ⟨by rfl, rfl⟩
    try simp only [Act.put, List.setIfInBounds_toArray, List.set_cons_zero, List.set_cons_succ]
    refine wpAnyH_take (i := 29) (oi := ?oiz109) (v := undef) ?hiz109 (by kernel_rfl) (by kernel_rfl) (by kernel_rfl) ?hQz109 ?hyz109 (by assumption) ?restz109
    case hiz109 => simp only [List.getElem?_toArray, List.getElem?_cons_zero, List.getElem?_cons_succ]; rfl
    case hQz109 => exact fun _ _ _ h => h
    case hyz109 => exact Or.inr ⟨by rfl, rfl⟩
    try simp only [Act.put, List.setIfInBounds_toArray, List.set_cons_zero, List.set_cons_succ]
    refine wpAnyH_take (i := 30) (oi := ?oiz110) (v := ?vz110) ?hiz110 (by kernel_rfl) (by kernel_rfl) (by kernel_rfl) ?hQz110 ?hyz110 (by assumption) ?restz110
    case hiz110 => simp only [List.getElem?_toArray, List.getElem?_cons_zero, List.getElem?_cons_succ]; rfl
    case hQz110 => exact fun _ _ _ h => h
    case hyz110 => exact Or.inl ⟨by rfl, by intro w hSw; (try dsimp only at hSw); go_simp; with_reducible rfl⟩
    try simp only [Act.put, List.setIfInBounds_toArray, List.set_cons_zero, List.set_cons_succ]
    refine wpAnyH_take (i := 31) (oi := ?oiz111) (v := ?vz111) ?hiz111 (by kernel_rfl) (by kernel_rfl) (by kernel_rfl) ?hQz111 ?hyz111 (by assumption) ?restz111
    case hiz111 => simp only [List.getElem?_toArray, List.getElem?_cons_zero, List.getElem?_cons_succ]; rfl
    case hQz111 => exact fun _ _ _ h => h
    case hyz111 => exact Or.inl ⟨by rfl, by intro w hSw; (try dsimp only at hSw); go_simp; with_reducible rfl⟩
    try simp only [Act.put, List.setIfInBounds_toArray, List.set_cons_zero, List.set_cons_succ]
    refine wpAnyH_take (i := 32) (oi := ?oiz112) (v := undef) ?hiz112 (by kernel_rfl) (by kernel_rfl) (by kernel_rfl) ?hQz112 ?hyz112 (by assumption) ?restz112
    case hiz112 => simp only [List.getElem?_toArray, List.getElem?_cons_zero, List.getElem?_cons_succ]; rfl
    case hQz112 => exact fun _ _ _ h => h
    case hyz112 => exact Or.inr ⟨by rfl, rfl⟩
    try simp only [Act.put, List.setIfInBounds_toArray, List.set_cons_zero, List.set_cons_succ]
    refine wpAnyH_take (i := 33) (oi := ?oiz113) (v := undef) ?hiz113 (by kernel_rfl) (by kernel_rfl) (by kernel_rfl) ?hQz113 ?hyz113 (by assumption) ?restz113
    case hiz113 => simp only [List.getElem?_toArray, List.getElem?_cons_zero, List.getElem?_cons_succ]; rfl
    case hQz113 => exact fun _ _ _ h => h
    case hyz113 => exact Or.inr ⟨by rfl, rfl⟩
    try simp only [Act.put, List.setIfInBounds_toArray, List.set_cons_zero, List.set_cons_succ]
    refine wpAnyH_take (i := 34) (oi := ?oiz114) (v := undef) ?hiz114 (by kernel_rfl) (by kernel_rfl) (by kernel_rfl) ?hQz114 ?hyz114 (by assumption) ?restz114
    case hiz114 => simp only [List.getElem?_toArray, List.getElem?_cons_zero, List.getElem?_cons_succ]; rfl
    case hQz114 => exact fun _ _ _ h => h
    case hyz114 => exact Or.inr ⟨by rfl, rfl⟩
    try simp only [Act.put, List.setIfInBounds_toArray, List.set_cons_zero, List.set_cons_succ]
    refine wpAnyH_take (i := 35) (oi := ?oiz115) (v := undef) ?hiz115 (by kernel_rfl) (by kernel_rfl) (by kernel_rfl) ?hQz115 ?hyz115 (by assumption) ?restz115
    case hiz115 => simp only [List.getElem?_toArray, List.getElem?_cons_zero, List.getElem?_cons_succ]; rfl
    case hQz115 => exact fun _ _ _ h => h
    case hyz115 => exact Or.inr ⟨by rfl, rfl⟩
    try simp only [Act.put, List.setIfInBounds_toArray, List.set_cons_zero, List.set_cons_succ]
    refine wpAnyH_take (i := 36) (oi := ?oiz116) (v := undef) ?hiz116 (by kernel_rfl) (by kernel_rfl) (by kernel_rfl) ?hQz116 ?hyz116 (by assumption) ?restz116
    case hiz116 => simp only [List.getElem?_toArray, List.getElem?_cons_zero, List.getElem?_cons_succ]; rfl
    case hQz116 => exact fun _ _ _ h => h
    case hyz116 => exact Or.inr ⟨by rfl, rfl⟩
    try simp only [Act.put, List.setIfInBounds_toArray, List.set_cons_zero, List.set_cons_succ]
    refine wpAnyH_take (i := 37) (oi := ?oiz117) (v := undef) ?hiz117 (by kernel_rfl) (by kernel_rfl) (by kernel_rfl) ?hQz117 ?hyz117 (by assumption) ?restz117
    case hiz117 => simp only [List.getElem?_toArray, List.getElem?_cons_zero, List.getElem?_cons_succ]; rfl
    case hQz117 => exact fun _ _ _ h => h
    case hyz117 => exact Or.inr ⟨by rfl, rfl⟩
    try simp only [Act.put, List.setIfInBounds_toArray, List.set_cons_zero, List.set_cons_succ]
    refine wpAnyH_take (i := 38) (oi := ?oiz118) (v := undef) ?hiz118 (by kernel_rfl) (by kernel_rfl) (by kernel_rfl) ?hQz118 ?hyz118 (by assumption) ?restz118
    case hiz118 => simp only [List.getElem?_toArray, List.getElem?_cons_zero, List.getElem?_cons_succ]; rfl
    case hQz118 => exact fun _ _ _ h => h
    case hyz118 => exact Or.inr ⟨by rfl, rfl⟩
    try simp only [Act.put, List.setIfInBounds_toArray, List.set_cons_zero, List.set_cons_succ]
    refine wpAnyH_take (i := 39) (oi := ?oiz119) (v := undef) ?hiz119 (by kernel_rfl) (by kernel_rfl) (by kernel_rfl) ?hQz119 ?hyz119 (by assumption) ?restz119
    case hiz119 => simp only [List.getElem?_toArray, List.getElem?_cons_zero, List.getElem?_cons_succ]; rfl
    case hQz119 => exact fun _ _ _ h => h
    case hyz119 => exact Or.inr ⟨by rfl, rfl⟩
    try simp only [Act.put, List.setIfInBounds_toArray, List.set_cons_zero, List.set_cons_succ]
    refine wpAnyH_take (i := 40) (oi := ?oiz120) (v := undef) ?hiz120 (by kernel_rfl) (by kernel_rfl) (by kernel_rfl) ?hQz120 ?hyz120 (by assumption) ?restz120
    case hiz120 => simp only [List.getElem?_toArray, List.getElem?_cons_zero, List.getElem?_cons_succ]; rfl
    case hQz120 => exact fun _ _ _ h => h
    case hyz120 => exact Or.inr ⟨by rfl, rfl⟩
    try simp only [Act.put, List.setIfInBounds_toArray, List.set_cons_zero, List.set_cons_succ]
    refine wpAnyH_take (i := 41) (oi := ?oiz121) (v := ?vz121) ?hiz121 (by kernel_rfl) (by kernel_rfl) (by kernel_rfl) ?hQz121 ?hyz121 (by assumption) ?restz121
    case hiz121 => simp only [List.getElem?_toArray, List.getElem?_cons_zero, List.getElem?_cons_succ]; rfl
    case hQz121 => exact fun _ _ _ h => h
    case hyz121 => exact Or.inl ⟨by rfl, by intro w hSw; (try dsimp only at hSw); go_simp; with_reducible rfl⟩
    try simp only [Act.put, List.setIfInBounds_toArray, List.set_cons_zero, List.set_cons_succ]
    refine wpAnyH_take (i := 42) (oi := ?oiz122) (v := ?vz122) ?hiz122 (by kernel_rfl) (by kernel_rfl) (by kernel_rfl) ?hQz122 ?hyz122 (by assumption) ?restz122
    case hiz122 => simp only [List.getElem?_toArray, List.getElem?_cons_zero, List.getElem?_cons_succ]; rfl
    case hQz122 => exact fun _ _ _ h => h
    case hyz122 => exact Or.inl ⟨by rfl, by intro w hSw; (try dsimp only at hSw); go_simp; with_reducible rfl⟩
    try simp only [Act.put, List.setIfInBounds_toArray, List.set_cons_zero, List.set_cons_succ]
    refine wpAnyH_done (by kernel_rfl) ?_ _
    have XW := Lib.hid hHeld
    clear hHeld
    go_wp2
    go_ret
    exact ⟨by rw [HE.out, decide_eq_false E2.out, Bool.false_and, Bool.and_false]; rfl, XW.out⟩
  have E2 := Lib.hid e2
  simp only [decide_eq_true e2] at hls
  clear e2
  cases e3 : (x.num == y.num) with
  | false =>
    have E3 := Lib.hid e3
    go_enter Try.func62, Try.ntmps62
    go_wp2_with fail
    refine wp_region_held_drew (S := fun W => Ext w W) (by kernel_rfl) (Ext.refl _).drew (fun hHeld => ?_)
    refine wpAnyH_take (i := 0) (oi := ?oiz123) (v := ?vz123) ?hiz123 (by kernel_rfl) (by kernel_rfl) (by kernel_rfl) ?hQz123 ?hyz123 (by assumption) ?restz123
    case hiz123 => simp only [List.getElem?_toArray, List.getElem?_cons_zero, List.getElem?_cons_succ]; rfl
    case hQz123 => exact fun _ _ _ h => h
    case hyz123 => exact Or.inl ⟨by rfl, by intro w hSw; (try dsimp only at hSw); go_simp; with_reducible rfl⟩
    try simp only [Act.put, List.setIfInBounds_toArray, List.set_cons_zero, List.set_cons_succ]
    refine wpAnyH_take (i := 1) (oi := ?oiz124) (v := ?vz124) ?hiz124 (by kernel_rfl) (by kernel_rfl) (by kernel_rfl) ?hQz124 ?hyz124 (by assumption) ?restz124
    case hiz124 => simp only [List.getElem?_toArray, List.getElem?_cons_zero, List.getElem?_cons_succ]; rfl
    case hQz124 => exact fun _ _ _ h => h
    case hyz124 => exact Or.inl ⟨by rfl, by intro w hSw; (try dsimp only at hSw); go_simp; with_reducible rfl⟩
    try simp only [Act.put, List.setIfInBounds_toArray, List.set_cons_zero, List.set_cons_succ]
    refine wpAnyH_take (i := 2) (oi := ?oiz125) (v := ?vz125) ?hiz125 (by kernel_rfl) (by kernel_rfl) (by kernel_rfl) ?hQz125 ?hyz125 (by assumption) ?restz125
    case hiz125 => simp only [List.getElem?_toArray, List.getElem?_cons_zero, List.getElem?_cons_succ]; rfl
    case hQz125 => exact fun _ _ _ h => h
    case hyz125 => exact Or.inl ⟨by rfl, by intro w hSw; (try dsimp only at hSw); go_simp; with_reducible rfl⟩
    try simp only [Act.put, List.setIfInBounds_toArray, List.set_cons_zero, List.set_cons_succ]
    refine wpAnyH_take (i := 3) (oi := ?oiz126) (v := (.agg (numsA .u8 x.root))) ?hiz126 (by kernel_rfl) (by kernel_rfl) (by kernel_rfl) ?hQz126 ?hyz126 (by assumption) ?restz126
    case hiz126 => simp only [List.getElem?_toArray, List.getElem?_cons_zero, List.getElem?_cons_succ]; rfl
    case hQz126 => exact fun _ _ _ h => h
    case hyz126 => refine yields_loadP HB.out aggKey HL.out (Cm.root_at _) ?_ _ rfl rfl; rfl
    try simp only [Act.put, List.setIfInBounds_toArray, List.set_cons_zero, List.set_cons_succ]
    refine wpAnyH_take (i := 4) (oi := ?oiz127) (v := ?vz127) ?hiz127 (by kernel_rfl) (by kernel_rfl) (by kernel_rfl) ?hQz127 ?hyz127 (by assumption) ?restz127
    case hiz127 => simp only [List.getElem?_toArray, List.getElem?_cons_zero, List.getElem?_cons_succ]; rfl
    case hQz127 => exact fun _ _ _ h => h
    case hyz127 => exact Or.inl ⟨by rfl, by intro w hSw; (try dsimp only at hSw); go_simp; with_reducible rfl⟩
    try simp only [Act.put, List.setIfInBounds_toArray, List.set_cons_zero, List.set_cons_succ]
    refine wpAnyH_take (i := 5) (oi := ?oiz128) (v := ?vz128) ?hiz128 (by kernel_rfl) (by kernel_rfl) (by kernel_rfl) ?hQz128 ?hyz128 (by assumption) ?restz128
    case hiz128 => simp only [List.getElem?_toArray, List.getElem?_cons_zero, List.getElem?_cons_succ]; rfl
    case hQz128 => exact fun _ _ _ h => h
    case hyz128 => exact Or.inl ⟨by rfl, by intro w hSw; (try dsimp only at hSw); go_simp; with_reducible rfl⟩
    try simp only [Act.put, List.setIfInBounds_toArray, List.set_cons_zero, List.set_cons_succ]
    refine wpAnyH_take (i := 6) (oi := ?oiz129) (v := ?vz129) ?hiz129 (by kernel_rfl) (by kernel_rfl) (by kernel_rfl) ?hQz129 ?hyz129 (by assumption) ?restz129
    case hiz129 => simp only [List.getElem?_toArray, List.getElem?_cons_zero, List.getElem?_cons_succ]; rfl
    case hQz129 => exact fun _ _ _ h => h
    case hyz129 => exact Or.inl ⟨by rfl, by intro w hSw; (try dsimp only at hSw); go_simp; with_reducible rfl⟩
    try simp only [Act.put, List.setIfInBounds_toArray, List.set_cons_zero, List.set_cons_succ]
    refine wpAnyH_take (i := 7) (oi := ?oiz130) (v := (.agg (numsA .u8 y.root))) ?hiz130 (by kernel_rfl) (by kernel_rfl) (by kernel_rfl) ?hQz130 ?hyz130 (by assumption) ?restz130
    case hiz130 => simp only [List.getElem?_toArray, List.getElem?_cons_zero, List.getElem?_cons_succ]; rfl
    case hQz130 => exact fun _ _ _ h => h
    case hyz130 => refine yields_loadP HB'.out aggKey HL'.out (Cm.root_at _) ?_ _ rfl rfl; rfl
    try simp only [Act.put, List.setIfInBounds_toArray, List.set_cons_zero, List.set_cons_succ]
    refine wpAnyH_take (i := 8) (oi := ?oiz131) (v := ?vz131) ?hiz131 (by kernel_rfl) (by kernel_rfl) (by kernel_rfl) ?hQz131 ?hyz131 (by assumption) ?restz131
    case hiz131 => simp only [List.getElem?_toArray, List.getElem?_cons_zero, List.getElem?_cons_succ]; rfl
    case hQz131 => exact fun _ _ _ h => h
    case hyz131 => exact Or.inl ⟨by rfl, by intro w hSw; (try dsimp only at hSw); go_simp; with_reducible rfl⟩
    try simp only [Act.put, List.setIfInBounds_toArray, List.set_cons_zero, List.set_cons_succ]
    refine wpAnyH_take (i := 9) (oi := ?oiz132) (v := ?vz132) ?hiz132 (by kernel_rfl) (by kernel_rfl) (by kernel_rfl) ?hQz132 ?hyz132 (by assumption) ?restz132
    case hiz132 => simp only [List.getElem?_toArray, List.getElem?_cons_zero, List.getElem?_cons_succ]; rfl
    case hQz132 => exact fun _ _ _ h => h
    case hyz132 => exact Or.inl ⟨by rfl, by intro w hSw; (try dsimp only at hSw); go_simp; with_reducible rfl⟩
    try simp only [Act.put, List.setIfInBounds_toArray, List.set_cons_zero, List.set_cons_succ]
    refine wpAnyH_take (i := 10) (oi := ?oiz133) (v := ?vz133) ?hiz133 (by kernel_rfl) (by kernel_rfl) (by kernel_rfl) ?hQz133 ?hyz133 (by assumption) ?restz133
    case hiz133 => simp only [List.getElem?_toArray, List.getElem?_cons_zero, List.getElem?_cons_succ]; rfl
    case hQz133 => exact fun _ _ _ h => h
    case hyz133 => exact Or.inl ⟨by rfl, by intro w hSw; (try dsimp only at hSw); go_simp; with_reducible rfl⟩
    try simp only [Act.put, List.setIfInBounds_toArray, List.set_cons_zero, List.set_cons_succ]
    refine wpAnyH_take (i := 11) (oi := ?oiz134) (v := ?vz134) ?hiz134 (by kernel_rfl) (by kernel_rfl) (by kernel_rfl) ?hQz134 ?hyz134 (by assumption) ?restz134
    case hiz134 => simp only [List.getElem?_toArray, List.getElem?_cons_zero, List.getElem?_cons_succ]; rfl
    case hQz134 => exact fun _ _ _ h => h
    case hyz134 => exact Or.inl ⟨by rfl, by intro w hSw; (try dsimp only at hSw); go_simp; with_reducible rfl⟩
    try simp only [Act.put, List.setIfInBounds_toArray, List.set_cons_zero, List.set_cons_succ]
    refine wpAnyH_take (i := 12) (oi := ?oiz135) (v := ?vz135) ?hiz135 (by kernel_rfl) (by kernel_rfl) (by kernel_rfl) ?hQz135 ?hyz135 (by assumption) ?restz135
    case hiz135 => simp only [List.getElem?_toArray, List.getElem?_cons_zero, List.getElem?_cons_succ]; rfl
    case hQz135 => exact fun _ _ _ h => h
    case hyz135 => exact Or.inl ⟨by rfl, by intro w hSw; (try dsimp only at hSw); go_simp; with_reducible rfl⟩
    try simp only [Act.put, List.setIfInBounds_toArray, List.set_cons_zero, List.set_cons_succ]
    refine wpAnyH_take (i := 13) (oi := ?oiz136) (v := ?vz136) ?hiz136 (by kernel_rfl) (by kernel_rfl) (by kernel_rfl) ?hQz136 ?hyz136 (by assumption) ?restz136
    case hiz136 => simp only [List.getElem?_toArray, List.getElem?_cons_zero, List.getElem?_cons_succ]; rfl
    case hQz136 => exact fun _ _ _ h => h
    case hyz136 => exact Or.inl ⟨by rfl, by intro w hSw; (try dsimp only at hSw); go_simp; with_reducible rfl⟩
    try simp only [Act.put, List.setIfInBounds_toArray, List.set_cons_zero, List.set_cons_succ]
    refine wpAnyH_take (i := 14) (oi := ?oiz137) (v := ?vz137) ?hiz137 (by kernel_rfl) (by kernel_rfl) (by kernel_rfl) ?hQz137 ?hyz137 (by assumption) ?restz137
    case hiz137 => simp only [List.getElem?_toArray, List.getElem?_cons_zero, List.getElem?_cons_succ]; rfl
    case hQz137 => exact fun _ _ _ h => h
    case hyz137 => exact Or.inl ⟨by rfl, by intro w hSw; (try dsimp only at hSw); go_simp; with_reducible rfl⟩
    try simp only [Act.put, List.setIfInBounds_toArray, List.set_cons_zero, List.set_cons_succ]
    refine wpAnyH_take (i := 15) (oi := ?oiz138) (v := ?vz138) ?hiz138 (by kernel_rfl) (by kernel_rfl) (by kernel_rfl) ?hQz138 ?hyz138 (by assumption) ?restz138
    case hiz138 => simp only [List.getElem?_toArray, List.getElem?_cons_zero, List.getElem?_cons_succ]; rfl
    case hQz138 => exact fun _ _ _ h => h
    case hyz138 => exact Or.inl ⟨by rfl, by intro w hSw; (try dsimp only at hSw); go_simp; with_reducible rfl⟩
    try simp only [Act.put, List.setIfInBounds_toArray, List.set_cons_zero, List.set_cons_succ]
    refine wpAnyH_take (i := 16) (oi := ?oiz139) (v := ?vz139) ?hiz139 (by kernel_rfl) (by kernel_rfl) (by kernel_rfl) ?hQz139 ?hyz139 (by assumption) ?restz139
    case hiz139 => simp only [List.getElem?_toArray, List.getElem?_cons_zero, List.getElem?_cons_succ]; rfl
    case hQz139 => exact fun _ _ _ h => h
    case hyz139 => exact Or.inl ⟨by rfl, by intro w hSw; (try dsimp only at hSw); go_simp; with_reducible rfl⟩
    try simp only [Act.put, List.setIfInBounds_toArray, List.set_cons_zero, List.set_cons_succ]
    refine wpAnyH_take (i := 17) (oi := ?oiz140) (v := ?vz140) ?hiz140 (by kernel_rfl) (by kernel_rfl) (by kernel_rfl) ?hQz140 ?hyz140 (by assumption) ?restz140
    case hiz140 => simp only [List.getElem?_toArray, List.getElem?_cons_zero, List.getElem?_cons_succ]; rfl
    case hQz140 => exact fun _ _ _ h => h
    case hyz140 => exact Or.inl ⟨by rfl, by intro w hSw; (try dsimp only at hSw); go_simp; with_reducible rfl⟩
    try simp only [Act.put, List.setIfInBounds_toArray, List.set_cons_zero, List.set_cons_succ]
    refine wpAnyH_ready (rs := [18]) (by kernel_rfl) (by simp) (AllReadyH.cons (o := ?oy14118) ?hy14118 (fun K hK => ?sy14118) AllReadyH.nil)
    case hy14118 => simp only [List.getElem?_toArray, List.getElem?_cons_zero, List.getElem?_cons_succ]; rfl
    go_simp
    refine (hls _ (H.out.ext (by decide) hHeld) (H'.out.ext (by decide) hHeld)).mono ?_
    rintro e w1 ⟨rfl, hx⟩
    have hH2 := hHeld.trans hx
    refine hK.out _ _ hH2 (fun _ => ?_)
    clear hHeld hK K
    have hHeld := hH2
    clear hH2
    try simp only [Act.put, List.setIfInBounds_toArray, List.set_cons_zero, List.set_cons_succ]
    refine wpAnyH_take (i := 19) (oi := ?oiz142) (v := ?vz142) ?hiz142 (by kernel_rfl) (by kernel_rfl) (by kernel_rfl) ?hQz142 ?hyz142 (by assumption) ?restz142
    case hiz142 => simp only [List.getElem?_toArray, List.getElem?_cons_zero, List.getElem?_cons_succ]; rfl
    case hQz142 => exact fun _ _ _ h => h
    case hyz142 => exact Or.inl ⟨by rfl, by intro w hSw; (try dsimp only at hSw); go_simp; with_reducible rfl⟩
    try simp only [Act.put, List.setIfInBounds_toArray, List.set_cons_zero, List.set_cons_succ]
    refine wpAnyH_take (i := 20) (oi := ?oiz143) (v := ?vz143) ?hiz143 (by kernel_rfl) (by kernel_rfl) (by kernel_rfl) ?hQz143 ?hyz143 (by assumption) ?restz143
    case hiz143 => simp only [List.getElem?_toArray, List.getElem?_cons_zero, List.getElem?_cons_succ]; rfl
    case hQz143 => exact fun _ _ _ h => h
    case hyz143 => exact Or.inl ⟨by rfl, by intro w hSw; (try dsimp only at hSw); go_simp; with_reducible rfl⟩
    try simp only [Act.put, List.setIfInBounds_toArray, List.set_cons_zero, List.set_cons_succ]
    refine wpAnyH_take (i := 21) (oi := ?oiz144) (v := ?vz144) ?hiz144 (by kernel_rfl) (by kernel_rfl) (by kernel_rfl) ?hQz144 ?hyz144 (by assumption) ?restz144
    case hiz144 => simp only [List.getElem?_toArray, List.getElem?_cons_zero, List.getElem?_cons_succ]; rfl
    case hQz144 => exact fun _ _ _ h => h
    case hyz144 => exact Or.inl ⟨by rfl, by intro w hSw; (try dsimp only at hSw); go_simp; with_reducible rfl⟩
    try simp only [Act.put, List.setIfInBounds_toArray, List.set_cons_zero, List.set_cons_succ]
    refine wpAnyH_take (i := 22) (oi := ?oiz145) (v := ?vz145) ?hiz145 (by kernel_rfl) (by kernel_rfl) (by kernel_rfl) ?hQz145 ?hyz145 (by assumption) ?restz145
    case hiz145 => simp only [List.getElem?_toArray, List.getElem?_cons_zero, List.getElem?_cons_succ]; rfl
    case hQz145 => exact fun _ _ _ h => h
    case hyz145 => exact Or.inl ⟨by rfl, by intro w hSw; (try dsimp only at hSw); go_simp; with_reducible rfl⟩
    try simp only [Act.put, List.setIfInBounds_toArray, List.set_cons_zero, List.set_cons_succ]
    refine wpAnyH_take (i := 23) (oi := ?oiz146) (v := ?vz146) ?hiz146 (by kernel_rfl) (by kernel_rfl) (by kernel_rfl) ?hQz146 ?hyz146 (by assumption) ?restz146
    case hiz146 => simp only [List.getElem?_toArray, List.getElem?_cons_zero, List.getElem?_cons_succ]; rfl
    case hQz146 => exact fun _ _ _ h => h
    case hyz146 => exact Or.inl ⟨by rfl, by intro w hSw; (try dsimp only at hSw); go_simp; with_reducible rfl⟩
    try simp only [Act.put, List.setIfInBounds_toArray, List.set_cons_zero, List.set_cons_succ]
    refine wpAnyH_take (i := 24) (oi := ?oiz147) (v := ?vz147) ?hiz147 (by kernel_rfl) (by kernel_rfl) (by kernel_rfl) ?hQz147 ?hyz147 (by assumption) ?restz147
    case hiz147 => simp only [List.getElem?_toArray, List.getElem?_cons_zero, List.getElem?_cons_succ]; rfl
    case hQz147 => exact fun _ _ _ h => h
    case hyz147 => exact Or.inl ⟨by rfl, by intro w hSw; (try dsimp only at hSw); go_simp; with_reducible rfl⟩
    try simp only [Act.put, List.setIfInBounds_toArray, List.set_cons_zero, List.set_cons_succ]
    refine wpAnyH_take (i := 25) (oi := ?oiz148) (v := ?vz148) ?hiz148 (by kernel_rfl) (by kernel_rfl) (by kernel_rfl) ?hQz148 ?hyz148 (by assumption) ?restz148
    case hiz148 => simp only [List.getElem?_toArray, List.getElem?_cons_zero, List.getElem?_cons_succ]; rfl
    case hQz148 => exact fun _ _ _ h => h
    case hyz148 => exact Or.inl ⟨by rfl, by intro w hSw; (try dsimp only at hSw); go_simp; with_reducible rfl⟩
    try simp only [Act.put, List.setIfInBounds_toArray, List.set_cons_zero, List.set_cons_succ]
    refine wpAnyH_take (i := 26) (oi := ?oiz149) (v := ?vz149) ?hiz149 (by kernel_rfl) (by kernel_rfl) (by kernel_rfl) ?hQz149 ?hyz149 (by assumption) ?restz149
    case hiz149 => simp only [List.getElem?_toArray, List.getElem?_cons_zero, List.getElem?_cons_succ]; rfl
    case hQz149 => exact fun _ _ _ h => h
    case hyz149 => exact Or.inl ⟨by rfl, by intro w hSw; (try dsimp only at hSw); go_simp; with_reducible rfl⟩
    try simp only [Act.put, List.setIfInBounds_toArray, List.set_cons_zero, List.set_cons_succ]
    refine wpAnyH_take (i := 27) (oi := ?oiz150) (v := ?vz150) ?hiz150 (by kernel_rfl) (by kernel_rfl) (by kernel_rfl) ?hQz150 ?hyz150 (by assumption) ?restz150
    case hiz150 => simp only [List.getElem?_toArray, List.getElem?_cons_zero, List.getElem?_cons_succ]; rfl
    case hQz150 => exact fun _ _ _ h => h
    case hyz150 => exact Or.inl ⟨by rfl, by intro w hSw; (try dsimp only at hSw); go_simp; with_reducible rfl⟩
    try simp only [Act.put, List.setIfInBounds_toArray, List.set_cons_zero, List.set_cons_succ]
    refine wpAnyH_take (i := 28) (oi := ?oiz151) (v := ?vz151) ?hiz151 (by kernel_rfl) (by kernel_rfl) (by kernel_rfl) ?hQz151 ?hyz151 (by assumption) ?restz151
    case hiz151 => simp only [List.getElem?_toArray, List.getElem?_cons_zero, List.getElem?_cons_succ]; rfl
    case hQz151 => exact fun _ _ _ h => h
    case hyz151 => exact Or.inl ⟨by rfl, by intro w hSw; (try dsimp only at hSw); go_simp; with_reducible rfl⟩
    try simp only [Act.put, List.setIfInBounds_toArray, List.set_cons_zero, List.set_cons_succ]
    refine wpAnyH_take (i := 29) (oi := ?oiz152) (v := ?vz152) ?hiz152 (by kernel_rfl) (by kernel_rfl) (by kernel_rfl) ?hQz152 ?hyz152 (by assumption) ?restz152
    case hiz152 => simp only [List.getElem?_toArray, List.getElem?_cons_zero, List.getElem?_cons_succ]; rfl
    case hQz152 => exact fun _ _ _ h => h
    case hyz152 => exact Or.inl ⟨by rfl, by intro w hSw; (try dsimp only at hSw); go_simp; with_reducible rfl⟩
    try simp only [Act.put, List.setIfInBounds_toArray, List.set_cons_zero, List.set_cons_succ]
    refine wpAnyH_take (i := 30) (oi := ?oiz153) (v := ?vz153) ?hiz153 (by kernel_rfl) (by kernel_rfl) (by kernel_rfl) ?hQz153 ?hyz153 (by assumption) ?restz153
    case hiz153 => simp only [List.getElem?_toArray, List.getElem?_cons_zero, List.getElem?_cons_succ]; rfl
    case hQz153 => exact fun _ _ _ h => h
    case hyz153 => exact Or.inl ⟨by rfl, by intro w hSw; (try dsimp only at hSw); go_simp; with_reducible rfl⟩
    try simp only [Act.put, List.setIfInBounds_toArray, List.set_cons_zero, List.set_cons_succ]
    refine wpAnyH_take (i := 31) (oi := ?oiz154) (v := ?vz154) ?hiz154 (by kernel_rfl) (by kernel_rfl) (by kernel_rfl) ?hQz154 ?hyz154 (by assumption) ?restz154
    case hiz154 => simp only [List.getElem?_toArray, List.getElem?_cons_zero, List.getElem?_cons_succ]; rfl
    case hQz154 => exact fun _ _ _ h => h
    case hyz154 => exact Or.inl ⟨by rfl, by intro w hSw; (try dsimp only at hSw); go_simp; with_reducible rfl⟩
    try simp only [Act.put, List.setIfInBounds_toArray, List.set_cons_zero, List.set_cons_succ]
    refine wpAnyH_take (i := 32) (oi := ?oiz155) (v := undef) ?hiz155 (by kernel_rfl) (by kernel_rfl) (by kernel_rfl) ?hQz155 ?hyz155 (by assumption) ?restz155
    case hiz155 => simp only [List.getElem?_toArray, List.getElem?_cons_zero, List.getElem?_cons_succ]; rfl
    case hQz155 => exact fun _ _ _ h => h
    case hyz155 => exact Or.inr ⟨by rfl, rfl⟩
    try simp only [Act.put, List.setIfInBounds_toArray, List.set_cons_zero, List.set_cons_succ]
    refine wpAnyH_take (i := 33) (oi := ?oiz156) (v := undef) ?hiz156 (by kernel_rfl) (by kernel_rfl) (by kernel_rfl) ?hQz156 ?hyz156 (by assumption) ?restz156
    case hiz156 => simp only [List.getElem?_toArray, List.getElem?_cons_zero, List.getElem?_cons_succ]; rfl
    case hQz156 => exact fun _ _ _ h => h
    case hyz156 => exact Or.inr ⟨by rfl, rfl⟩
    try simp only [Act.put, List.setIfInBounds_toArray, List.set_cons_zero, List.set_cons_succ]
    refine wpAnyH_take (i := 34) (oi := ?oiz157) (v := undef) ?hiz157 (by kernel_rfl) (by kernel_rfl) (by kernel_rfl) ?hQz157 ?hyz157 (by assumption) ?restz157
    case hiz157 => simp only [List.getElem?_toArray, List.getElem?_cons_zero, List.getElem?_cons_succ]; rfl
    case hQz157 => exact fun _ _ _ h => h
    case hyz157 => exact Or.inr ⟨by rfl, rfl⟩
    try simp only [Act.put, List.setIfInBounds_toArray, List.set_cons_zero, List.set_cons_succ]
    refine wpAnyH_take (i := 35) (oi := ?oiz158) (v := undef) ?hiz158 (by kernel_rfl) (by kernel_rfl) (by kernel_rfl) ?hQz158 ?hyz158 (by assumption) ?restz158
    case hiz158 => simp only [List.getElem?_toArray, List.getElem?_cons_zero, List.getElem?_cons_succ]; rfl
    case hQz158 => exact fun _ _ _ h => h
    case hyz158 => exact Or.inr ⟨by rfl, rfl⟩
    try simp only [Act.put, List.setIfInBounds_toArray, List.set_cons_zero, List.set_cons_succ]
    refine wpAnyH_take (i := 36) (oi := ?oiz159) (v := undef) ?hiz159 (by kernel_rfl) (by kernel_rfl) (by kernel_rfl) ?hQz159 ?hyz159 (by assumption) ?restz159
    case hiz159 => simp only [List.getElem?_toArray, List.getElem?_cons_zero, List.getElem?_cons_succ]; rfl
    case hQz159 => exact fun _ _ _ h => h
    case hyz159 => exact Or.inr ⟨by rfl, rfl⟩
    try simp only [Act.put, List.setIfInBounds_toArray, List.set_cons_zero, List.set_cons_succ]
    refine wpAnyH_take (i := 37) (oi := ?oiz160) (v := undef) ?hiz160 (by kernel_rfl) (by kernel_rfl) (by kernel_rfl) ?hQz160 ?hyz160 (by assumption) ?restz160
    case hiz160 => simp only [List.getElem?_toArray, List.getElem?_cons_zero, List.getElem?_cons_succ]; rfl
    case hQz160 => exact fun _ _ _ h => h
    case hyz160 => exact Or.inr ⟨by rfl, rfl⟩
    try simp only [Act.put, List.setIfInBounds_toArray, List.set_cons_zero, List.set_cons_succ]
    refine wpAnyH_take (i := 38) (oi := ?oiz161) (v := undef) ?hiz161 (by kernel_rfl) (by kernel_rfl) (by kernel_rfl) ?hQz161 ?hyz161 (by assumption) ?restz161
    case hiz161 => simp only [List.getElem?_toArray, List.getElem?_cons_zero, List.getElem?_cons_succ]; rfl
    case hQz161 => exact fun _ _ _ h => h
    case hyz161 => exact Or.inr ⟨by rfl, rfl⟩
    try simp only [Act.put, List.setIfInBounds_toArray, List.set_cons_zero, List.set_cons_succ]
    refine wpAnyH_take (i := 39) (oi := ?oiz162) (v := undef) ?hiz162 (by kernel_rfl) (by kernel_rfl) (by kernel_rfl) ?hQz162 ?hyz162 (by assumption) ?restz162
    case hiz162 => simp only [List.getElem?_toArray, List.getElem?_cons_zero, List.getElem?_cons_succ]; rfl
    case hQz162 => exact fun _ _ _ h => h
    case hyz162 => exact Or.inr ⟨by rfl, rfl⟩
    try simp only [Act.put, List.setIfInBounds_toArray, List.set_cons_zero, List.set_cons_succ]
    refine wpAnyH_take (i := 40) (oi := ?oiz163) (v := undef) ?hiz163 (by kernel_rfl) (by kernel_rfl) (by kernel_rfl) ?hQz163 ?hyz163 (by assumption) ?restz163
    case hiz163 => simp only [List.getElem?_toArray, List.getElem?_cons_zero, List.getElem?_cons_succ]; rfl
    case hQz163 => exact fun _ _ _ h => h
    case hyz163 => exact Or.inr ⟨by rfl, rfl⟩
    try simp only [Act.put, List.setIfInBounds_toArray, List.set_cons_zero, List.set_cons_succ]
    refine wpAnyH_take (i := 41) (oi := ?oiz164) (v := ?vz164) ?hiz164 (by kernel_rfl) (by kernel_rfl) (by kernel_rfl) ?hQz164 ?hyz164 (by assumption) ?restz164
    case hiz164 => simp only [List.getElem?_toArray, List.getElem?_cons_zero, List.getElem?_cons_succ]; rfl
    case hQz164 => exact fun _ _ _ h => h
    case hyz164 => exact Or.inl ⟨by rfl, by intro w hSw; (try dsimp only at hSw); go_simp; with_reducible rfl⟩
    try simp only [Act.put, List.setIfInBounds_toArray, List.set_cons_zero, List.set_cons_succ]
    refine wpAnyH_take (i := 42) (oi := ?oiz165) (v := ?vz165) ?hiz165 (by kernel_rfl) (by kernel_rfl) (by kernel_rfl) ?hQz165 ?hyz165 (by assumption) ?restz165
    case hiz165 => simp only [List.getElem?_toArray, List.getElem?_cons_zero, List.getElem?_cons_succ]; rfl
    case hQz165 => exact fun _ _ _ h => h
    case hyz165 => exact Or.inl ⟨by rfl, by intro w hSw; (try dsimp only at hSw); go_simp; with_reducible rfl⟩
    try simp only [Act.put, List.setIfInBounds_toArray, List.set_cons_zero, List.set_cons_succ]
    refine wpAnyH_done (by kernel_rfl) ?_ _
    have XW := Lib.hid hHeld
    clear hHeld
    go_wp2
    go_ret
    exact ⟨by rw [HE.out, E3.out, Bool.false_and, Bool.and_false, Bool.and_false]; rfl, XW.out⟩
  | true =>
    have E3 := Lib.hid e3
    go_enter Try.func62, Try.ntmps62
    go_wp2_with fail
    refine wp_region_held_drew (S := fun W => Ext w W) (by kernel_rfl) (Ext.refl _).drew (fun hHeld => ?_)
    refine wpAnyH_take (i := 0) (oi := ?oiz166) (v := ?vz166) ?hiz166 (by kernel_rfl) (by kernel_rfl) (by kernel_rfl) ?hQz166 ?hyz166 (by assumption) ?restz166
    case hiz166 => simp only [List.getElem?_toArray, List.getElem?_cons_zero, List.getElem?_cons_succ]; rfl
    case hQz166 => exact fun _ _ _ h => h
    case hyz166 => exact Or.inl ⟨by rfl, by intro w hSw; (try dsimp only at hSw); go_simp; with_reducible rfl⟩
    try simp only [Act.put, List.setIfInBounds_toArray, List.set_cons_zero, List.set_cons_succ]
    refine wpAnyH_take (i := 1) (oi := ?oiz167) (v := ?vz167) ?hiz167 (by kernel_rfl) (by kernel_rfl) (by kernel_rfl) ?hQz167 ?hyz167 (by assumption) ?restz167
    case hiz167 => simp only [List.getElem?_toArray, List.getElem?_cons_zero, List.getElem?_cons_succ]; rfl
    case hQz167 => exact fun _ _ _ h => h
    case hyz167 => exact Or.inl ⟨by rfl, by intro w hSw; (try dsimp only at hSw); go_simp; with_reducible rfl⟩
    try simp only [Act.put, List.setIfInBounds_toArray, List.set_cons_zero, List.set_cons_succ]
    refine wpAnyH_take (i := 2) (oi := ?oiz168) (v := ?vz168) ?hiz168 (by kernel_rfl) (by kernel_rfl) (by kernel_rfl) ?hQz168 ?hyz168 (by assumption) ?restz168
    case hiz168 => simp only [List.getElem?_toArray, List.getElem?_cons_zero, List.getElem?_cons_succ]; rfl
    case hQz168 => exact fun _ _ _ h => h
    case hyz168 => exact Or.inl ⟨by rfl, by intro w hSw; (try dsimp only at hSw); go_simp; with_reducible rfl⟩
    try simp only [Act.put, List.setIfInBounds_toArray, List.set_cons_zero, List.set_cons_succ]
    refine wpAnyH_take (i := 3) (oi := ?oiz169) (v := (.agg (numsA .u8 x.root))) ?hiz169 (by kernel_rfl) (by kernel_rfl) (by kernel_rfl) ?hQz169 ?hyz169 (by assumption) ?restz169
    case hiz169 => simp only [List.getElem?_toArray, List.getElem?_cons_zero, List.getElem?_cons_succ]; rfl
    case hQz169 => exact fun _ _ _ h => h
    case hyz169 => refine yields_loadP HB.out aggKey HL.out (Cm.root_at _) ?_ _ rfl rfl; rfl
    try simp only [Act.put, List.setIfInBounds_toArray, List.set_cons_zero, List.set_cons_succ]
    refine wpAnyH_take (i := 4) (oi := ?oiz170) (v := ?vz170) ?hiz170 (by kernel_rfl) (by kernel_rfl) (by kernel_rfl) ?hQz170 ?hyz170 (by assumption) ?restz170
    case hiz170 => simp only [List.getElem?_toArray, List.getElem?_cons_zero, List.getElem?_cons_succ]; rfl
    case hQz170 => exact fun _ _ _ h => h
    case hyz170 => exact Or.inl ⟨by rfl, by intro w hSw; (try dsimp only at hSw); go_simp; with_reducible rfl⟩
    try simp only [Act.put, List.setIfInBounds_toArray, List.set_cons_zero, List.set_cons_succ]
    refine wpAnyH_take (i := 5) (oi := ?oiz171) (v := ?vz171) ?hiz171 (by kernel_rfl) (by kernel_rfl) (by kernel_rfl) ?hQz171 ?hyz171 (by assumption) ?restz171
    case hiz171 => simp only [List.getElem?_toArray, List.getElem?_cons_zero, List.getElem?_cons_succ]; rfl
    case hQz171 => exact fun _ _ _ h => h
    case hyz171 => exact Or.inl ⟨by rfl, by intro w hSw; (try dsimp only at hSw); go_simp; with_reducible rfl⟩
    try simp only [Act.put, List.setIfInBounds_toArray, List.set_cons_zero, List.set_cons_succ]
    refine wpAnyH_take (i := 6) (oi := ?oiz172) (v := ?vz172) ?hiz172 (by kernel_rfl) (by kernel_rfl) (by kernel_rfl) ?hQz172 ?hyz172 (by assumption) ?restz172
    case hiz172 => simp only [List.getElem?_toArray, List.getElem?_cons_zero, List.getElem?_cons_succ]; rfl
    case hQz172 => exact fun _ _ _ h => h
    case hyz172 => exact Or.inl ⟨by rfl, by intro w hSw; (try dsimp only at hSw); go_simp; with_reducible rfl⟩
    try simp only [Act.put, List.setIfInBounds_toArray, List.set_cons_zero, List.set_cons_succ]
    refine wpAnyH_take (i := 7) (oi := ?oiz173) (v := (.agg (numsA .u8 y.root))) ?hiz173 (by kernel_rfl) (by kernel_rfl) (by kernel_rfl) ?hQz173 ?hyz173 (by assumption) ?restz173
    case hiz173 => simp only [List.getElem?_toArray, List.getElem?_cons_zero, List.getElem?_cons_succ]; rfl
    case hQz173 => exact fun _ _ _ h => h
    case hyz173 => refine yields_loadP HB'.out aggKey HL'.out (Cm.root_at _) ?_ _ rfl rfl; rfl
    try simp only [Act.put, List.setIfInBounds_toArray, List.set_cons_zero, List.set_cons_succ]
    refine wpAnyH_take (i := 8) (oi := ?oiz174) (v := ?vz174) ?hiz174 (by kernel_rfl) (by kernel_rfl) (by kernel_rfl) ?hQz174 ?hyz174 (by assumption) ?restz174
    case hiz174 => simp only [List.getElem?_toArray, List.getElem?_cons_zero, List.getElem?_cons_succ]; rfl
    case hQz174 => exact fun _ _ _ h => h
    case hyz174 => exact Or.inl ⟨by rfl, by intro w hSw; (try dsimp only at hSw); go_simp; with_reducible rfl⟩
    try simp only [Act.put, List.setIfInBounds_toArray, List.set_cons_zero, List.set_cons_succ]
    refine wpAnyH_take (i := 9) (oi := ?oiz175) (v := ?vz175) ?hiz175 (by kernel_rfl) (by kernel_rfl) (by kernel_rfl) ?hQz175 ?hyz175 (by assumption) ?restz175
    case hiz175 => simp only [List.getElem?_toArray, List.getElem?_cons_zero, List.getElem?_cons_succ]; rfl
    case hQz175 => exact fun _ _ _ h => h
    case hyz175 => exact Or.inl ⟨by rfl, by intro w hSw; (try dsimp only at hSw); go_simp; with_reducible rfl⟩
    try simp only [Act.put, List.setIfInBounds_toArray, List.set_cons_zero, List.set_cons_succ]
    refine wpAnyH_take (i := 10) (oi := ?oiz176) (v := ?vz176) ?hiz176 (by kernel_rfl) (by kernel_rfl) (by kernel_rfl) ?hQz176 ?hyz176 (by assumption) ?restz176
    case hiz176 => simp only [List.getElem?_toArray, List.getElem?_cons_zero, List.getElem?_cons_succ]; rfl
    case hQz176 => exact fun _ _ _ h => h
    case hyz176 => exact Or.inl ⟨by rfl, by intro w hSw; (try dsimp only at hSw); go_simp; with_reducible rfl⟩
    try simp only [Act.put, List.setIfInBounds_toArray, List.set_cons_zero, List.set_cons_succ]
    refine wpAnyH_take (i := 11) (oi := ?oiz177) (v := ?vz177) ?hiz177 (by kernel_rfl) (by kernel_rfl) (by kernel_rfl) ?hQz177 ?hyz177 (by assumption) ?restz177
    case hiz177 => simp only [List.getElem?_toArray, List.getElem?_cons_zero, List.getElem?_cons_succ]; rfl
    case hQz177 => exact fun _ _ _ h => h
    case hyz177 => exact Or.inl ⟨by rfl, by intro w hSw; (try dsimp only at hSw); go_simp; with_reducible rfl⟩
    try simp only [Act.put, List.setIfInBounds_toArray, List.set_cons_zero, List.set_cons_succ]
    refine wpAnyH_take (i := 12) (oi := ?oiz178) (v := ?vz178) ?hiz178 (by kernel_rfl) (by kernel_rfl) (by kernel_rfl) ?hQz178 ?hyz178 (by assumption) ?restz178
    case hiz178 => simp only [List.getElem?_toArray, List.getElem?_cons_zero, List.getElem?_cons_succ]; rfl
    case hQz178 => exact fun _ _ _ h => h
    case hyz178 => exact Or.inl ⟨by rfl, by intro w hSw; (try dsimp only at hSw); go_simp; with_reducible rfl⟩
    try simp only [Act.put, List.setIfInBounds_toArray, List.set_cons_zero, List.set_cons_succ]
    refine wpAnyH_take (i := 13) (oi := ?oiz179) (v := ?vz179) ?hiz179 (by kernel_rfl) (by kernel_rfl) (by kernel_rfl) ?hQz179 ?hyz179 (by assumption) ?restz179
    case hiz179 => simp only [List.getElem?_toArray, List.getElem?_cons_zero, List.getElem?_cons_succ]; rfl
    case hQz179 => exact fun _ _ _ h => h
    case hyz179 => exact Or.inl ⟨by rfl, by intro w hSw; (try dsimp only at hSw); go_simp; with_reducible rfl⟩
    try simp only [Act.put, List.setIfInBounds_toArray, List.set_cons_zero, List.set_cons_succ]
    refine wpAnyH_take (i := 14) (oi := ?oiz180) (v := ?vz180) ?hiz180 (by kernel_rfl) (by kernel_rfl) (by kernel_rfl) ?hQz180 ?hyz180 (by assumption) ?restz180
    case hiz180 => simp only [List.getElem?_toArray, List.getElem?_cons_zero, List.getElem?_cons_succ]; rfl
    case hQz180 => exact fun _ _ _ h => h
    case hyz180 => exact Or.inl ⟨by rfl, by intro w hSw; (try dsimp only at hSw); go_simp; with_reducible rfl⟩
    try simp only [Act.put, List.setIfInBounds_toArray, List.set_cons_zero, List.set_cons_succ]
    refine wpAnyH_take (i := 15) (oi := ?oiz181) (v := ?vz181) ?hiz181 (by kernel_rfl) (by kernel_rfl) (by kernel_rfl) ?hQz181 ?hyz181 (by assumption) ?restz181
    case hiz181 => simp only [List.getElem?_toArray, List.getElem?_cons_zero, List.getElem?_cons_succ]; rfl
    case hQz181 => exact fun _ _ _ h => h
    case hyz181 => exact Or.inl ⟨by rfl, by intro w hSw; (try dsimp only at hSw); go_simp; with_reducible rfl⟩
    try simp only [Act.put, List.setIfInBounds_toArray, List.set_cons_zero, List.set_cons_succ]
    refine wpAnyH_take (i := 16) (oi := ?oiz182) (v := ?vz182) ?hiz182 (by kernel_rfl) (by kernel_rfl) (by kernel_rfl) ?hQz182 ?hyz182 (by assumption) ?restz182
    case hiz182 => simp only [List.getElem?_toArray, List.getElem?_cons_zero, List.getElem?_cons_succ]; rfl
    case hQz182 => exact fun _ _ _ h => h
    case hyz182 => exact Or.inl ⟨by rfl, by intro w hSw; (try dsimp only at hSw); go_simp; with_reducible rfl⟩
    try simp only [Act.put, List.setIfInBounds_toArray, List.set_cons_zero, List.set_cons_succ]
    refine wpAnyH_take (i := 17) (oi := ?oiz183) (v := ?vz183) ?hiz183 (by kernel_rfl) (by kernel_rfl) (by kernel_rfl) ?hQz183 ?hyz183 (by assumption) ?restz183
    case hiz183 => simp only [List.getElem?_toArray, List.getElem?_cons_zero, List.getElem?_cons_succ]; rfl
    case hQz183 => exact fun _ _ _ h => h
    case hyz183 => exact Or.inl ⟨by rfl, by intro w hSw; (try dsimp only at hSw); go_simp; with_reducible rfl⟩
    try simp only [Act.put, List.setIfInBounds_toArray, List.set_cons_zero, List.set_cons_succ]
    refine wpAnyH_ready (rs := [18]) (by kernel_rfl) (by simp) (AllReadyH.cons (o := ?oy18418) ?hy18418 (fun K hK => ?sy18418) AllReadyH.nil)
    case hy18418 => simp only [List.getElem?_toArray, List.getElem?_cons_zero, List.getElem?_cons_succ]; rfl
    go_simp
    refine (hls _ (H.out.ext (by decide) hHeld) (H'.out.ext (by decide) hHeld)).mono ?_
    rintro e w1 ⟨rfl, hx⟩
    have hH2 := hHeld.trans hx
    refine hK.out _ _ hH2 (fun _ => ?_)
    clear hHeld hK K
    have hHeld := hH2
    clear hH2
    try simp only [Act.put, List.setIfInBounds_toArray, List.set_cons_zero, List.set_cons_succ]
    refine wpAnyH_take (i := 19) (oi := ?oiz185) (v := ?vz185) ?hiz185 (by kernel_rfl) (by kernel_rfl) (by kernel_rfl) ?hQz185 ?hyz185 (by assumption) ?restz185
    case hiz185 => simp only [List.getElem?_toArray, List.getElem?_cons_zero, List.getElem?_cons_succ]; rfl
    case hQz185 => exact fun _ _ _ h => h
    case hyz185 => exact Or.inl ⟨by rfl, by intro w hSw; (try dsimp only at hSw); go_simp; with_reducible rfl⟩
    try simp only [Act.put, List.setIfInBounds_toArray, List.set_cons_zero, List.set_cons_succ]
    refine wpAnyH_take (i := 20) (oi := ?oiz186) (v := ?vz186) ?hiz186 (by kernel_rfl) (by kernel_rfl) (by kernel_rfl) ?hQz186 ?hyz186 (by assumption) ?restz186
    case hiz186 => simp only [List.getElem?_toArray, List.getElem?_cons_zero, List.getElem?_cons_succ]; rfl
    case hQz186 => exact fun _ _ _ h => h
    case hyz186 => exact Or.inl ⟨by rfl, by intro w hSw; (try dsimp only at hSw); go_simp; with_reducible rfl⟩
    try simp only [Act.put, List.setIfInBounds_toArray, List.set_cons_zero, List.set_cons_succ]
    refine wpAnyH_take (i := 21) (oi := ?oiz187) (v := ?vz187) ?hiz187 (by kernel_rfl) (by kernel_rfl) (by kernel_rfl) ?hQz187 ?hyz187 (by assumption) ?restz187
    case hiz187 => simp only [List.getElem?_toArray, List.getElem?_cons_zero, List.getElem?_cons_succ]; rfl
    case hQz187 => exact fun _ _ _ h => h
    case hyz187 => exact Or.inl ⟨by rfl, by intro w hSw; (try dsimp only at hSw); go_simp; with_reducible rfl⟩
    try simp only [Act.put, List.setIfInBounds_toArray, List.set_cons_zero, List.set_cons_succ]
    refine wpAnyH_take (i := 22) (oi := ?oiz188) (v := ?vz188) ?hiz188 (by kernel_rfl) (by kernel_rfl) (by kernel_rfl) ?hQz188 ?hyz188 (by assumption) ?restz188
    case hiz188 => simp only [List.getElem?_toArray, List.getElem?_cons_zero, List.getElem?_cons_succ]; rfl
    case hQz188 => exact fun _ _ _ h => h
    case hyz188 => exact Or.inl ⟨by rfl, by intro w hSw; (try dsimp only at hSw); go_simp; with_reducible rfl⟩
    try simp only [Act.put, List.setIfInBounds_toArray, List.set_cons_zero, List.set_cons_succ]
    refine wpAnyH_take (i := 23) (oi := ?oiz189) (v := ?vz189) ?hiz189 (by kernel_rfl) (by kernel_rfl) (by kernel_rfl) ?hQz189 ?hyz189 (by assumption) ?restz189
    case hiz189 => simp only [List.getElem?_toArray, List.getElem?_cons_zero, List.getElem?_cons_succ]; rfl
    case hQz189 => exact fun _ _ _ h => h
    case hyz189 => exact Or.inl ⟨by rfl, by intro w hSw; (try dsimp only at hSw); go_simp; with_reducible rfl⟩
    try simp only [Act.put, List.setIfInBounds_toArray, List.set_cons_zero, List.set_cons_succ]
    refine wpAnyH_take (i := 24) (oi := ?oiz190) (v := ?vz190) ?hiz190 (by kernel_rfl) (by kernel_rfl) (by kernel_rfl) ?hQz190 ?hyz190 (by assumption) ?restz190
    case hiz190 => simp only [List.getElem?_toArray, List.getElem?_cons_zero, List.getElem?_cons_succ]; rfl
    case hQz190 => exact fun _ _ _ h => h
    case hyz190 => exact Or.inl ⟨by rfl, by intro w hSw; (try dsimp only at hSw); go_simp; with_reducible rfl⟩
    try simp only [Act.put, List.setIfInBounds_toArray, List.set_cons_zero, List.set_cons_succ]
    refine wpAnyH_take (i := 25) (oi := ?oiz191) (v := ?vz191) ?hiz191 (by kernel_rfl) (by kernel_rfl) (by kernel_rfl) ?hQz191 ?hyz191 (by assumption) ?restz191
    case hiz191 => simp only [List.getElem?_toArray, List.getElem?_cons_zero, List.getElem?_cons_succ]; rfl
    case hQz191 => exact fun _ _ _ h => h
    case hyz191 => exact Or.inl ⟨by rfl, by intro w hSw; (try dsimp only at hSw); go_simp; with_reducible rfl⟩
    try simp only [Act.put, List.setIfInBounds_toArray, List.set_cons_zero, List.set_cons_succ]
    refine wpAnyH_take (i := 26) (oi := ?oiz192) (v := ?vz192) ?hiz192 (by kernel_rfl) (by kernel_rfl) (by kernel_rfl) ?hQz192 ?hyz192 (by assumption) ?restz192
    case hiz192 => simp only [List.getElem?_toArray, List.getElem?_cons_zero, List.getElem?_cons_succ]; rfl
    case hQz192 => exact fun _ _ _ h => h
    case hyz192 => exact Or.inl ⟨by rfl, by intro w hSw; (try dsimp only at hSw); go_simp; with_reducible rfl⟩
    try simp only [Act.put, List.setIfInBounds_toArray, List.set_cons_zero, List.set_cons_succ]
    refine wpAnyH_take (i := 27) (oi := ?oiz193) (v := ?vz193) ?hiz193 (by kernel_rfl) (by kernel_rfl) (by kernel_rfl) ?hQz193 ?hyz193 (by assumption) ?restz193
    case hiz193 => simp only [List.getElem?_toArray, List.getElem?_cons_zero, List.getElem?_cons_succ]; rfl
    case hQz193 => exact fun _ _ _ h => h
    case hyz193 => exact Or.inl ⟨by rfl, by intro w hSw; (try dsimp only at hSw); go_simp; with_reducible rfl⟩
    try simp only [Act.put, List.setIfInBounds_toArray, List.set_cons_zero, List.set_cons_succ]
    refine wpAnyH_take (i := 28) (oi := ?oiz194) (v := ?vz194) ?hiz194 (by kernel_rfl) (by kernel_rfl) (by kernel_rfl) ?hQz194 ?hyz194 (by assumption) ?restz194
    case hiz194 => simp only [List.getElem?_toArray, List.getElem?_cons_zero, List.getElem?_cons_succ]; rfl
    case hQz194 => exact fun _ _ _ h => h
    case hyz194 => exact Or.inl ⟨by rfl, by intro w hSw; (try dsimp only at hSw); go_simp; with_reducible rfl⟩
    try simp only [Act.put, List.setIfInBounds_toArray, List.set_cons_zero, List.set_cons_succ]
    refine wpAnyH_take (i := 29) (oi := ?oiz195) (v := ?vz195) ?hiz195 (by kernel_rfl) (by kernel_rfl) (by kernel_rfl) ?hQz195 ?hyz195 (by assumption) ?restz195
    case hiz195 => simp only [List.getElem?_toArray, List.getElem?_cons_zero, List.getElem?_cons_succ]; rfl
    case hQz195 => exact fun _ _ _ h => h
    case hyz195 => exact Or.inl ⟨by rfl, by intro w hSw; (try dsimp only at hSw); go_simp; with_reducible rfl⟩
    try simp only [Act.put, List.setIfInBounds_toArray, List.set_cons_zero, List.set_cons_succ]
    refine wpAnyH_take (i := 30) (oi := ?oiz196) (v := ?vz196) ?hiz196 (by kernel_rfl) (by kernel_rfl) (by kernel_rfl) ?hQz196 ?hyz196 (by assumption) ?restz196
    case hiz196 => simp only [List.getElem?_toArray, List.getElem?_cons_zero, List.getElem?_cons_succ]; rfl
    case hQz196 => exact fun _ _ _ h => h
    case hyz196 => exact Or.inl ⟨by rfl, by intro w hSw; (try dsimp only at hSw); go_simp; with_reducible rfl⟩
    try simp only [Act.put, List.setIfInBounds_toArray, List.set_cons_zero, List.set_cons_succ]
    refine wpAnyH_take (i := 31) (oi := ?oiz197) (v := ?vz197) ?hiz197 (by kernel_rfl) (by kernel_rfl) (by kernel_rfl) ?hQz197 ?hyz197 (by assumption) ?restz197
    case hiz197 => simp only [List.getElem?_toArray, List.getElem?_cons_zero, List.getElem?_cons_succ]; rfl
    case hQz197 => exact fun _ _ _ h => h
    case hyz197 => exact Or.inl ⟨by rfl, by intro w hSw; (try dsimp only at hSw); go_simp; with_reducible rfl⟩
    try simp only [Act.put, List.setIfInBounds_toArray, List.set_cons_zero, List.set_cons_succ]
    refine wpAnyH_take (i := 32) (oi := ?oiz198) (v := ?vz198) ?hiz198 (by kernel_rfl) (by kernel_rfl) (by kernel_rfl) ?hQz198 ?hyz198 (by assumption) ?restz198
    case hiz198 => simp only [List.getElem?_toArray, List.getElem?_cons_zero, List.getElem?_cons_succ]; rfl
    case hQz198 => exact fun _ _ _ h => h
    case hyz198 => exact Or.inl ⟨by rfl, by intro w hSw; (try dsimp only at hSw); go_simp; with_reducible rfl⟩
    try simp only [Act.put, List.setIfInBounds_toArray, List.set_cons_zero, List.set_cons_succ]
    refine wpAnyH_take (i := 33) (oi := ?oiz199) (v := ?vz199) ?hiz199 (by kernel_rfl) (by kernel_rfl) (by kernel_rfl) ?hQz199 ?hyz199 (by assumption) ?restz199
    case hiz199 => simp only [List.getElem?_toArray, List.getElem?_cons_zero, List.getElem?_cons_succ]; rfl
    case hQz199 => exact fun _ _ _ h => h
    case hyz199 => exact Or.inl ⟨by rfl, by intro w hSw; (try dsimp only at hSw); go_simp; with_reducible rfl⟩
    try simp only [Act.put, List.setIfInBounds_toArray, List.set_cons_zero, List.set_cons_succ]
    refine wpAnyH_take (i := 34) (oi := ?oiz200) (v := ?vz200) ?hiz200 (by kernel_rfl) (by kernel_rfl) (by kernel_rfl) ?hQz200 ?hyz200 (by assumption) ?restz200
    case hiz200 => simp only [List.getElem?_toArray, List.getElem?_cons_zero, List.getElem?_cons_succ]; rfl
    case hQz200 => exact fun _ _ _ h => h
    case hyz200 => exact Or.inl ⟨by rfl, by intro w hSw; (try dsimp only at hSw); go_simp; with_reducible rfl⟩
    try simp only [Act.put, List.setIfInBounds_toArray, List.set_cons_zero, List.set_cons_succ]
    refine wpAnyH_take (i := 35) (oi := ?oiz201) (v := ?vz201) ?hiz201 (by kernel_rfl) (by kernel_rfl) (by kernel_rfl) ?hQz201 ?hyz201 (by assumption) ?restz201
    case hiz201 => simp only [List.getElem?_toArray, List.getElem?_cons_zero, List.getElem?_cons_succ]; rfl
    case hQz201 => exact fun _ _ _ h => h
    case hyz201 => exact Or.inl ⟨by rfl, by intro w hSw; (try dsimp only at hSw); go_simp; with_reducible rfl⟩
    try simp only [Act.put, List.setIfInBounds_toArray, List.set_cons_zero, List.set_cons_succ]
    refine wpAnyH_take (i := 36) (oi := ?oiz202) (v := ?vz202) ?hiz202 (by kernel_rfl) (by kernel_rfl) (by kernel_rfl) ?hQz202 ?hyz202 (by assumption) ?restz202
    case hiz202 => simp only [List.getElem?_toArray, List.getElem?_cons_zero, List.getElem?_cons_succ]; rfl
    case hQz202 => exact fun _ _ _ h => h
    case hyz202 => exact Or.inl ⟨by rfl, by intro w hSw; (try dsimp only at hSw); go_simp; with_reducible rfl⟩
    try simp only [Act.put, List.setIfInBounds_toArray, List.set_cons_zero, List.set_cons_succ]
    refine wpAnyH_take (i := 37) (oi := ?oiz203) (v := ?vz203) ?hiz203 (by kernel_rfl) (by kernel_rfl) (by kernel_rfl) ?hQz203 ?hyz203 (by assumption) ?restz203
    case hiz203 => simp only [List.getElem?_toArray, List.getElem?_cons_zero, List.getElem?_cons_succ]; rfl
    case hQz203 => exact fun _ _ _ h => h
    case hyz203 => exact Or.inl ⟨by rfl, by intro w hSw; (try dsimp only at hSw); go_simp; with_reducible rfl⟩
    try simp only [Act.put, List.setIfInBounds_toArray, List.set_cons_zero, List.set_cons_succ]
    refine wpAnyH_take (i := 38) (oi := ?oiz204) (v := ?vz204) ?hiz204 (by kernel_rfl) (by kernel_rfl) (by kernel_rfl) ?hQz204 ?hyz204 (by assumption) ?restz204
    case hiz204 => simp only [List.getElem?_toArray, List.getElem?_cons_zero, List.getElem?_cons_succ]; rfl
    case hQz204 => exact fun _ _ _ h => h
    case hyz204 => exact Or.inl ⟨by rfl, by intro w hSw; (try dsimp only at hSw); go_simp; with_reducible rfl⟩
    try simp only [Act.put, List.setIfInBounds_toArray, List.set_cons_zero, List.set_cons_succ]
    refine wpAnyH_take (i := 39) (oi := ?oiz205) (v := ?vz205) ?hiz205 (by kernel_rfl) (by kernel_rfl) (by kernel_rfl) ?hQz205 ?hyz205 (by assumption) ?restz205
    case hiz205 => simp only [List.getElem?_toArray, List.getElem?_cons_zero, List.getElem?_cons_succ]; rfl
    case hQz205 => exact fun _ _ _ h => h
    case hyz205 => exact Or.inl ⟨by rfl, by intro w hSw; (try dsimp only at hSw); go_simp; with_reducible rfl⟩
    try simp only [Act.put, List.setIfInBounds_toArray, List.set_cons_zero, List.set_cons_succ]
    refine wpAnyH_take (i := 40) (oi := ?oiz206) (v := ?vz206) ?hiz206 (by kernel_rfl) (by kernel_rfl) (by kernel_rfl) ?hQz206 ?hyz206 (by assumption) ?restz206
    case hiz206 => simp only [List.getElem?_toArray, List.getElem?_cons_zero, List.getElem?_cons_succ]; rfl
    case hQz206 => exact fun _ _ _ h => h
    case hyz206 => exact Or.inl ⟨by rfl, by intro w hSw; (try dsimp only at hSw); go_simp; with_reducible rfl⟩
    try simp only [Act.put, List.setIfInBounds_toArray, List.set_cons_zero, List.set_cons_succ]
    refine wpAnyH_take (i := 41) (oi := ?oiz207) (v := ?vz207) ?hiz207 (by kernel_rfl) (by kernel_rfl) (by kernel_rfl) ?hQz207 ?hyz207 (by assumption) ?restz207
    case hiz207 => simp only [List.getElem?_toArray, List.getElem?_cons_zero, List.getElem?_cons_succ]; rfl
    case hQz207 => exact fun _ _ _ h => h
    case hyz207 => exact Or.inl ⟨by rfl, by intro w hSw; (try dsimp only at hSw); go_simp; with_reducible rfl⟩
    try simp only [Act.put, List.setIfInBounds_toArray, List.set_cons_zero, List.set_cons_succ]
    refine wpAnyH_take (i := 42) (oi := ?oiz208) (v := ?vz208) ?hiz208 (by kernel_rfl) (by kernel_rfl) (by kernel_rfl) ?hQz208 ?hyz208 (by assumption) ?restz208
    case hiz208 => simp only [List.getElem?_toArray, List.getElem?_cons_zero, List.getElem?_cons_succ]; rfl
    case hQz208 => exact fun _ _ _ h => h
    case hyz208 => exact Or.inl ⟨by rfl, by intro w hSw; (try dsimp only at hSw); go_simp; with_reducible rfl⟩
    try simp only [Act.put, List.setIfInBounds_toArray, List.set_cons_zero, List.set_cons_succ]
    refine wpAnyH_done (by kernel_rfl) ?_ _
    have XW := Lib.hid hHeld
    clear hHeld
    go_wp2
    go_ret
    exact ⟨by rw [HE.out, decide_eq_true E1.out, decide_eq_true E2.out, E3.out, Bool.true_and, Bool.true_and, Bool.true_and]; rfl, XW.out⟩
attribute [local irreducible] Blk in
set_option maxHeartbeats 1000000 in
set_option maxRecDepth 100000 in
theorem implSameCommit_u (cs cs' : Array Value) (x y : Cm) (w : World) (S S' : Nat → Prop) (h : RCommit w S cs x) (h' : RCommit w S' cs' y) :
    Calls Try.prog 67 #[.agg cs, .agg cs'] w fun e w' => e = .returned (.bool (sameCm x y)) ∧ Ext w w' := by
  obtain ⟨v, rfl, hr, hroot, hnum, hnote⟩ := h
  obtain ⟨v', rfl, hr', hroot', hnum', hnote'⟩ := h'
  obtain ⟨A, cap, rfl, _⟩ := id hr
  obtain ⟨A', cap', rfl, _⟩ := id hr'
  have H := Lib.hid hr
  have H' := Lib.hid hr'
  have HL := Lib.hid (sizeN (k := .u8) hroot.1)
  have HL' := Lib.hid (sizeN (k := .u8) hroot'.1)
  have HAT := Lib.hid (Cm.at_ hroot (.slice A x.par.length cap))
  have HAT' := Lib.hid (Cm.at_ hroot' (.slice A' y.par.length cap'))
  have HE := Lib.hid (sameCm_eq x y)
  have heq := run_eqKey x.root y.root hroot hroot'
  have B0 := Lib.hid ((Blk.new w 43 (x.cells (.slice A x.par.length cap))).alloc (.cells (y.cells (.slice A' y.par.length cap')) 43))
  have B1 := Lib.hid (Blk.new' (g := w.heap.size + 1) (w := w.alloc (.cells (x.cells (.slice A x.par.length cap)) 43)) (by simp) 43 (y.cells (.slice A' y.par.length cap')))
  have c0 := B0.out.at_ 32 HAT.out.1
  have c1 := B1.out.at_ 32 HAT'.out.1
  have HW := Lib.hid ((ext_alloc w (.cells (x.cells (.slice A x.par.length cap)) 43)).alloc (.cells (y.cells (.slice A' y.par.length cap')) 43))
  clear hr hr' hroot hroot'
  have hls := fun W (h1 : RdL tKey W S (.slice A x.par.length cap) x.par) (h2 : RdL tKey W S' (.slice A' y.par.length cap') y.par) => slEqualKey_any _ _ x.par y.par W S S' h1 h2
  by_cases e1 : x.root = y.root
  rotate_left
  · have E1 := Lib.hid e1
    simp only [decide_eq_false e1] at heq
    clear e1
    go_enter Try.func67, Try.ntmps67
    go_wp2_with (first
      | (refine wpl_loadP (off := 0) (sub := numsA .u8 x.root) B0.out aggKey HL.out (Cm.root_at _) rfl _ rfl rfl ?_)
      | (refine wpl_loadP (off := 0) (sub := numsA .u8 y.root) B1.out aggKey HL'.out (Cm.root_at _) rfl _ rfl rfl ?_))
    go_ret
    exact ⟨by rw [HE.out, decide_eq_false E1.out]; rfl, HW.out⟩
  have E1 := Lib.hid e1
  simp only [decide_eq_true e1] at heq
  clear e1
  by_cases e2 : x.par = y.par
  rotate_left
  · have E2 := Lib.hid e2
    simp only [decide_eq_false e2] at hls
    clear e2
    go_enter Try.func67, Try.ntmps67
    go_wp2_with (first
      | (refine wpl_loadP (off := 0) (sub := numsA .u8 x.root) B0.out aggKey HL.out (Cm.root_at _) rfl _ rfl rfl ?_)
      | (refine wpl_loadP (off := 0) (sub := numsA .u8 y.root) B1.out aggKey HL'.out (Cm.root_at _) rfl _ rfl rfl ?_))
    refine (hls _ (H.out.ext (by decide) HW.out) (H'.out.ext (by decide) HW.out)).mono ?_
    rintro e w1 ⟨rfl, hx⟩
    have XW := Lib.hid (HW.out.trans hx)
    clear hx
    go_wp2
    go_ret
    exact ⟨by rw [HE.out, decide_eq_false E2.out, Bool.false_and, Bool.and_false]; rfl, XW.out⟩
  have E2 := Lib.hid e2
  simp only [decide_eq_true e2] at hls
  clear e2
  cases e3 : (x.num == y.num) with
  | false =>
    have E3 := Lib.hid e3
    go_enter Try.func67, Try.ntmps67
    go_wp2_with (first
      | (refine wpl_loadP (off := 0) (sub := numsA .u8 x.root) B0.out aggKey HL.out (Cm.root_at _) rfl _ rfl rfl ?_)
      | (refine wpl_loadP (off := 0) (sub := numsA .u8 y.root) B1.out aggKey HL'.out (Cm.root_at _) rfl _ rfl rfl ?_))
    refine (hls _ (H.out.ext (by decide) HW.out) (H'.out.ext (by decide) HW.out)).mono ?_
    rintro e w1 ⟨rfl, hx⟩
    have d0 := (B0.out.ext hx).at_ 33 HAT.out.2.1
    have d1 := (B1.out.ext hx).at_ 33 HAT'.out.2.1
    have XW := Lib.hid (HW.out.trans hx)
    clear hx
    go_wp2
    go_ret
    exact ⟨by rw [HE.out, E3.out, Bool.false_and, Bool.and_false, Bool.and_false]; rfl, XW.out⟩
  | true =>
    have E3 := Lib.hid e3
    go_enter Try.func67, Try.ntmps67
    go_wp2_with (first
      | (refine wpl_loadP (off := 0) (sub := numsA .u8 x.root) B0.out aggKey HL.out (Cm.root_at _) rfl _ rfl rfl ?_)
      | (refine wpl_loadP (off := 0) (sub := numsA .u8 y.root) B1.out aggKey HL'.out (Cm.root_at _) rfl _ rfl rfl ?_))
    refine (hls _ (H.out.ext (by decide) HW.out) (H'.out.ext (by decide) HW.out)).mono ?_
    rintro e w1 ⟨rfl, hx⟩
    have d0 := (B0.out.ext hx).at_ 33 HAT.out.2.1
    have d1 := (B1.out.ext hx).at_ 33 HAT'.out.2.1
    have d2 := (B0.out.ext hx).at_ 34 HAT.out.2.2
    have d3 := (B1.out.ext hx).at_ 34 HAT'.out.2.2
    have XW := Lib.hid (HW.out.trans hx)
    clear hx
    go_wp2
    go_ret
    exact ⟨by rw [HE.out, decide_eq_true E1.out, decide_eq_true E2.out, E3.out, Bool.true_and, Bool.true_and, Bool.true_and]; rfl, XW.out⟩

end Go.Proofs.Yteegnbdgfedajaa
/- Entries held against each other by == and != (without nodes). No condition. -/
namespace Go.Proofs.Yteegnbdgfedajaa
open Go.RowKit
set_option linter.unusedVariables false
set_option linter.unusedSimpArgs false

theorem toList_inj7 {a b : ByteArray} (h : a.toList = b.toList) : a = b := by
  rw [ByteArray.toList_eq, ByteArray.toList_eq] at h
  exact ByteArray.ext (Array.toList_inj.1 h)
theorem part_one7 (t : Nat) (cs : Array Value) (off : Nat) (v : Value) (W : World) (h1 : (isAgg t).run Try.prog W = .ok false W) (h2 : cs[off]? = some v) : (part t cs off).run Try.prog W = .ok v W := by
  unfold part
  simp only [Sem.run_bind, h1, Result.andThen_ok, Bool.false_eq_true, if_false, h2, Sem.run_pure]
theorem eqF_cons7 {d : Nat} {xs ys : Array Value} {f : Field} {fs : List Field} {a b : Value} {r : Bool} {P : Program} (w : World) (hn : f.name ≠ "_") (ha : (part f.type xs f.offset).run P w = .ok a w) (hb : (part f.type ys f.offset).run P w = .ok b w) (hr : (Op.equalIn d f.type a b).run P w = .ok r w) :
    (Op.eqFields d xs ys (f :: fs)).run P w = if r then (Op.eqFields d xs ys fs).run P w else .ok false w := by
  rw [Op.eqFields, if_pos hn]
  simp only [Sem.run_bind, ha, hb, hr, Result.andThen_ok, Sem.run_ite, Sem.run_pure]
  cases r <;> simp
theorem eqF_nil7 {P : Program} (w : World) {d : Nat} {xs ys : Array Value} : (Op.eqFields d xs ys []).run P w = .ok true w := by simp [Op.eqFields]
theorem fieldsEn7 : ∃ f0 f1 : Field, (Try.prog.fieldsOf 124).toList = [f0, f1] ∧ (f0.name ≠ "_" ∧ f0.type = 9 ∧ f0.offset = 0) ∧ (f1.name ≠ "_" ∧ f1.type = 9 ∧ f1.offset = 1) := by
  simp only [Program.fieldsOf, Try.underlying124]
  exact ⟨_, _, rfl, ⟨by decide, rfl, rfl⟩, by decide, rfl, rfl⟩
theorem run_equalEn7 (d : Nat) (a b : En) (W : World) : (Op.equalIn (d + 1 + 1) 124 (.agg #[.string a.1, .string a.2]) (.agg #[.string b.1, .string b.2])).run Try.prog W = .ok (decide (a = b)) W := by
  rw [run_equalIn_agg (P := Try.prog) W (d + 1) 124 _ _ (by kernel_rfl) (by kernel_rfl)]
  obtain ⟨f0, f1, e, ⟨n0, t0, o0⟩, n1, t1, o1⟩ := fieldsEn7
  have s0 := part_one7 9 #[.string a.1, .string a.2] 0 (.string a.1) W (by kernel_rfl) rfl
  have s1 := part_one7 9 #[.string b.1, .string b.2] 0 (.string b.1) W (by kernel_rfl) rfl
  have s2 := part_one7 9 #[.string a.1, .string a.2] 1 (.string a.2) W (by kernel_rfl) rfl
  have s3 := part_one7 9 #[.string b.1, .string b.2] 1 (.string b.2) W (by kernel_rfl) rfl
  have q0 := run_equalIn_string (P := Try.prog) W d 9 a.1 b.1 (by kernel_rfl)
  have q1 := run_equalIn_string (P := Try.prog) W d 9 a.2 b.2 (by kernel_rfl)
  rw [← t0] at s0 s1 q0
  rw [← t1] at s2 s3 q1
  rw [← o0] at s0 s1
  rw [← o1] at s2 s3
  rw [e, eqF_cons7 W n0 s0 s1 q0, eqF_cons7 W n1 s2 s3 q1, eqF_nil7]
  obtain ⟨a1, a2⟩ := a
  obtain ⟨b1, b2⟩ := b
  by_cases h1 : a1 = b1
  · subst h1
    by_cases h2 : a2 = b2
    · subst h2; simp
    · have h3 : (a2.toList == b2.toList) = false := by rw [beq_eq_false_iff_ne]; exact fun e => h2 (toList_inj7 e)
      simp [h2, h3]
  · have h3 : (a1.toList == b1.toList) = false := by rw [beq_eq_false_iff_ne]; exact fun e => h1 (toList_inj7 e)
    simp [h1, h3]
theorem yields_loadS7 {P : Program} {ops : Array Oper} {op : Oper} {a : Act} {S : World → Prop} {t : Nat} (g o : Nat) (cs : List Value) (ht : Agg P t cs.length) (hc : ∀ W, S W → ∀ j u, cs[j]? = some u → W.cell? ⟨g, o + j, none⟩ = some u) (hw : Region.wanted op (yielded ops a.tmps) = true) (x : Operand) (ho : op.op = .load t x) (hx : a.eval x = .pointer (some ⟨g, o, none⟩)) :
    YieldsIf P ops S op (.agg cs.toArray) a := Or.inl ⟨hw, fun W hW => by
  have hl := run_loadVar_at (P := P) (w := W) (t := t) ⟨g, o, none⟩ cs ht (fun j u hu => by rw [Addr.add_lit]; exact hc W hW j u hu)
  unfold execOp
  simp only [ho, hx, Instr.loadAt, Instr.sureAddr, Sem.run_bind, Sem.run_pure, Result.andThen_ok, hl]⟩
theorem run_neqEn7 (x y : En) (hx : tEnt.ok x) (hy : tEnt.ok y) (W : World) : (binOp .neq 124 (.agg (tEnt.enc x).toArray) (.agg (tEnt.enc y).toArray)).run Try.prog W = .ok (.bool (!decide (x = y))) W := by
  show (binOp .neq 124 (.agg #[.string x.1, .string x.2]) (.agg #[.string y.1, .string y.2])).run Try.prog W = _
  rw [run_neq_struct, show (10000 : Nat) = 9998 + 1 + 1 from rfl, run_equalEn7 9998 x y W]; rfl
end Go.Proofs.Yteegnbdgfedajaa
/- Equal maps. No condition. -/
namespace Go.Proofs.Yteegnbdgfedajaa
open Go.RowKit
set_option linter.unusedVariables false
set_option linter.unusedSimpArgs false

set_option maxHeartbeats 1000000 in
set_option maxRecDepth 100000 in
theorem slEqualEnt_any (v u : Value) (xs ys : List En) (w : World) (S S' : Nat → Prop) (h : RdL tEnt w S v xs) (h' : RdL tEnt w S' u ys) :
    Calls Try.prog 94 #[v, u] w fun e w' => e = .returned (.bool (decide (xs = ys))) ∧ Ext w w' := by
  obtain ⟨A, cap, rfl, hcap, hlen, hrd, hok⟩ := h
  obtain ⟨A', cap', rfl, hcap', hlen', hrd', hok'⟩ := h'
  have Hrd := Lib.hid hrd
  have Hrd' := Lib.hid hrd'
  have Hok := Lib.hid hok
  have Hok' := Lib.hid hok'
  obtain ⟨R, hR⟩ : ∃ R, decide (xs = ys) = R := ⟨_, rfl⟩
  rw [hR]
  have HR := Lib.hid hR
  clear hrd hok hrd' hok' hR
  by_cases hl : xs.length = ys.length
  · have hl1 : ((xs.length : Int) != (ys.length : Int)) = false := by simp [hl]
    have HL := Lib.hid hl
    go_enter Try.func94, Try.ntmps94
    go_wp2
    go_loopw [13] (fun i wr => ∃ k : Nat, k ≤ xs.length ∧ i = .int .i64 k ∧ xs.take k = ys.take k ∧ Ext w wr) (fun i _ => xs.length - (intOf i).toNat)
    case atStart => exact ⟨0, by omega, rfl, by simp, Ext.refl _⟩
    case round =>
      obtain ⟨k, hk, rfl, ht, hx⟩ := hrel
      have HX := Lib.hid hx
      have HT := Lib.hid ht
      clear hx hl1 ht
      by_cases hlt : k < xs.length
      · have hlt' : k < ys.length := by have := HL.out; omega
        obtain ⟨g, o, rfl, hs, hc⟩ := Hrd.out.elem Hok.out k hlt
        obtain ⟨g2, o2, rfl, hs2, hc2⟩ := Hrd'.out.elem Hok'.out k hlt'
        have ht1 := List.take_succ_eq_append_getElem hlt
        have ht2 := List.take_succ_eq_append_getElem hlt'
        have hx0 : (tEnt).ok xs[k] := Hok.out _ (List.getElem_mem hlt)
        have hy0 : (tEnt).ok ys[k] := Hok'.out _ (List.getElem_mem hlt')
        have hD : ∀ W, Ext wr W → ∀ j u, ((tEnt).enc xs[k])[j]? = some u → W.cell? ⟨g, o + k * 2 + j, none⟩ = some u := fun W hW j u hu => hW.cell (HX.out.cell (hc j u hu))
        have hD2 : ∀ W, Ext wr W → ∀ j u, ((tEnt).enc ys[k])[j]? = some u → W.cell? ⟨g2, o2 + k * 2 + j, none⟩ = some u := fun W hW j u hu => hW.cell (HX.out.cell (hc2 j u hu))
        have hNE : xs[k] ≠ ys[k] → xs ≠ ys := fun hne e => hne (by have := congrArg (fun (l : List En) => l[k]?) e; simp only [List.getElem?_eq_getElem hlt, List.getElem?_eq_getElem hlt'] at this; exact Option.some.inj this)
        clear hc hc2
        generalize xs[k] = x at ht1 hx0 hD hNE
        generalize ys[k] = y at ht2 hy0 hD2 hNE
        have HD := Lib.hid hD
        have HD2 := Lib.hid hD2
        have HX0 := Lib.hid hx0
        have HY0 := Lib.hid hy0
        have HT1 := Lib.hid ht1
        have HT2 := Lib.hid ht2
        have hi : (0 : Int) ≤ (k : Int) := by omega
        have hi2 : (k : Int) < (xs.length : Int) := by omega
        have hi3 : (k : Int) < (ys.length : Int) := by omega
        have hq := run_neqEn7 x y HX0.out HY0.out
        clear hD hD2 hx0 hy0 ht1 ht2
        by_cases hxy : x = y
        · rw [decide_eq_true hxy] at hq
          have HXY := Lib.hid hxy
          clear hxy hNE
          go_wp2_with fail
          refine wp_region_held_drew (S := fun W => Ext wr W) (by kernel_rfl) (Ext.refl _).drew (fun hHeld => ?_)
          refine wpAnyH_take (i := 0) (oi := ?oiz1) (v := ?vz1) ?hiz1 (by kernel_rfl) (by kernel_rfl) (by kernel_rfl) ?hQz1 ?hyz1 (by assumption) ?restz1
          case hiz1 => simp only [List.getElem?_toArray, List.getElem?_cons_zero, List.getElem?_cons_succ]; rfl
          case hQz1 => exact fun _ _ _ h => h
          case hyz1 => exact Or.inl ⟨by rfl, by intro w hSw; (try dsimp only at hSw); go_simp; with_reducible rfl⟩
          try simp only [Act.put, List.setIfInBounds_toArray, List.set_cons_zero, List.set_cons_succ]
          refine wpAnyH_take (i := 1) (oi := ?oiz2) (v := ?vz2) ?hiz2 (by kernel_rfl) (by kernel_rfl) (by kernel_rfl) ?hQz2 ?hyz2 (by assumption) ?restz2
          case hiz2 => simp only [List.getElem?_toArray, List.getElem?_cons_zero, List.getElem?_cons_succ]; rfl
          case hQz2 => exact fun _ _ _ h => h
          case hyz2 => exact Or.inl ⟨by rfl, by intro w hSw; (try dsimp only at hSw); go_simp; with_reducible rfl⟩
          try simp only [Act.put, List.setIfInBounds_toArray, List.set_cons_zero, List.set_cons_succ]
          refine wpAnyH_take (i := 2) (oi := ?oiz3) (v := ?vz3) ?hiz3 (by kernel_rfl) (by kernel_rfl) (by kernel_rfl) ?hQz3 ?hyz3 (by assumption) ?restz3
          case hiz3 => simp only [List.getElem?_toArray, List.getElem?_cons_zero, List.getElem?_cons_succ]; rfl
          case hQz3 => exact fun _ _ _ h => h
          case hyz3 => exact Or.inl ⟨by rfl, by intro w hSw; (try dsimp only at hSw); go_simp; with_reducible rfl⟩
          try simp only [Act.put, List.setIfInBounds_toArray, List.set_cons_zero, List.set_cons_succ]
          refine wpAnyH_take (i := 3) (oi := ?oiz4) (v := (.agg ((tEnt).enc x).toArray)) ?hiz4 (by kernel_rfl) (by kernel_rfl) (by kernel_rfl) ?hQz4 ?hyz4 (by assumption) ?restz4
          case hiz4 => simp only [List.getElem?_toArray, List.getElem?_cons_zero, List.getElem?_cons_succ]; rfl
          case hQz4 => exact fun _ _ _ h => h
          case hyz4 => refine yields_loadS7 g (o + k * 2) ((tEnt).enc x) (by rw [(tEnt).len _ HX0.out]; exact aggEntryI) (fun W hW => HD.out W hW) ?_ _ rfl rfl; rfl
          try simp only [Act.put, List.setIfInBounds_toArray, List.set_cons_zero, List.set_cons_succ]
          refine wpAnyH_take (i := 4) (oi := ?oiz5) (v := ?vz5) ?hiz5 (by kernel_rfl) (by kernel_rfl) (by kernel_rfl) ?hQz5 ?hyz5 (by assumption) ?restz5
          case hiz5 => simp only [List.getElem?_toArray, List.getElem?_cons_zero, List.getElem?_cons_succ]; rfl
          case hQz5 => exact fun _ _ _ h => h
          case hyz5 => exact Or.inl ⟨by rfl, by intro w hSw; (try dsimp only at hSw); go_simp; with_reducible rfl⟩
          try simp only [Act.put, List.setIfInBounds_toArray, List.set_cons_zero, List.set_cons_succ]
          refine wpAnyH_take (i := 5) (oi := ?oiz6) (v := ?vz6) ?hiz6 (by kernel_rfl) (by kernel_rfl) (by kernel_rfl) ?hQz6 ?hyz6 (by assumption) ?restz6
          case hiz6 => simp only [List.getElem?_toArray, List.getElem?_cons_zero, List.getElem?_cons_succ]; rfl
          case hQz6 => exact fun _ _ _ h => h
          case hyz6 => exact Or.inl ⟨by rfl, by intro w hSw; (try dsimp only at hSw); go_simp; with_reducible rfl⟩
          try simp only [Act.put, List.setIfInBounds_toArray, List.set_cons_zero, List.set_cons_succ]
          refine wpAnyH_take (i := 6) (oi := ?oiz7) (v := ?vz7) ?hiz7 (by kernel_rfl) (by kernel_rfl) (by kernel_rfl) ?hQz7 ?hyz7 (by assumption) ?restz7
          case hiz7 => simp only [List.getElem?_toArray, List.getElem?_cons_zero, List.getElem?_cons_succ]; rfl
          case hQz7 => exact fun _ _ _ h => h
          case hyz7 => exact Or.inl ⟨by rfl, by intro w hSw; (try dsimp only at hSw); go_simp; with_reducible rfl⟩
          try simp only [Act.put, List.setIfInBounds_toArray, List.set_cons_zero, List.set_cons_succ]
          refine wpAnyH_take (i := 7) (oi := ?oiz8) (v := (.agg ((tEnt).enc y).toArray)) ?hiz8 (by kernel_rfl) (by kernel_rfl) (by kernel_rfl) ?hQz8 ?hyz8 (by assumption) ?restz8
          case hiz8 => simp only [List.getElem?_toArray, List.getElem?_cons_zero, List.getElem?_cons_succ]; rfl
          case hQz8 => exact fun _ _ _ h => h
          case hyz8 => refine yields_loadS7 g2 (o2 + k * 2) ((tEnt).enc y) (by rw [(tEnt).len _ HY0.out]; exact aggEntryI) (fun W hW => HD2.out W hW) ?_ _ rfl rfl; rfl
          try simp only [Act.put, List.setIfInBounds_toArray, List.set_cons_zero, List.set_cons_succ]
          refine wpAnyH_take (i := 8) (oi := ?oiz9) (v := ?vz9) ?hiz9 (by kernel_rfl) (by kernel_rfl) (by kernel_rfl) ?hQz9 ?hyz9 (by assumption) ?restz9
          case hiz9 => simp only [List.getElem?_toArray, List.getElem?_cons_zero, List.getElem?_cons_succ]; rfl
          case hQz9 => exact fun _ _ _ h => h
          case hyz9 => exact Or.inl ⟨by rfl, by intro w hSw; (try dsimp only at hSw); go_simp; with_reducible rfl⟩
          try simp only [Act.put, List.setIfInBounds_toArray, List.set_cons_zero, List.set_cons_succ]
          refine wpAnyH_done (by kernel_rfl) ?_ _
          have HX1 := Lib.hid (HX.out.trans hHeld)
          clear hHeld
          go_wp2
          go_roundw
          case rel => exact ⟨k + 1, by omega, by go_num, by rw [HT1.out, HT2.out, HT.out, HXY.out], HX1.out⟩
          case measure => simp [intOf]; omega
        · rw [decide_eq_false hxy] at hq
          have HNE := Lib.hid (hNE hxy)
          clear hxy hNE
          go_wp2_with fail
          refine wp_region_held_drew (S := fun W => Ext wr W) (by kernel_rfl) (Ext.refl _).drew (fun hHeld => ?_)
          refine wpAnyH_take (i := 0) (oi := ?oiz10) (v := ?vz10) ?hiz10 (by kernel_rfl) (by kernel_rfl) (by kernel_rfl) ?hQz10 ?hyz10 (by assumption) ?restz10
          case hiz10 => simp only [List.getElem?_toArray, List.getElem?_cons_zero, List.getElem?_cons_succ]; rfl
          case hQz10 => exact fun _ _ _ h => h
          case hyz10 => exact Or.inl ⟨by rfl, by intro w hSw; (try dsimp only at hSw); go_simp; with_reducible rfl⟩
          try simp only [Act.put, List.setIfInBounds_toArray, List.set_cons_zero, List.set_cons_succ]
          refine wpAnyH_take (i := 1) (oi := ?oiz11) (v := ?vz11) ?hiz11 (by kernel_rfl) (by kernel_rfl) (by kernel_rfl) ?hQz11 ?hyz11 (by assumption) ?restz11
          case hiz11 => simp only [List.getElem?_toArray, List.getElem?_cons_zero, List.getElem?_cons_succ]; rfl
          case hQz11 => exact fun _ _ _ h => h
          case hyz11 => exact Or.inl ⟨by rfl, by intro w hSw; (try dsimp only at hSw); go_simp; with_reducible rfl⟩
          try simp only [Act.put, List.setIfInBounds_toArray, List.set_cons_zero, List.set_cons_succ]
          refine wpAnyH_take (i := 2) (oi := ?oiz12) (v := ?vz12) ?hiz12 (by kernel_rfl) (by kernel_rfl) (by kernel_rfl) ?hQz12 ?hyz12 (by assumption) ?restz12
          case hiz12 => simp only [List.getElem?_toArray, List.getElem?_cons_zero, List.getElem?_cons_succ]; rfl
          case hQz12 => exact fun _ _ _ h => h
          case hyz12 => exact Or.inl ⟨by rfl, by intro w hSw; (try dsimp only at hSw); go_simp; with_reducible rfl⟩
          try simp only [Act.put, List.setIfInBounds_toArray, List.set_cons_zero, List.set_cons_succ]
          refine wpAnyH_take (i := 3) (oi := ?oiz13) (v := (.agg ((tEnt).enc x).toArray)) ?hiz13 (by kernel_rfl) (by kernel_rfl) (by kernel_rfl) ?hQz13 ?hyz13 (by assumption) ?restz13
          case hiz13 => simp only [List.getElem?_toArray, List.getElem?_cons_zero, List.getElem?_cons_succ]; rfl
          case hQz13 => exact fun _ _ _ h => h
          case hyz13 => refine yields_loadS7 g (o + k * 2) ((tEnt).enc x) (by rw [(tEnt).len _ HX0.out]; exact aggEntryI) (fun W hW => HD.out W hW) ?_ _ rfl rfl; rfl
          try simp only [Act.put, List.setIfInBounds_toArray, List.set_cons_zero, List.set_cons_succ]
          refine wpAnyH_take (i := 4) (oi := ?oiz14) (v := ?vz14) ?hiz14 (by kernel_rfl) (by kernel_rfl) (by kernel_rfl) ?hQz14 ?hyz14 (by assumption) ?restz14
          case hiz14 => simp only [List.getElem?_toArray, List.getElem?_cons_zero, List.getElem?_cons_succ]; rfl
          case hQz14 => exact fun _ _ _ h => h
          case hyz14 => exact Or.inl ⟨by rfl, by intro w hSw; (try dsimp only at hSw); go_simp; with_reducible rfl⟩
          try simp only [Act.put, List.setIfInBounds_toArray, List.set_cons_zero, List.set_cons_succ]
          refine wpAnyH_take (i := 5) (oi := ?oiz15) (v := ?vz15) ?hiz15 (by kernel_rfl) (by kernel_rfl) (by kernel_rfl) ?hQz15 ?hyz15 (by assumption) ?restz15
          case hiz15 => simp only [List.getElem?_toArray, List.getElem?_cons_zero, List.getElem?_cons_succ]; rfl
          case hQz15 => exact fun _ _ _ h => h
          case hyz15 => exact Or.inl ⟨by rfl, by intro w hSw; (try dsimp only at hSw); go_simp; with_reducible rfl⟩
          try simp only [Act.put, List.setIfInBounds_toArray, List.set_cons_zero, List.set_cons_succ]
          refine wpAnyH_take (i := 6) (oi := ?oiz16) (v := ?vz16) ?hiz16 (by kernel_rfl) (by kernel_rfl) (by kernel_rfl) ?hQz16 ?hyz16 (by assumption) ?restz16
          case hiz16 => simp only [List.getElem?_toArray, List.getElem?_cons_zero, List.getElem?_cons_succ]; rfl
          case hQz16 => exact fun _ _ _ h => h
          case hyz16 => exact Or.inl ⟨by rfl, by intro w hSw; (try dsimp only at hSw); go_simp; with_reducible rfl⟩
          try simp only [Act.put, List.setIfInBounds_toArray, List.set_cons_zero, List.set_cons_succ]
          refine wpAnyH_take (i := 7) (oi := ?oiz17) (v := (.agg ((tEnt).enc y).toArray)) ?hiz17 (by kernel_rfl) (by kernel_rfl) (by kernel_rfl) ?hQz17 ?hyz17 (by assumption) ?restz17
          case hiz17 => simp only [List.getElem?_toArray, List.getElem?_cons_zero, List.getElem?_cons_succ]; rfl
          case hQz17 => exact fun _ _ _ h => h
          case hyz17 => refine yields_loadS7 g2 (o2 + k * 2) ((tEnt).enc y) (by rw [(tEnt).len _ HY0.out]; exact aggEntryI) (fun W hW => HD2.out W hW) ?_ _ rfl rfl; rfl
          try simp only [Act.put, List.setIfInBounds_toArray, List.set_cons_zero, List.set_cons_succ]
          refine wpAnyH_take (i := 8) (oi := ?oiz18) (v := ?vz18) ?hiz18 (by kernel_rfl) (by kernel_rfl) (by kernel_rfl) ?hQz18 ?hyz18 (by assumption) ?restz18
          case hiz18 => simp only [List.getElem?_toArray, List.getElem?_cons_zero, List.getElem?_cons_succ]; rfl
          case hQz18 => exact fun _ _ _ h => h
          case hyz18 => exact Or.inl ⟨by rfl, by intro w hSw; (try dsimp only at hSw); go_simp; with_reducible rfl⟩
          try simp only [Act.put, List.setIfInBounds_toArray, List.set_cons_zero, List.set_cons_succ]
          refine wpAnyH_done (by kernel_rfl) ?_ _
          have HX1 := Lib.hid (HX.out.trans hHeld)
          clear hHeld
          go_wp2
          go_ret
          exact ⟨by rw [← HR.out, decide_eq_false HNE.out]; rfl, HX1.out⟩
      · obtain rfl : k = xs.length := by omega
        have he := HT.out
        rw [List.take_length, HL.out, List.take_length] at he
        have HE := Lib.hid he
        clear he
        go_wp2
        go_ret
        exact ⟨by rw [← HR.out, decide_eq_true HE.out]; rfl, HX.out⟩
  · have hl1 : ((xs.length : Int) != (ys.length : Int)) = true := by rw [bne_iff_ne]; omega
    go_enter Try.func94, Try.ntmps94
    go_wp2
    go_ret
    exact ⟨by rw [← HR.out, decide_eq_false (fun e => hl (by rw [e]))]; rfl, Ext.refl _⟩
set_option maxHeartbeats 1000000 in
set_option maxRecDepth 100000 in
theorem l07SameMaps_any (v u : Value) (xs ys : List En) (w : World) (S S' : Nat → Prop) (h : RdL tEnt w S v xs) (h' : RdL tEnt w S' u ys) :
    Calls Try.prog 63 #[v, u] w fun e w' => e = .returned (.bool (decide (xs = ys))) ∧ Ext w w' := by
  obtain ⟨A, cap, rfl, hcap, hlen, hrd, hok⟩ := h
  obtain ⟨A', cap', rfl, hcap', hlen', hrd', hok'⟩ := h'
  have Hrd := Lib.hid hrd
  have Hrd' := Lib.hid hrd'
  have Hok := Lib.hid hok
  have Hok' := Lib.hid hok'
  obtain ⟨R, hR⟩ : ∃ R, decide (xs = ys) = R := ⟨_, rfl⟩
  rw [hR]
  have HR := Lib.hid hR
  clear hrd hok hrd' hok' hR
  by_cases hl : xs.length = ys.length
  · have hl1 : ((xs.length : Int) != (ys.length : Int)) = false := by simp [hl]
    have HL := Lib.hid hl
    go_enter Try.func63, Try.ntmps63
    go_wp2
    go_loopw [5] (fun i wr => ∃ k : Nat, k ≤ xs.length ∧ i = .int .i64 k ∧ xs.take k = ys.take k ∧ Ext w wr) (fun i _ => xs.length - (intOf i).toNat)
    case atStart => exact ⟨0, by omega, rfl, by simp, Ext.refl _⟩
    case round =>
      obtain ⟨k, hk, rfl, ht, hx⟩ := hrel
      have HX := Lib.hid hx
      have HT := Lib.hid ht
      clear hx hl1 ht
      by_cases hlt : k < xs.length
      · have hlt' : k < ys.length := by have := HL.out; omega
        obtain ⟨g, o, rfl, hs, hc⟩ := Hrd.out.elem Hok.out k hlt
        obtain ⟨g2, o2, rfl, hs2, hc2⟩ := Hrd'.out.elem Hok'.out k hlt'
        have ht1 := List.take_succ_eq_append_getElem hlt
        have ht2 := List.take_succ_eq_append_getElem hlt'
        have hx0 : (tEnt).ok xs[k] := Hok.out _ (List.getElem_mem hlt)
        have hy0 : (tEnt).ok ys[k] := Hok'.out _ (List.getElem_mem hlt')
        have hD : ∀ W, Ext wr W → ∀ j u, ((tEnt).enc xs[k])[j]? = some u → W.cell? ⟨g, o + k * 2 + j, none⟩ = some u := fun W hW j u hu => hW.cell (HX.out.cell (hc j u hu))
        have hD2 : ∀ W, Ext wr W → ∀ j u, ((tEnt).enc ys[k])[j]? = some u → W.cell? ⟨g2, o2 + k * 2 + j, none⟩ = some u := fun W hW j u hu => hW.cell (HX.out.cell (hc2 j u hu))
        have hNE : xs[k] ≠ ys[k] → xs ≠ ys := fun hne e => hne (by have := congrArg (fun (l : List En) => l[k]?) e; simp only [List.getElem?_eq_getElem hlt, List.getElem?_eq_getElem hlt'] at this; exact Option.some.inj this)
        clear hc hc2
        generalize xs[k] = x at ht1 hx0 hD hNE
        generalize ys[k] = y at ht2 hy0 hD2 hNE
        have HD := Lib.hid hD
        have HD2 := Lib.hid hD2
        have HX0 := Lib.hid hx0
        have HY0 := Lib.hid hy0
        have HT1 := Lib.hid ht1
        have HT2 := Lib.hid ht2
        have hi : (0 : Int) ≤ (k : Int) := by omega
        have hi2 : (k : Int) < (xs.length : Int) := by omega
        have hi3 : (k : Int) < (ys.length : Int) := by omega
        have hq := run_neqEn7 x y HX0.out HY0.out
        clear hD hD2 hx0 hy0 ht1 ht2
        by_cases hxy : x = y
        · rw [decide_eq_true hxy] at hq
          have HXY := Lib.hid hxy
          clear hxy hNE
          go_wp2_with fail
          refine wp_region_held_drew (S := fun W => Ext wr W) (by kernel_rfl) (Ext.refl _).drew (fun hHeld => ?_)
          refine wpAnyH_take (i := 0) (oi := ?oiz19) (v := ?vz19) ?hiz19 (by kernel_rfl) (by kernel_rfl) (by kernel_rfl) ?hQz19 ?hyz19 (by assumption) ?restz19
          case hiz19 => simp only [List.getElem?_toArray, List.getElem?_cons_zero, List.getElem?_cons_succ]; rfl
          case hQz19 => exact fun _ _ _ h => h
          case hyz19 => exact Or.inl ⟨by rfl, by intro w hSw; (try dsimp only at hSw); go_simp; with_reducible rfl⟩
          try simp only [Act.put, List.setIfInBounds_toArray, List.set_cons_zero, List.set_cons_succ]
          refine wpAnyH_take (i := 1) (oi := ?oiz20) (v := ?vz20) ?hiz20 (by kernel_rfl) (by kernel_rfl) (by kernel_rfl) ?hQz20 ?hyz20 (by assumption) ?restz20
          case hiz20 => simp only [List.getElem?_toArray, List.getElem?_cons_zero, List.getElem?_cons_succ]; rfl
          case hQz20 => exact fun _ _ _ h => h
          case hyz20 => exact Or.inl ⟨by rfl, by intro w hSw; (try dsimp only at hSw); go_simp; with_reducible rfl⟩
          try simp only [Act.put, List.setIfInBounds_toArray, List.set_cons_zero, List.set_cons_succ]
          refine wpAnyH_take (i := 2) (oi := ?oiz21) (v := ?vz21) ?hiz21 (by kernel_rfl) (by kernel_rfl) (by kernel_rfl) ?hQz21 ?hyz21 (by assumption) ?restz21
          case hiz21 => simp only [List.getElem?_toArray, List.getElem?_cons_zero, List.getElem?_cons_succ]; rfl
          case hQz21 => exact fun _ _ _ h => h
          case hyz21 => exact Or.inl ⟨by rfl, by intro w hSw; (try dsimp only at hSw); go_simp; with_reducible rfl⟩
          try simp only [Act.put, List.setIfInBounds_toArray, List.set_cons_zero, List.set_cons_succ]
          refine wpAnyH_take (i := 3) (oi := ?oiz22) (v := (.agg ((tEnt).enc x).toArray)) ?hiz22 (by kernel_rfl) (by kernel_rfl) (by kernel_rfl) ?hQz22 ?hyz22 (by assumption) ?restz22
          case hiz22 => simp only [List.getElem?_toArray, List.getElem?_cons_zero, List.getElem?_cons_succ]; rfl
          case hQz22 => exact fun _ _ _ h => h
          case hyz22 => refine yields_loadS7 g (o + k * 2) ((tEnt).enc x) (by rw [(tEnt).len _ HX0.out]; exact aggEntryI) (fun W hW => HD.out W hW) ?_ _ rfl rfl; rfl
          try simp only [Act.put, List.setIfInBounds_toArray, List.set_cons_zero, List.set_cons_succ]
          refine wpAnyH_take (i := 4) (oi := ?oiz23) (v := ?vz23) ?hiz23 (by kernel_rfl) (by kernel_rfl) (by kernel_rfl) ?hQz23 ?hyz23 (by assumption) ?restz23
          case hiz23 => simp only [List.getElem?_toArray, List.getElem?_cons_zero, List.getElem?_cons_succ]; rfl
          case hQz23 => exact fun _ _ _ h => h
          case hyz23 => exact Or.inl ⟨by rfl, by intro w hSw; (try dsimp only at hSw); go_simp; with_reducible rfl⟩
          try simp only [Act.put, List.setIfInBounds_toArray, List.set_cons_zero, List.set_cons_succ]
          refine wpAnyH_take (i := 5) (oi := ?oiz24) (v := ?vz24) ?hiz24 (by kernel_rfl) (by kernel_rfl) (by kernel_rfl) ?hQz24 ?hyz24 (by assumption) ?restz24
          case hiz24 => simp only [List.getElem?_toArray, List.getElem?_cons_zero, List.getElem?_cons_succ]; rfl
          case hQz24 => exact fun _ _ _ h => h
          case hyz24 => exact Or.inl ⟨by rfl, by intro w hSw; (try dsimp only at hSw); go_simp; with_reducible rfl⟩
          try simp only [Act.put, List.setIfInBounds_toArray, List.set_cons_zero, List.set_cons_succ]
          refine wpAnyH_take (i := 6) (oi := ?oiz25) (v := ?vz25) ?hiz25 (by kernel_rfl) (by kernel_rfl) (by kernel_rfl) ?hQz25 ?hyz25 (by assumption) ?restz25
          case hiz25 => simp only [List.getElem?_toArray, List.getElem?_cons_zero, List.getElem?_cons_succ]; rfl
          case hQz25 => exact fun _ _ _ h => h
          case hyz25 => exact Or.inl ⟨by rfl, by intro w hSw; (try dsimp only at hSw); go_simp; with_reducible rfl⟩
          try simp only [Act.put, List.setIfInBounds_toArray, List.set_cons_zero, List.set_cons_succ]
          refine wpAnyH_take (i := 7) (oi := ?oiz26) (v := (.agg ((tEnt).enc y).toArray)) ?hiz26 (by kernel_rfl) (by kernel_rfl) (by kernel_rfl) ?hQz26 ?hyz26 (by assumption) ?restz26
          case hiz26 => simp only [List.getElem?_toArray, List.getElem?_cons_zero, List.getElem?_cons_succ]; rfl
          case hQz26 => exact fun _ _ _ h => h
          case hyz26 => refine yields_loadS7 g2 (o2 + k * 2) ((tEnt).enc y) (by rw [(tEnt).len _ HY0.out]; exact aggEntryI) (fun W hW => HD2.out W hW) ?_ _ rfl rfl; rfl
          try simp only [Act.put, List.setIfInBounds_toArray, List.set_cons_zero, List.set_cons_succ]
          refine wpAnyH_take (i := 8) (oi := ?oiz27) (v := ?vz27) ?hiz27 (by kernel_rfl) (by kernel_rfl) (by kernel_rfl) ?hQz27 ?hyz27 (by assumption) ?restz27
          case hiz27 => simp only [List.getElem?_toArray, List.getElem?_cons_zero, List.getElem?_cons_succ]; rfl
          case hQz27 => exact fun _ _ _ h => h
          case hyz27 => exact Or.inl ⟨by rfl, by intro w hSw; (try dsimp only at hSw); go_simp; with_reducible rfl⟩
          try simp only [Act.put, List.setIfInBounds_toArray, List.set_cons_zero, List.set_cons_succ]
          refine wpAnyH_done (by kernel_rfl) ?_ _
          have HX1 := Lib.hid (HX.out.trans hHeld)
          clear hHeld
          go_wp2
          go_roundw
          case rel => exact ⟨k + 1, by omega, by go_num, by rw [HT1.out, HT2.out, HT.out, HXY.out], HX1.out⟩
          case measure => simp [intOf]; omega
        · rw [decide_eq_false hxy] at hq
          have HNE := Lib.hid (hNE hxy)
          clear hxy hNE
          go_wp2_with fail
          refine wp_region_held_drew (S := fun W => Ext wr W) (by kernel_rfl) (Ext.refl _).drew (fun hHeld => ?_)
          refine wpAnyH_take (i := 0) (oi := ?oiz28) (v := ?vz28) ?hiz28 (by kernel_rfl) (by kernel_rfl) (by kernel_rfl) ?hQz28 ?hyz28 (by assumption) ?restz28
          case hiz28 => simp only [List.getElem?_toArray, List.getElem?_cons_zero, List.getElem?_cons_succ]; rfl
          case hQz28 => exact fun _ _ _ h => h
          case hyz28 => exact Or.inl ⟨by rfl, by intro w hSw; (try dsimp only at hSw); go_simp; with_reducible rfl⟩
          try simp only [Act.put, List.setIfInBounds_toArray, List.set_cons_zero, List.set_cons_succ]
          refine wpAnyH_take (i := 1) (oi := ?oiz29) (v := ?vz29) ?hiz29 (by kernel_rfl) (by kernel_rfl) (by kernel_rfl) ?hQz29 ?hyz29 (by assumption) ?restz29
          case hiz29 => simp only [List.getElem?_toArray, List.getElem?_cons_zero, List.getElem?_cons_succ]; rfl
          case hQz29 => exact fun _ _ _ h => h
          case hyz29 => exact Or.inl ⟨by rfl, by intro w hSw; (try dsimp only at hSw); go_simp; with_reducible rfl⟩
          try simp only [Act.put, List.setIfInBounds_toArray, List.set_cons_zero, List.set_cons_succ]
          refine wpAnyH_take (i := 2) (oi := ?oiz30) (v := ?vz30) ?hiz30 (by kernel_rfl) (by kernel_rfl) (by kernel_rfl) ?hQz30 ?hyz30 (by assumption) ?restz30
          case hiz30 => simp only [List.getElem?_toArray, List.getElem?_cons_zero, List.getElem?_cons_succ]; rfl
          case hQz30 => exact fun _ _ _ h => h
          case hyz30 => exact Or.inl ⟨by rfl, by intro w hSw; (try dsimp only at hSw); go_simp; with_reducible rfl⟩
          try simp only [Act.put, List.setIfInBounds_toArray, List.set_cons_zero, List.set_cons_succ]
          refine wpAnyH_take (i := 3) (oi := ?oiz31) (v := (.agg ((tEnt).enc x).toArray)) ?hiz31 (by kernel_rfl) (by kernel_rfl) (by kernel_rfl) ?hQz31 ?hyz31 (by assumption) ?restz31
          case hiz31 => simp only [List.getElem?_toArray, List.getElem?_cons_zero, List.getElem?_cons_succ]; rfl
          case hQz31 => exact fun _ _ _ h => h
          case hyz31 => refine yields_loadS7 g (o + k * 2) ((tEnt).enc x) (by rw [(tEnt).len _ HX0.out]; exact aggEntryI) (fun W hW => HD.out W hW) ?_ _ rfl rfl; rfl
          try simp only [Act.put, List.setIfInBounds_toArray, List.set_cons_zero, List.set_cons_succ]
          refine wpAnyH_take (i := 4) (oi := ?oiz32) (v := ?vz32) ?hiz32 (by kernel_rfl) (by kernel_rfl) (by kernel_rfl) ?hQz32 ?hyz32 (by assumption) ?restz32
          case hiz32 => simp only [List.getElem?_toArray, List.getElem?_cons_zero, List.getElem?_cons_succ]; rfl
          case hQz32 => exact fun _ _ _ h => h
          case hyz32 => exact Or.inl ⟨by rfl, by intro w hSw; (try dsimp only at hSw); go_simp; with_reducible rfl⟩
          try simp only [Act.put, List.setIfInBounds_toArray, List.set_cons_zero, List.set_cons_succ]
          refine wpAnyH_take (i := 5) (oi := ?oiz33) (v := ?vz33) ?hiz33 (by kernel_rfl) (by kernel_rfl) (by kernel_rfl) ?hQz33 ?hyz33 (by assumption) ?restz33
          case hiz33 => simp only [List.getElem?_toArray, List.getElem?_cons_zero, List.getElem?_cons_succ]; rfl
          case hQz33 => exact fun _ _ _ h => h
          case hyz33 => exact Or.inl ⟨by rfl, by intro w hSw; (try dsimp only at hSw); go_simp; with_reducible rfl⟩
          try simp only [Act.put, List.setIfInBounds_toArray, List.set_cons_zero, List.set_cons_succ]
          refine wpAnyH_take (i := 6) (oi := ?oiz34) (v := ?vz34) ?hiz34 (by kernel_rfl) (by kernel_rfl) (by kernel_rfl) ?hQz34 ?hyz34 (by assumption) ?restz34
          case hiz34 => simp only [List.getElem?_toArray, List.getElem?_cons_zero, List.getElem?_cons_succ]; rfl
          case hQz34 => exact fun _ _ _ h => h
          case hyz34 => exact Or.inl ⟨by rfl, by intro w hSw; (try dsimp only at hSw); go_simp; with_reducible rfl⟩
          try simp only [Act.put, List.setIfInBounds_toArray, List.set_cons_zero, List.set_cons_succ]
          refine wpAnyH_take (i := 7) (oi := ?oiz35) (v := (.agg ((tEnt).enc y).toArray)) ?hiz35 (by kernel_rfl) (by kernel_rfl) (by kernel_rfl) ?hQz35 ?hyz35 (by assumption) ?restz35
          case hiz35 => simp only [List.getElem?_toArray, List.getElem?_cons_zero, List.getElem?_cons_succ]; rfl
          case hQz35 => exact fun _ _ _ h => h
          case hyz35 => refine yields_loadS7 g2 (o2 + k * 2) ((tEnt).enc y) (by rw [(tEnt).len _ HY0.out]; exact aggEntryI) (fun W hW => HD2.out W hW) ?_ _ rfl rfl; rfl
          try simp only [Act.put, List.setIfInBounds_toArray, List.set_cons_zero, List.set_cons_succ]
          refine wpAnyH_take (i := 8) (oi := ?oiz36) (v := ?vz36) ?hiz36 (by kernel_rfl) (by kernel_rfl) (by kernel_rfl) ?hQz36 ?hyz36 (by assumption) ?restz36
          case hiz36 => simp only [List.getElem?_toArray, List.getElem?_cons_zero, List.getElem?_cons_succ]; rfl
          case hQz36 => exact fun _ _ _ h => h
          case hyz36 => exact Or.inl ⟨by rfl, by intro w hSw; (try dsimp only at hSw); go_simp; with_reducible rfl⟩
          try simp only [Act.put, List.setIfInBounds_toArray, List.set_cons_zero, List.set_cons_succ]
          refine wpAnyH_done (by kernel_rfl) ?_ _
          have HX1 := Lib.hid (HX.out.trans hHeld)
          clear hHeld
          go_wp2
          go_ret
          exact ⟨by rw [← HR.out, decide_eq_false HNE.out]; rfl, HX1.out⟩
      · obtain rfl : k = xs.length := by omega
        have he := HT.out
        rw [List.take_length, HL.out, List.take_length] at he
        have HE := Lib.hid he
        clear he
        go_wp2
        go_ret
        exact ⟨by rw [← HR.out, decide_eq_true HE.out]; rfl, HX.out⟩
  · have hl1 : ((xs.length : Int) != (ys.length : Int)) = true := by rw [bne_iff_ne]; omega
    go_enter Try.func63, Try.ntmps63
    go_wp2
    go_ret
    exact ⟨by rw [← HR.out, decide_eq_false (fun e => hl (by rw [e]))]; rfl, Ext.refl _⟩
set_option maxHeartbeats 1000000 in
set_option maxRecDepth 100000 in
theorem implSameEntries_any (v u : Value) (xs ys : List En) (w : World) (S S' : Nat → Prop) (h : RdL tEnt w S v xs) (h' : RdL tEnt w S' u ys) :
    Calls Try.prog 69 #[v, u] w fun e w' => e = .returned (.bool (decide (xs = ys))) ∧ Ext w w' := by
  have hc := slEqualEnt_any v u xs ys w S S' h h'
  obtain ⟨A, cap, rfl, _⟩ := h
  obtain ⟨A', cap', rfl, _⟩ := h'
  go_enter Try.func69, Try.ntmps69
  go_wp2_with fail
  refine hc.mono ?_
  rintro e w1 ⟨rfl, hx⟩
  have HX := Lib.hid hx
  clear hx hc
  go_wp2
  go_ret
  exact ⟨rfl, HX.out⟩
end Go.Proofs.Yteegnbdgfedajaa
/- Equal lists of commits and of maps. No condition. -/
namespace Go.Proofs.Yteegnbdgfedajaa
open Go.RowKit
set_option linter.unusedVariables false
set_option linter.unusedSimpArgs false

/-- equal commits, equal maps -/
def sameEns (x y : Ens) : Bool := decide (x = y)
theorem sameCommit_w (cs cs' : Array Value) (x y : Cm) (w : World) (S S' : Nat → Prop) (h : nrCommit.R w S cs x) (h' : nrCommit.R w S' cs' y) :
    Calls Try.prog 67 #[.agg cs, .agg cs'] w fun e w' => e = .returned (.bool (sameCm x y)) ∧ Ext w w' := implSameCommit_u cs cs' x y w S S' h h'
set_option maxHeartbeats 2000000 in
set_option maxRecDepth 100000 in
theorem eqFuncCommit (v u : Value) (xs ys : List Cm) (w : World) (S S' : Nat → Prop) (h : RdN nrCommit w S v xs) (h' : RdN nrCommit w S' u ys) :
    Calls Try.prog 66 #[v, u, .func (.func 67) #[] #[]] w fun e w' => e = .returned (.bool (allSame sameCm xs ys)) ∧ Ext w w' := by
  obtain ⟨A, cap, rfl, hcap, hlen⟩ := h.shape
  obtain ⟨A', cap', rfl, hcap', hlen'⟩ := h'.shape
  have H := Lib.hid h
  have H' := Lib.hid h'
  clear h h'
  obtain ⟨R, hR⟩ : ∃ R, allSame sameCm xs ys = R := ⟨_, rfl⟩
  rw [hR]
  have HRR := Lib.hid hR
  clear hR
  by_cases hl : xs.length = ys.length
  rotate_left
  · have hl1 : ((xs.length : Int) != (ys.length : Int)) = true := by rw [bne_iff_ne]; omega
    have HN := Lib.hid (allSame_len (f := sameCm) hl)
    clear hl
    go_enter Try.func66, Try.ntmps66
    go_wp2
    go_ret
    exact ⟨by rw [← HRR.out, HN.out]; rfl, Ext.refl _⟩
  have hl1 : ((xs.length : Int) != (ys.length : Int)) = false := by simp [hl]
  have HL := Lib.hid hl
  clear hl
  go_enter Try.func66, Try.ntmps66
  go_wp2
  go_loopw [17] (fun i wr => ∃ k : Nat, k ≤ xs.length ∧ i = .int .i64 k ∧ (∀ p (hp : p < xs.length) (hp' : p < ys.length), p < k → sameCm xs[p] ys[p] = true) ∧ Ext w wr) (fun i _ => xs.length - (intOf i).toNat)
  case atStart => exact ⟨0, by omega, rfl, fun p hp hp' h => by omega, Ext.refl _⟩
  case round =>
    obtain ⟨k, hk, rfl, hm, hx⟩ := hrel
    have HX := Lib.hid hx
    have HM := Lib.hid hm
    clear hx hm hl1
    by_cases hlt : k < xs.length
    · have hlt' : k < ys.length := by have := HL.out; omega
      obtain ⟨g, o, rfl, hs, es, hes, hc, hR⟩ := H.out.elem k hlt
      obtain ⟨g2, o2, rfl, hs2, es2, hes2, hc2, hR2⟩ := H'.out.elem k hlt'
      have HD := Lib.hid (show ∀ j u, es[j]? = some u → wr.cell? ⟨g, o + k * 35 + j, none⟩ = some u from fun j u hu => HX.out.cell (hc j u hu))
      have HD2 := Lib.hid (show ∀ j u, es2[j]? = some u → wr.cell? ⟨g2, o2 + k * 35 + j, none⟩ = some u from fun j u hu => HX.out.cell (hc2 j u hu))
      have HD2' := Lib.hid (show ∀ ob j u, es2[j]? = some u → (wr.alloc ob).cell? ⟨g2, o2 + k * 35 + j, none⟩ = some u from fun ob j u hu => (ext_alloc wr ob).cell (HD2.out j u hu))
      have HR := Lib.hid ((nrCommit).ext hR HX.out)
      have HR2 := Lib.hid ((nrCommit).ext hR2 HX.out)
      have HES := Lib.hid (show es.length = 35 from hes)
      have HES2 := Lib.hid (show es2.length = 35 from hes2)
      have HST := Lib.hid (show St 35 es.toArray from (nrCommit).st HR.out)
      have HST2 := Lib.hid (show St 35 es2.toArray from (nrCommit).st HR2.out)
      have hz1 := HST.out.size
      have hz2 := HST2.out.size
      have hct := fun W hW => sameCommit_w es.toArray es2.toArray xs[k] ys[k] W S S' ((nrCommit).ext HR.out hW) ((nrCommit).ext HR2.out hW)
      clear hc hc2 hR hR2 hes hes2
      have hi : (0 : Int) ≤ (k : Int) := by omega
      have hi2 : (k : Int) < (xs.length : Int) := by omega
      have hi3 : (k : Int) < (ys.length : Int) := by omega
      cases hq : sameCm xs[k] ys[k] with
      | true =>
        rw [hq] at hct
        have HQ := Lib.hid hq
        have HCT := Lib.hid hct
        clear hq hct
        go_wp2_with (first
          | (refine wpl_load ⟨g, o + k * 35, none⟩ es (by rw [HES.out]; exact aggCommitI) rfl _ rfl rfl (fun j u hu => by rw [Addr.add_lit]; exact HD.out j u hu) ?_)
          | (refine wpl_load ⟨g2, o2 + k * 35, none⟩ es2 (by rw [HES2.out]; exact aggCommitI) rfl _ rfl rfl (fun j u hu => by rw [Addr.add_lit]; exact HD2'.out _ j u hu) ?_)
          | (refine wpl_storeNewB aggCommitI HST.out rfl rfl _ _ rfl rfl rfl rfl ?_)
          | (refine wpl_storeNewG (g := wr.heap.size + 1) (w := wr.alloc _) (by simp) aggCommitI HST2.out rfl rfl _ _ rfl rfl rfl rfl ?_)
          | (refine wpl_loadB ((Blk.new wr 43 es.toArray).alloc _) aggCommitI hz1 rfl _ rfl rfl ?_)
          | (refine wpl_loadB (Blk.new' (g := wr.heap.size + 1) (w := wr.alloc _) (by simp) 43 es2.toArray) aggCommitI hz2 rfl _ rfl rfl ?_))
        refine (HCT.out _ ((ext_alloc _ _).alloc _)).mono ?_
        rintro e w1 ⟨rfl, hx⟩
        have HX1 := Lib.hid (((HX.out.alloc _).alloc _).trans hx)
        clear hx
        go_wp2
        go_roundw
        case rel => exact ⟨k + 1, by omega, by go_num, fun p hp hp' h => by
          by_cases e : p = k
          · subst e; exact HQ.out
          · exact HM.out p hp hp' (by omega), HX1.out⟩
        case measure => simp [intOf]; omega
      | false =>
        rw [hq] at hct
        have HQ := Lib.hid (allSame_no k hlt hlt' hq)
        have HCT := Lib.hid hct
        clear hq hct
        go_wp2_with (first
          | (refine wpl_load ⟨g, o + k * 35, none⟩ es (by rw [HES.out]; exact aggCommitI) rfl _ rfl rfl (fun j u hu => by rw [Addr.add_lit]; exact HD.out j u hu) ?_)
          | (refine wpl_load ⟨g2, o2 + k * 35, none⟩ es2 (by rw [HES2.out]; exact aggCommitI) rfl _ rfl rfl (fun j u hu => by rw [Addr.add_lit]; exact HD2'.out _ j u hu) ?_)
          | (refine wpl_storeNewB aggCommitI HST.out rfl rfl _ _ rfl rfl rfl rfl ?_)
          | (refine wpl_storeNewG (g := wr.heap.size + 1) (w := wr.alloc _) (by simp) aggCommitI HST2.out rfl rfl _ _ rfl rfl rfl rfl ?_)
          | (refine wpl_loadB ((Blk.new wr 43 es.toArray).alloc _) aggCommitI hz1 rfl _ rfl rfl ?_)
          | (refine wpl_loadB (Blk.new' (g := wr.heap.size + 1) (w := wr.alloc _) (by simp) 43 es2.toArray) aggCommitI hz2 rfl _ rfl rfl ?_))
        refine (HCT.out _ ((ext_alloc _ _).alloc _)).mono ?_
        rintro e w1 ⟨rfl, hx⟩
        have HX1 := Lib.hid (((HX.out.alloc _).alloc _).trans hx)
        clear hx
        go_wp2
        go_ret
        exact ⟨by rw [← HRR.out, HQ.out]; rfl, HX1.out⟩
    · obtain rfl : k = xs.length := by omega
      have HQ := Lib.hid (allSame_yes (f := sameCm) HL.out fun p hp hp' => HM.out p hp hp' hp)
      go_wp2
      go_ret
      exact ⟨by rw [← HRR.out, HQ.out]; rfl, HX.out⟩

theorem sameEnts_w (v u : Value) (xs ys : Ens) (w : World) (S S' : Nat → Prop) (h : RdL tEnt w S v xs) (h' : RdL tEnt w S' u ys) :
    Calls Try.prog 69 #[v, u] w fun e w' => e = .returned (.bool (sameEns xs ys)) ∧ Ext w w' := implSameEntries_any v u xs ys w S S' h h'
set_option maxHeartbeats 2000000 in
set_option maxRecDepth 100000 in
theorem eqFuncEnts (v u : Value) (xs ys : List Ens) (w : World) (S S' : Nat → Prop) (h : RdN nrEnts w S v xs) (h' : RdN nrEnts w S' u ys) :
    Calls Try.prog 68 #[v, u, .func (.func 69) #[] #[]] w fun e w' => e = .returned (.bool (allSame sameEns xs ys)) ∧ Ext w w' := by
  obtain ⟨A, cap, rfl, hcap, hlen⟩ := h.shape
  obtain ⟨A', cap', rfl, hcap', hlen'⟩ := h'.shape
  have H := Lib.hid h
  have H' := Lib.hid h'
  clear h h'
  obtain ⟨R, hR⟩ : ∃ R, allSame sameEns xs ys = R := ⟨_, rfl⟩
  rw [hR]
  have HRR := Lib.hid hR
  clear hR
  by_cases hl : xs.length = ys.length
  rotate_left
  · have hl1 : ((xs.length : Int) != (ys.length : Int)) = true := by rw [bne_iff_ne]; omega
    have HN := Lib.hid (allSame_len (f := sameEns) hl)
    clear hl
    go_enter Try.func68, Try.ntmps68
    go_wp2
    go_ret
    exact ⟨by rw [← HRR.out, HN.out]; rfl, Ext.refl _⟩
  have hl1 : ((xs.length : Int) != (ys.length : Int)) = false := by simp [hl]
  have HL := Lib.hid hl
  clear hl
  go_enter Try.func68, Try.ntmps68
  go_wp2
  go_loopw [17] (fun i wr => ∃ k : Nat, k ≤ xs.length ∧ i = .int .i64 k ∧ (∀ p (hp : p < xs.length) (hp' : p < ys.length), p < k → sameEns xs[p] ys[p] = true) ∧ Ext w wr) (fun i _ => xs.length - (intOf i).toNat)
  case atStart => exact ⟨0, by omega, rfl, fun p hp hp' h => by omega, Ext.refl _⟩
  case round =>
    obtain ⟨k, hk, rfl, hm, hx⟩ := hrel
    have HX := Lib.hid hx
    have HM := Lib.hid hm
    clear hx hm hl1
    by_cases hlt : k < xs.length
    · have hlt' : k < ys.length := by have := HL.out; omega
      obtain ⟨g, o, rfl, hs, es, hes, hc, hR⟩ := H.out.elem k hlt
      obtain ⟨g2, o2, rfl, hs2, es2, hes2, hc2, hR2⟩ := H'.out.elem k hlt'
      obtain ⟨u1, hE, hU⟩ := hR
      obtain rfl : es = [u1] := by have := congrArg Array.toList hE; simpa using this
      obtain ⟨u2, hE2, hU2⟩ := hR2
      obtain rfl : es2 = [u2] := by have := congrArg Array.toList hE2; simpa using this
      have hcell : wr.cell? ⟨g, o + k, none⟩ = some u1 := HX.out.cell (by have := hc 0 u1 rfl; simpa [show (nrEnts).sz = 1 from rfl] using this)
      have hcell2 : wr.cell? ⟨g2, o2 + k, none⟩ = some u2 := HX.out.cell (by have := hc2 0 u2 rfl; simpa [show (nrEnts).sz = 1 from rfl] using this)
      obtain ⟨A1, c1, rfl, _⟩ := id hU
      obtain ⟨A3, c3, rfl, _⟩ := id hU2
      have HU := Lib.hid (hU.ext (by decide) HX.out)
      have HU2 := Lib.hid (hU2.ext (by decide) HX.out)
      have hct := fun W hW => sameEnts_w _ _ xs[k] ys[k] W S S' (HU.out.ext (by decide) hW) (HU2.out.ext (by decide) hW)
      clear hc hc2 hE hE2 hU hU2 hes hes2
      have hi : (0 : Int) ≤ (k : Int) := by omega
      have hi2 : (k : Int) < (xs.length : Int) := by omega
      have hi3 : (k : Int) < (ys.length : Int) := by omega
      cases hq : sameEns xs[k] ys[k] with
      | true =>
        rw [hq] at hct
        have HQ := Lib.hid hq
        have HCT := Lib.hid hct
        clear hq hct
        go_wp2_with fail
        refine (HCT.out _ (Ext.refl _)).mono ?_
        rintro e w1 ⟨rfl, hx⟩
        have HX1 := Lib.hid (HX.out.trans hx)
        clear hx
        go_wp2
        go_roundw
        case rel => exact ⟨k + 1, by omega, by go_num, fun p hp hp' h => by
          by_cases e : p = k
          · subst e; exact HQ.out
          · exact HM.out p hp hp' (by omega), HX1.out⟩
        case measure => simp [intOf]; omega
      | false =>
        rw [hq] at hct
        have HQ := Lib.hid (allSame_no k hlt hlt' hq)
        have HCT := Lib.hid hct
        clear hq hct
        go_wp2_with fail
        refine (HCT.out _ (Ext.refl _)).mono ?_
        rintro e w1 ⟨rfl, hx⟩
        have HX1 := Lib.hid (HX.out.trans hx)
        clear hx
        go_wp2
        go_ret
        exact ⟨by rw [← HRR.out, HQ.out]; rfl, HX1.out⟩
    · obtain rfl : k = xs.length := by omega
      have HQ := Lib.hid (allSame_yes (f := sameEns) HL.out fun p hp hp' => HM.out p hp hp' hp)
      go_wp2
      go_ret
      exact ⟨by rw [← HRR.out, HQ.out]; rfl, HX.out⟩

end Go.Proofs.Yteegnbdgfedajaa
