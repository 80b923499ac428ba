/- What the walk of the law FnExactReadCommit needs, part 3 of 4. No condition. -/
import Derived.Lib.AppendStr
import Derived.Test.YteegnbdgfedajaaPFnExactReadCommit2
/- Equal lists of keys and equal commits: the reference and the program. No condition. -/
namespace Go.Proofs.Yteegnbdgfedajaa
open Go.RowKit
set_option linter.unusedVariables false
set_option linter.unusedSimpArgs false

/-- a load of a part of a variable that any world behind w0 answers alike -/
theorem yields_loadP {P : Program} {ops : Array Oper} {op : Oper} {a : Act} {w0 : World} {t g e n off : Nat} {cs sub : Array Value} (hb : Blk w0 g e cs) (ht : Agg P t n) (hn : sub.size = n) (hp : ∀ j u, sub[j]? = some u → cs[off + j]? = some u) (hw : Region.wanted op (yielded ops a.tmps) = true) (x : Operand) (ho : op.op = .load t x) (hx : a.eval x = .pointer (some ⟨g, off, none⟩)) :
    YieldsIf P ops (fun W => Ext w0 W) op (.agg sub) a := by
  have := yields_loadR (P := P) (ops := ops) (op := op) (a := a) (w0 := w0) (t := t) g off sub.toList (by simpa [hn] using ht) (fun j u hu => by
    rw [hb.cell]
    exact hp j u (by simpa using hu)) hw x ho hx
  simpa using this
set_option maxHeartbeats 1000000 in
set_option maxRecDepth 100000 in
theorem l03Lists_any (v u : Value) (xs ys : List (List Int)) (w : World) (S S' : Nat → Prop) (h : RdL tKey w S v xs) (h' : RdL tKey w S' u ys) :
    Calls Try.prog 90 #[v, u] w fun e w' => e = .returned (.bool (decide (xs = ys))) ∧ Ext w w' := by
  obtain ⟨A, cap, rfl, hcap, hlen, hrd, hok⟩ := h
  obtain ⟨A', cap', rfl, hcap', hlen', hrd', hok'⟩ := h'
  have Hrd := Lib.hid hrd
  have Hrd' := Lib.hid hrd'
  have Hok := Lib.hid hok
  have Hok' := Lib.hid hok'
  clear hrd hok hrd' hok'
  by_cases hl : xs.length = ys.length
  rotate_left
  · have Hl := Lib.hid hl
    have hl1 : ((xs.length : Int) != (ys.length : Int)) = true := by simp; omega
    clear hl
    go_enter Try.func90, Try.ntmps90
    go_wp2
    go_ret
    exact ⟨by rw [decide_eq_false (fun h => Hl.out (by rw [h]))]; rfl, Ext.refl _⟩
  have Hl := Lib.hid hl
  have hl1 : ((xs.length : Int) != (ys.length : Int)) = false := by simp [hl]
  clear hl
  go_enter Try.func90, Try.ntmps90
  go_wp2
  go_loopw [5] (fun i wr => ∃ k : Nat, k ≤ xs.length ∧ i = .int .i64 k ∧ xs.take k = ys.take k ∧ Ext w wr) (fun i _ => xs.length - (intOf i).toNat)
  case atStart => exact ⟨0, by omega, rfl, by simp, Ext.refl _⟩
  case round =>
    obtain ⟨k, hk, rfl, ht, hx⟩ := hrel
    have Ht := Lib.hid ht
    have HX := Lib.hid hx
    clear ht hl1 hx
    by_cases hlt : k < xs.length
    · have hlt' : k < ys.length := by rw [← Hl.out]; exact hlt
      obtain ⟨g, o, rfl, hs, hc⟩ := Hrd.out.elem Hok.out k hlt
      obtain ⟨g2, o2, rfl, hs2, hc2⟩ := Hrd'.out.elem Hok'.out k hlt'
      have HX0 := Lib.hid (show K32 xs[k] from Hok.out _ (List.getElem_mem hlt))
      have HX1 := Lib.hid (show K32 ys[k] from Hok'.out _ (List.getElem_mem hlt'))
      have HD0 := Lib.hid (show ∀ j u, (tKey.enc xs[k])[j]? = some u → wr.cell? ⟨g, o + k * 32 + j, none⟩ = some u from fun j u hu => HX.out.cell (hc j u hu))
      have HD1 := Lib.hid (show ∀ j u, (tKey.enc ys[k])[j]? = some u → wr.cell? ⟨g2, o2 + k * 32 + j, none⟩ = some u from fun j u hu => HX.out.cell (hc2 j u hu))
      clear hc hc2
      have hi : (0 : Int) ≤ (k : Int) := by omega
      have hi2 : (k : Int) < (xs.length : Int) := by omega
      have hi3 : (k : Int) < (ys.length : Int) := by omega
      by_cases he : xs[k] = ys[k]
      · have He := Lib.hid he
        have hneq : ∀ W, (binOp .neq 40 (.agg (tKey.enc xs[k]).toArray) (.agg (tKey.enc ys[k]).toArray)).run Try.prog W = .ok (.bool false) W := fun W => by
          have := run_neqKey xs[k] ys[k] HX0.out HX1.out W
          rw [decide_eq_true He.out] at this
          exact this
        clear he
        go_wp2_with fail
        refine wp_region_held_drew (S := fun W => Ext wr W) (by kernel_rfl) (Ext.refl _).drew (fun hHeld => ?_)
        refine wpAnyH_take (i := 0) (oi := ?oiz1) (v := ?vz1) ?hiz1 (by kernel_rfl) (by kernel_rfl) (by kernel_rfl) ?hQz1 ?hyz1 (by assumption) ?restz1
        case hiz1 => simp only [List.getElem?_toArray, List.getElem?_cons_zero, List.getElem?_cons_succ]; rfl
        case hQz1 => exact fun _ _ _ h => h
        case hyz1 => exact Or.inl ⟨by rfl, by intro w hSw; (try dsimp only at hSw); go_simp; with_reducible rfl⟩
        try simp only [Act.put, List.setIfInBounds_toArray, List.set_cons_zero, List.set_cons_succ]
        refine wpAnyH_take (i := 1) (oi := ?oiz2) (v := ?vz2) ?hiz2 (by kernel_rfl) (by kernel_rfl) (by kernel_rfl) ?hQz2 ?hyz2 (by assumption) ?restz2
        case hiz2 => simp only [List.getElem?_toArray, List.getElem?_cons_zero, List.getElem?_cons_succ]; rfl
        case hQz2 => exact fun _ _ _ h => h
        case hyz2 => exact Or.inl ⟨by rfl, by intro w hSw; (try dsimp only at hSw); go_simp; with_reducible rfl⟩
        try simp only [Act.put, List.setIfInBounds_toArray, List.set_cons_zero, List.set_cons_succ]
        refine wpAnyH_take (i := 2) (oi := ?oiz3) (v := ?vz3) ?hiz3 (by kernel_rfl) (by kernel_rfl) (by kernel_rfl) ?hQz3 ?hyz3 (by assumption) ?restz3
        case hiz3 => simp only [List.getElem?_toArray, List.getElem?_cons_zero, List.getElem?_cons_succ]; rfl
        case hQz3 => exact fun _ _ _ h => h
        case hyz3 => exact Or.inl ⟨by rfl, by intro w hSw; (try dsimp only at hSw); go_simp; with_reducible rfl⟩
        try simp only [Act.put, List.setIfInBounds_toArray, List.set_cons_zero, List.set_cons_succ]
        refine wpAnyH_take (i := 3) (oi := ?oiz4) (v := (.agg (tKey.enc xs[k]).toArray)) ?hiz4 (by kernel_rfl) (by kernel_rfl) (by kernel_rfl) ?hQz4 ?hyz4 (by assumption) ?restz4
        case hiz4 => simp only [List.getElem?_toArray, List.getElem?_cons_zero, List.getElem?_cons_succ]; rfl
        case hQz4 => exact fun _ _ _ h => h
        case hyz4 => refine yields_loadR g (o + k * 32) (tKey.enc xs[k]) (by rw [tKey.len _ HX0.out]; exact aggKey) HD0.out ?_ _ rfl rfl; rfl
        try simp only [Act.put, List.setIfInBounds_toArray, List.set_cons_zero, List.set_cons_succ]
        refine wpAnyH_take (i := 4) (oi := ?oiz5) (v := ?vz5) ?hiz5 (by kernel_rfl) (by kernel_rfl) (by kernel_rfl) ?hQz5 ?hyz5 (by assumption) ?restz5
        case hiz5 => simp only [List.getElem?_toArray, List.getElem?_cons_zero, List.getElem?_cons_succ]; rfl
        case hQz5 => exact fun _ _ _ h => h
        case hyz5 => exact Or.inl ⟨by rfl, by intro w hSw; (try dsimp only at hSw); go_simp; with_reducible rfl⟩
        try simp only [Act.put, List.setIfInBounds_toArray, List.set_cons_zero, List.set_cons_succ]
        refine wpAnyH_take (i := 5) (oi := ?oiz6) (v := ?vz6) ?hiz6 (by kernel_rfl) (by kernel_rfl) (by kernel_rfl) ?hQz6 ?hyz6 (by assumption) ?restz6
        case hiz6 => simp only [List.getElem?_toArray, List.getElem?_cons_zero, List.getElem?_cons_succ]; rfl
        case hQz6 => exact fun _ _ _ h => h
        case hyz6 => exact Or.inl ⟨by rfl, by intro w hSw; (try dsimp only at hSw); go_simp; with_reducible rfl⟩
        try simp only [Act.put, List.setIfInBounds_toArray, List.set_cons_zero, List.set_cons_succ]
        refine wpAnyH_take (i := 6) (oi := ?oiz7) (v := ?vz7) ?hiz7 (by kernel_rfl) (by kernel_rfl) (by kernel_rfl) ?hQz7 ?hyz7 (by assumption) ?restz7
        case hiz7 => simp only [List.getElem?_toArray, List.getElem?_cons_zero, List.getElem?_cons_succ]; rfl
        case hQz7 => exact fun _ _ _ h => h
        case hyz7 => exact Or.inl ⟨by rfl, by intro w hSw; (try dsimp only at hSw); go_simp; with_reducible rfl⟩
        try simp only [Act.put, List.setIfInBounds_toArray, List.set_cons_zero, List.set_cons_succ]
        refine wpAnyH_take (i := 7) (oi := ?oiz8) (v := (.agg (tKey.enc ys[k]).toArray)) ?hiz8 (by kernel_rfl) (by kernel_rfl) (by kernel_rfl) ?hQz8 ?hyz8 (by assumption) ?restz8
        case hiz8 => simp only [List.getElem?_toArray, List.getElem?_cons_zero, List.getElem?_cons_succ]; rfl
        case hQz8 => exact fun _ _ _ h => h
        case hyz8 => refine yields_loadR g2 (o2 + k * 32) (tKey.enc ys[k]) (by rw [tKey.len _ HX1.out]; exact aggKey) HD1.out ?_ _ rfl rfl; rfl
        try simp only [Act.put, List.setIfInBounds_toArray, List.set_cons_zero, List.set_cons_succ]
        refine wpAnyH_take (i := 8) (oi := ?oiz9) (v := ?vz9) ?hiz9 (by kernel_rfl) (by kernel_rfl) (by kernel_rfl) ?hQz9 ?hyz9 (by assumption) ?restz9
        case hiz9 => simp only [List.getElem?_toArray, List.getElem?_cons_zero, List.getElem?_cons_succ]; rfl
        case hQz9 => exact fun _ _ _ h => h
        case hyz9 => exact Or.inl ⟨by rfl, by intro w hSw; (try dsimp only at hSw); go_simp; with_reducible rfl⟩
        try simp only [Act.put, List.setIfInBounds_toArray, List.set_cons_zero, List.set_cons_succ]
        refine wpAnyH_done (by kernel_rfl) ?_ _
        have HX2 := Lib.hid (HX.out.trans hHeld)
        clear hHeld
        go_wp2
        go_roundw
        case rel => exact ⟨k + 1, by omega, by go_num, by rw [List.take_succ_eq_append_getElem hlt, List.take_succ_eq_append_getElem hlt', Ht.out, He.out], HX2.out⟩
        case measure => simp [intOf]; omega
      · have He := Lib.hid he
        have hneq : ∀ W, (binOp .neq 40 (.agg (tKey.enc xs[k]).toArray) (.agg (tKey.enc ys[k]).toArray)).run Try.prog W = .ok (.bool true) W := fun W => by
          have := run_neqKey xs[k] ys[k] HX0.out HX1.out W
          rw [decide_eq_false He.out] at this
          exact this
        clear he
        go_wp2_with fail
        refine wp_region_held_drew (S := fun W => Ext wr W) (by kernel_rfl) (Ext.refl _).drew (fun hHeld => ?_)
        refine wpAnyH_take (i := 0) (oi := ?oiz10) (v := ?vz10) ?hiz10 (by kernel_rfl) (by kernel_rfl) (by kernel_rfl) ?hQz10 ?hyz10 (by assumption) ?restz10
        case hiz10 => simp only [List.getElem?_toArray, List.getElem?_cons_zero, List.getElem?_cons_succ]; rfl
        case hQz10 => exact fun _ _ _ h => h
        case hyz10 => exact Or.inl ⟨by rfl, by intro w hSw; (try dsimp only at hSw); go_simp; with_reducible rfl⟩
        try simp only [Act.put, List.setIfInBounds_toArray, List.set_cons_zero, List.set_cons_succ]
        refine wpAnyH_take (i := 1) (oi := ?oiz11) (v := ?vz11) ?hiz11 (by kernel_rfl) (by kernel_rfl) (by kernel_rfl) ?hQz11 ?hyz11 (by assumption) ?restz11
        case hiz11 => simp only [List.getElem?_toArray, List.getElem?_cons_zero, List.getElem?_cons_succ]; rfl
        case hQz11 => exact fun _ _ _ h => h
        case hyz11 => exact Or.inl ⟨by rfl, by intro w hSw; (try dsimp only at hSw); go_simp; with_reducible rfl⟩
        try simp only [Act.put, List.setIfInBounds_toArray, List.set_cons_zero, List.set_cons_succ]
        refine wpAnyH_take (i := 2) (oi := ?oiz12) (v := ?vz12) ?hiz12 (by kernel_rfl) (by kernel_rfl) (by kernel_rfl) ?hQz12 ?hyz12 (by assumption) ?restz12
        case hiz12 => simp only [List.getElem?_toArray, List.getElem?_cons_zero, List.getElem?_cons_succ]; rfl
        case hQz12 => exact fun _ _ _ h => h
        case hyz12 => exact Or.inl ⟨by rfl, by intro w hSw; (try dsimp only at hSw); go_simp; with_reducible rfl⟩
        try simp only [Act.put, List.setIfInBounds_toArray, List.set_cons_zero, List.set_cons_succ]
        refine wpAnyH_take (i := 3) (oi := ?oiz13) (v := (.agg (tKey.enc xs[k]).toArray)) ?hiz13 (by kernel_rfl) (by kernel_rfl) (by kernel_rfl) ?hQz13 ?hyz13 (by assumption) ?restz13
        case hiz13 => simp only [List.getElem?_toArray, List.getElem?_cons_zero, List.getElem?_cons_succ]; rfl
        case hQz13 => exact fun _ _ _ h => h
        case hyz13 => refine yields_loadR g (o + k * 32) (tKey.enc xs[k]) (by rw [tKey.len _ HX0.out]; exact aggKey) HD0.out ?_ _ rfl rfl; rfl
        try simp only [Act.put, List.setIfInBounds_toArray, List.set_cons_zero, List.set_cons_succ]
        refine wpAnyH_take (i := 4) (oi := ?oiz14) (v := ?vz14) ?hiz14 (by kernel_rfl) (by kernel_rfl) (by kernel_rfl) ?hQz14 ?hyz14 (by assumption) ?restz14
        case hiz14 => simp only [List.getElem?_toArray, List.getElem?_cons_zero, List.getElem?_cons_succ]; rfl
        case hQz14 => exact fun _ _ _ h => h
        case hyz14 => exact Or.inl ⟨by rfl, by intro w hSw; (try dsimp only at hSw); go_simp; with_reducible rfl⟩
        try simp only [Act.put, List.setIfInBounds_toArray, List.set_cons_zero, List.set_cons_succ]
        refine wpAnyH_take (i := 5) (oi := ?oiz15) (v := ?vz15) ?hiz15 (by kernel_rfl) (by kernel_rfl) (by kernel_rfl) ?hQz15 ?hyz15 (by assumption) ?restz15
        case hiz15 => simp only [List.getElem?_toArray, List.getElem?_cons_zero, List.getElem?_cons_succ]; rfl
        case hQz15 => exact fun _ _ _ h => h
        case hyz15 => exact Or.inl ⟨by rfl, by intro w hSw; (try dsimp only at hSw); go_simp; with_reducible rfl⟩
        try simp only [Act.put, List.setIfInBounds_toArray, List.set_cons_zero, List.set_cons_succ]
        refine wpAnyH_take (i := 6) (oi := ?oiz16) (v := ?vz16) ?hiz16 (by kernel_rfl) (by kernel_rfl) (by kernel_rfl) ?hQz16 ?hyz16 (by assumption) ?restz16
        case hiz16 => simp only [List.getElem?_toArray, List.getElem?_cons_zero, List.getElem?_cons_succ]; rfl
        case hQz16 => exact fun _ _ _ h => h
        case hyz16 => exact Or.inl ⟨by rfl, by intro w hSw; (try dsimp only at hSw); go_simp; with_reducible rfl⟩
        try simp only [Act.put, List.setIfInBounds_toArray, List.set_cons_zero, List.set_cons_succ]
        refine wpAnyH_take (i := 7) (oi := ?oiz17) (v := (.agg (tKey.enc ys[k]).toArray)) ?hiz17 (by kernel_rfl) (by kernel_rfl) (by kernel_rfl) ?hQz17 ?hyz17 (by assumption) ?restz17
        case hiz17 => simp only [List.getElem?_toArray, List.getElem?_cons_zero, List.getElem?_cons_succ]; rfl
        case hQz17 => exact fun _ _ _ h => h
        case hyz17 => refine yields_loadR g2 (o2 + k * 32) (tKey.enc ys[k]) (by rw [tKey.len _ HX1.out]; exact aggKey) HD1.out ?_ _ rfl rfl; rfl
        try simp only [Act.put, List.setIfInBounds_toArray, List.set_cons_zero, List.set_cons_succ]
        refine wpAnyH_take (i := 8) (oi := ?oiz18) (v := ?vz18) ?hiz18 (by kernel_rfl) (by kernel_rfl) (by kernel_rfl) ?hQz18 ?hyz18 (by assumption) ?restz18
        case hiz18 => simp only [List.getElem?_toArray, List.getElem?_cons_zero, List.getElem?_cons_succ]; rfl
        case hQz18 => exact fun _ _ _ h => h
        case hyz18 => exact Or.inl ⟨by rfl, by intro w hSw; (try dsimp only at hSw); go_simp; with_reducible rfl⟩
        try simp only [Act.put, List.setIfInBounds_toArray, List.set_cons_zero, List.set_cons_succ]
        refine wpAnyH_done (by kernel_rfl) ?_ _
        have HX2 := Lib.hid (HX.out.trans hHeld)
        clear hHeld
        go_wp2
        go_ret
        exact ⟨by rw [decide_eq_false (fun h => He.out (by subst h; rfl))]; rfl, HX2.out⟩
    · go_wp2
      go_ret
      obtain rfl : k = xs.length := by omega
      refine ⟨?_, HX.out⟩
      have e := Ht.out
      rw [List.take_of_length_le (by omega), List.take_of_length_le (by rw [Hl.out]; omega)] at e
      rw [decide_eq_true e]; rfl
set_option maxHeartbeats 1000000 in
set_option maxRecDepth 100000 in
theorem slEqualKey_any (v u : Value) (xs ys : List (List Int)) (w : World) (S S' : Nat → Prop) (h : RdL tKey w S v xs) (h' : RdL tKey w S' u ys) :
    Calls Try.prog 93 #[v, u] w fun e w' => e = .returned (.bool (decide (xs = ys))) ∧ Ext w w' := by
  obtain ⟨A, cap, rfl, hcap, hlen, hrd, hok⟩ := h
  obtain ⟨A', cap', rfl, hcap', hlen', hrd', hok'⟩ := h'
  have Hrd := Lib.hid hrd
  have Hrd' := Lib.hid hrd'
  have Hok := Lib.hid hok
  have Hok' := Lib.hid hok'
  clear hrd hok hrd' hok'
  by_cases hl : xs.length = ys.length
  rotate_left
  · have Hl := Lib.hid hl
    have hl1 : ((xs.length : Int) != (ys.length : Int)) = true := by simp; omega
    clear hl
    go_enter Try.func93, Try.ntmps93
    go_wp2
    go_ret
    exact ⟨by rw [decide_eq_false (fun h => Hl.out (by rw [h]))]; rfl, Ext.refl _⟩
  have Hl := Lib.hid hl
  have hl1 : ((xs.length : Int) != (ys.length : Int)) = false := by simp [hl]
  clear hl
  go_enter Try.func93, Try.ntmps93
  go_wp2
  go_loopw [13] (fun i wr => ∃ k : Nat, k ≤ xs.length ∧ i = .int .i64 k ∧ xs.take k = ys.take k ∧ Ext w wr) (fun i _ => xs.length - (intOf i).toNat)
  case atStart => exact ⟨0, by omega, rfl, by simp, Ext.refl _⟩
  case round =>
    obtain ⟨k, hk, rfl, ht, hx⟩ := hrel
    have Ht := Lib.hid ht
    have HX := Lib.hid hx
    clear ht hl1 hx
    by_cases hlt : k < xs.length
    · have hlt' : k < ys.length := by rw [← Hl.out]; exact hlt
      obtain ⟨g, o, rfl, hs, hc⟩ := Hrd.out.elem Hok.out k hlt
      obtain ⟨g2, o2, rfl, hs2, hc2⟩ := Hrd'.out.elem Hok'.out k hlt'
      have HX0 := Lib.hid (show K32 xs[k] from Hok.out _ (List.getElem_mem hlt))
      have HX1 := Lib.hid (show K32 ys[k] from Hok'.out _ (List.getElem_mem hlt'))
      have HD0 := Lib.hid (show ∀ j u, (tKey.enc xs[k])[j]? = some u → wr.cell? ⟨g, o + k * 32 + j, none⟩ = some u from fun j u hu => HX.out.cell (hc j u hu))
      have HD1 := Lib.hid (show ∀ j u, (tKey.enc ys[k])[j]? = some u → wr.cell? ⟨g2, o2 + k * 32 + j, none⟩ = some u from fun j u hu => HX.out.cell (hc2 j u hu))
      clear hc hc2
      have hi : (0 : Int) ≤ (k : Int) := by omega
      have hi2 : (k : Int) < (xs.length : Int) := by omega
      have hi3 : (k : Int) < (ys.length : Int) := by omega
      by_cases he : xs[k] = ys[k]
      · have He := Lib.hid he
        have hneq : ∀ W, (binOp .neq 40 (.agg (tKey.enc xs[k]).toArray) (.agg (tKey.enc ys[k]).toArray)).run Try.prog W = .ok (.bool false) W := fun W => by
          have := run_neqKey xs[k] ys[k] HX0.out HX1.out W
          rw [decide_eq_true He.out] at this
          exact this
        clear he
        go_wp2_with fail
        refine wp_region_held_drew (S := fun W => Ext wr W) (by kernel_rfl) (Ext.refl _).drew (fun hHeld => ?_)
        refine wpAnyH_take (i := 0) (oi := ?oiz19) (v := ?vz19) ?hiz19 (by kernel_rfl) (by kernel_rfl) (by kernel_rfl) ?hQz19 ?hyz19 (by assumption) ?restz19
        case hiz19 => simp only [List.getElem?_toArray, List.getElem?_cons_zero, List.getElem?_cons_succ]; rfl
        case hQz19 => exact fun _ _ _ h => h
        case hyz19 => exact Or.inl ⟨by rfl, by intro w hSw; (try dsimp only at hSw); go_simp; with_reducible rfl⟩
        try simp only [Act.put, List.setIfInBounds_toArray, List.set_cons_zero, List.set_cons_succ]
        refine wpAnyH_take (i := 1) (oi := ?oiz20) (v := ?vz20) ?hiz20 (by kernel_rfl) (by kernel_rfl) (by kernel_rfl) ?hQz20 ?hyz20 (by assumption) ?restz20
        case hiz20 => simp only [List.getElem?_toArray, List.getElem?_cons_zero, List.getElem?_cons_succ]; rfl
        case hQz20 => exact fun _ _ _ h => h
        case hyz20 => exact Or.inl ⟨by rfl, by intro w hSw; (try dsimp only at hSw); go_simp; with_reducible rfl⟩
        try simp only [Act.put, List.setIfInBounds_toArray, List.set_cons_zero, List.set_cons_succ]
        refine wpAnyH_take (i := 2) (oi := ?oiz21) (v := ?vz21) ?hiz21 (by kernel_rfl) (by kernel_rfl) (by kernel_rfl) ?hQz21 ?hyz21 (by assumption) ?restz21
        case hiz21 => simp only [List.getElem?_toArray, List.getElem?_cons_zero, List.getElem?_cons_succ]; rfl
        case hQz21 => exact fun _ _ _ h => h
        case hyz21 => exact Or.inl ⟨by rfl, by intro w hSw; (try dsimp only at hSw); go_simp; with_reducible rfl⟩
        try simp only [Act.put, List.setIfInBounds_toArray, List.set_cons_zero, List.set_cons_succ]
        refine wpAnyH_take (i := 3) (oi := ?oiz22) (v := (.agg (tKey.enc xs[k]).toArray)) ?hiz22 (by kernel_rfl) (by kernel_rfl) (by kernel_rfl) ?hQz22 ?hyz22 (by assumption) ?restz22
        case hiz22 => simp only [List.getElem?_toArray, List.getElem?_cons_zero, List.getElem?_cons_succ]; rfl
        case hQz22 => exact fun _ _ _ h => h
        case hyz22 => refine yields_loadR g (o + k * 32) (tKey.enc xs[k]) (by rw [tKey.len _ HX0.out]; exact aggKey) HD0.out ?_ _ rfl rfl; rfl
        try simp only [Act.put, List.setIfInBounds_toArray, List.set_cons_zero, List.set_cons_succ]
        refine wpAnyH_take (i := 4) (oi := ?oiz23) (v := ?vz23) ?hiz23 (by kernel_rfl) (by kernel_rfl) (by kernel_rfl) ?hQz23 ?hyz23 (by assumption) ?restz23
        case hiz23 => simp only [List.getElem?_toArray, List.getElem?_cons_zero, List.getElem?_cons_succ]; rfl
        case hQz23 => exact fun _ _ _ h => h
        case hyz23 => exact Or.inl ⟨by rfl, by intro w hSw; (try dsimp only at hSw); go_simp; with_reducible rfl⟩
        try simp only [Act.put, List.setIfInBounds_toArray, List.set_cons_zero, List.set_cons_succ]
        refine wpAnyH_take (i := 5) (oi := ?oiz24) (v := ?vz24) ?hiz24 (by kernel_rfl) (by kernel_rfl) (by kernel_rfl) ?hQz24 ?hyz24 (by assumption) ?restz24
        case hiz24 => simp only [List.getElem?_toArray, List.getElem?_cons_zero, List.getElem?_cons_succ]; rfl
        case hQz24 => exact fun _ _ _ h => h
        case hyz24 => exact Or.inl ⟨by rfl, by intro w hSw; (try dsimp only at hSw); go_simp; with_reducible rfl⟩
        try simp only [Act.put, List.setIfInBounds_toArray, List.set_cons_zero, List.set_cons_succ]
        refine wpAnyH_take (i := 6) (oi := ?oiz25) (v := ?vz25) ?hiz25 (by kernel_rfl) (by kernel_rfl) (by kernel_rfl) ?hQz25 ?hyz25 (by assumption) ?restz25
        case hiz25 => simp only [List.getElem?_toArray, List.getElem?_cons_zero, List.getElem?_cons_succ]; rfl
        case hQz25 => exact fun _ _ _ h => h
        case hyz25 => exact Or.inl ⟨by rfl, by intro w hSw; (try dsimp only at hSw); go_simp; with_reducible rfl⟩
        try simp only [Act.put, List.setIfInBounds_toArray, List.set_cons_zero, List.set_cons_succ]
        refine wpAnyH_take (i := 7) (oi := ?oiz26) (v := (.agg (tKey.enc ys[k]).toArray)) ?hiz26 (by kernel_rfl) (by kernel_rfl) (by kernel_rfl) ?hQz26 ?hyz26 (by assumption) ?restz26
        case hiz26 => simp only [List.getElem?_toArray, List.getElem?_cons_zero, List.getElem?_cons_succ]; rfl
        case hQz26 => exact fun _ _ _ h => h
        case hyz26 => refine yields_loadR g2 (o2 + k * 32) (tKey.enc ys[k]) (by rw [tKey.len _ HX1.out]; exact aggKey) HD1.out ?_ _ rfl rfl; rfl
        try simp only [Act.put, List.setIfInBounds_toArray, List.set_cons_zero, List.set_cons_succ]
        refine wpAnyH_take (i := 8) (oi := ?oiz27) (v := ?vz27) ?hiz27 (by kernel_rfl) (by kernel_rfl) (by kernel_rfl) ?hQz27 ?hyz27 (by assumption) ?restz27
        case hiz27 => simp only [List.getElem?_toArray, List.getElem?_cons_zero, List.getElem?_cons_succ]; rfl
        case hQz27 => exact fun _ _ _ h => h
        case hyz27 => exact Or.inl ⟨by rfl, by intro w hSw; (try dsimp only at hSw); go_simp; with_reducible rfl⟩
        try simp only [Act.put, List.setIfInBounds_toArray, List.set_cons_zero, List.set_cons_succ]
        refine wpAnyH_done (by kernel_rfl) ?_ _
        have HX2 := Lib.hid (HX.out.trans hHeld)
        clear hHeld
        go_wp2
        go_roundw
        case rel => exact ⟨k + 1, by omega, by go_num, by rw [List.take_succ_eq_append_getElem hlt, List.take_succ_eq_append_getElem hlt', Ht.out, He.out], HX2.out⟩
        case measure => simp [intOf]; omega
      · have He := Lib.hid he
        have hneq : ∀ W, (binOp .neq 40 (.agg (tKey.enc xs[k]).toArray) (.agg (tKey.enc ys[k]).toArray)).run Try.prog W = .ok (.bool true) W := fun W => by
          have := run_neqKey xs[k] ys[k] HX0.out HX1.out W
          rw [decide_eq_false He.out] at this
          exact this
        clear he
        go_wp2_with fail
        refine wp_region_held_drew (S := fun W => Ext wr W) (by kernel_rfl) (Ext.refl _).drew (fun hHeld => ?_)
        refine wpAnyH_take (i := 0) (oi := ?oiz28) (v := ?vz28) ?hiz28 (by kernel_rfl) (by kernel_rfl) (by kernel_rfl) ?hQz28 ?hyz28 (by assumption) ?restz28
        case hiz28 => simp only [List.getElem?_toArray, List.getElem?_cons_zero, List.getElem?_cons_succ]; rfl
        case hQz28 => exact fun _ _ _ h => h
        case hyz28 => exact Or.inl ⟨by rfl, by intro w hSw; (try dsimp only at hSw); go_simp; with_reducible rfl⟩
        try simp only [Act.put, List.setIfInBounds_toArray, List.set_cons_zero, List.set_cons_succ]
        refine wpAnyH_take (i := 1) (oi := ?oiz29) (v := ?vz29) ?hiz29 (by kernel_rfl) (by kernel_rfl) (by kernel_rfl) ?hQz29 ?hyz29 (by assumption) ?restz29
        case hiz29 => simp only [List.getElem?_toArray, List.getElem?_cons_zero, List.getElem?_cons_succ]; rfl
        case hQz29 => exact fun _ _ _ h => h
        case hyz29 => exact Or.inl ⟨by rfl, by intro w hSw; (try dsimp only at hSw); go_simp; with_reducible rfl⟩
        try simp only [Act.put, List.setIfInBounds_toArray, List.set_cons_zero, List.set_cons_succ]
        refine wpAnyH_take (i := 2) (oi := ?oiz30) (v := ?vz30) ?hiz30 (by kernel_rfl) (by kernel_rfl) (by kernel_rfl) ?hQz30 ?hyz30 (by assumption) ?restz30
        case hiz30 => simp only [List.getElem?_toArray, List.getElem?_cons_zero, List.getElem?_cons_succ]; rfl
        case hQz30 => exact fun _ _ _ h => h
        case hyz30 => exact Or.inl ⟨by rfl, by intro w hSw; (try dsimp only at hSw); go_simp; with_reducible rfl⟩
        try simp only [Act.put, List.setIfInBounds_toArray, List.set_cons_zero, List.set_cons_succ]
        refine wpAnyH_take (i := 3) (oi := ?oiz31) (v := (.agg (tKey.enc xs[k]).toArray)) ?hiz31 (by kernel_rfl) (by kernel_rfl) (by kernel_rfl) ?hQz31 ?hyz31 (by assumption) ?restz31
        case hiz31 => simp only [List.getElem?_toArray, List.getElem?_cons_zero, List.getElem?_cons_succ]; rfl
        case hQz31 => exact fun _ _ _ h => h
        case hyz31 => refine yields_loadR g (o + k * 32) (tKey.enc xs[k]) (by rw [tKey.len _ HX0.out]; exact aggKey) HD0.out ?_ _ rfl rfl; rfl
        try simp only [Act.put, List.setIfInBounds_toArray, List.set_cons_zero, List.set_cons_succ]
        refine wpAnyH_take (i := 4) (oi := ?oiz32) (v := ?vz32) ?hiz32 (by kernel_rfl) (by kernel_rfl) (by kernel_rfl) ?hQz32 ?hyz32 (by assumption) ?restz32
        case hiz32 => simp only [List.getElem?_toArray, List.getElem?_cons_zero, List.getElem?_cons_succ]; rfl
        case hQz32 => exact fun _ _ _ h => h
        case hyz32 => exact Or.inl ⟨by rfl, by intro w hSw; (try dsimp only at hSw); go_simp; with_reducible rfl⟩
        try simp only [Act.put, List.setIfInBounds_toArray, List.set_cons_zero, List.set_cons_succ]
        refine wpAnyH_take (i := 5) (oi := ?oiz33) (v := ?vz33) ?hiz33 (by kernel_rfl) (by kernel_rfl) (by kernel_rfl) ?hQz33 ?hyz33 (by assumption) ?restz33
        case hiz33 => simp only [List.getElem?_toArray, List.getElem?_cons_zero, List.getElem?_cons_succ]; rfl
        case hQz33 => exact fun _ _ _ h => h
        case hyz33 => exact Or.inl ⟨by rfl, by intro w hSw; (try dsimp only at hSw); go_simp; with_reducible rfl⟩
        try simp only [Act.put, List.setIfInBounds_toArray, List.set_cons_zero, List.set_cons_succ]
        refine wpAnyH_take (i := 6) (oi := ?oiz34) (v := ?vz34) ?hiz34 (by kernel_rfl) (by kernel_rfl) (by kernel_rfl) ?hQz34 ?hyz34 (by assumption) ?restz34
        case hiz34 => simp only [List.getElem?_toArray, List.getElem?_cons_zero, List.getElem?_cons_succ]; rfl
        case hQz34 => exact fun _ _ _ h => h
        case hyz34 => exact Or.inl ⟨by rfl, by intro w hSw; (try dsimp only at hSw); go_simp; with_reducible rfl⟩
        try simp only [Act.put, List.setIfInBounds_toArray, List.set_cons_zero, List.set_cons_succ]
        refine wpAnyH_take (i := 7) (oi := ?oiz35) (v := (.agg (tKey.enc ys[k]).toArray)) ?hiz35 (by kernel_rfl) (by kernel_rfl) (by kernel_rfl) ?hQz35 ?hyz35 (by assumption) ?restz35
        case hiz35 => simp only [List.getElem?_toArray, List.getElem?_cons_zero, List.getElem?_cons_succ]; rfl
        case hQz35 => exact fun _ _ _ h => h
        case hyz35 => refine yields_loadR g2 (o2 + k * 32) (tKey.enc ys[k]) (by rw [tKey.len _ HX1.out]; exact aggKey) HD1.out ?_ _ rfl rfl; rfl
        try simp only [Act.put, List.setIfInBounds_toArray, List.set_cons_zero, List.set_cons_succ]
        refine wpAnyH_take (i := 8) (oi := ?oiz36) (v := ?vz36) ?hiz36 (by kernel_rfl) (by kernel_rfl) (by kernel_rfl) ?hQz36 ?hyz36 (by assumption) ?restz36
        case hiz36 => simp only [List.getElem?_toArray, List.getElem?_cons_zero, List.getElem?_cons_succ]; rfl
        case hQz36 => exact fun _ _ _ h => h
        case hyz36 => exact Or.inl ⟨by rfl, by intro w hSw; (try dsimp only at hSw); go_simp; with_reducible rfl⟩
        try simp only [Act.put, List.setIfInBounds_toArray, List.set_cons_zero, List.set_cons_succ]
        refine wpAnyH_done (by kernel_rfl) ?_ _
        have HX2 := Lib.hid (HX.out.trans hHeld)
        clear hHeld
        go_wp2
        go_ret
        exact ⟨by rw [decide_eq_false (fun h => He.out (by subst h; rfl))]; rfl, HX2.out⟩
    · go_wp2
      go_ret
      obtain rfl : k = xs.length := by omega
      refine ⟨?_, HX.out⟩
      have e := Ht.out
      rw [List.take_of_length_le (by omega), List.take_of_length_le (by rw [Hl.out]; omega)] at e
      rw [decide_eq_true e]; rfl
/-- equal commits -/
@[irreducible] def sameCm (x y : Cm) : Bool := decide (x.root = y.root) && (decide (x.par = y.par) && ((x.num == y.num) && (x.note.toList == y.note.toList)))
theorem sameCm_eq (x y : Cm) : sameCm x y = (decide (x.root = y.root) && (decide (x.par = y.par) && ((x.num == y.num) && (x.note.toList == y.note.toList)))) := by rw [sameCm]
attribute [local irreducible] Blk in
set_option maxHeartbeats 1000000 in
set_option maxRecDepth 100000 in
theorem l07Same_any (cs cs' : Array Value) (x y : Cm) (w : World) (S S' : Nat → Prop) (h : RCommit w S cs x) (h' : RCommit w S' cs' y) (b b' : Nat) (hb : Blk w b 43 cs) (hb' : Blk w b' 43 cs') :
    Calls Try.prog 62 #[.pointer (some ⟨b, 0, none⟩), .pointer (some ⟨b', 0, none⟩)] w fun e w' => e = .returned (.bool (sameCm x y)) ∧ Ext w w' := by
  obtain ⟨v, rfl, hr, hroot, hnum, hnote⟩ := h
  obtain ⟨v', rfl, hr', hroot', hnum', hnote'⟩ := h'
  obtain ⟨A, cap, rfl, _⟩ := id hr
  obtain ⟨A', cap', rfl, _⟩ := id hr'
  have H := Lib.hid hr
  have H' := Lib.hid hr'
  have HL := Lib.hid (sizeN (k := .u8) hroot.1)
  have HL' := Lib.hid (sizeN (k := .u8) hroot'.1)
  have HB := Lib.hid hb
  have HB' := Lib.hid hb'
  have HAT := Lib.hid (Cm.at_ hroot (.slice A x.par.length cap))
  have HAT' := Lib.hid (Cm.at_ hroot' (.slice A' y.par.length cap'))
  have HE := Lib.hid (sameCm_eq x y)
  have heq := run_eqKey x.root y.root hroot hroot'
  clear hr hr' hb hb' hroot hroot'
  have hls := fun W (h1 : RdL tKey W S (.slice A x.par.length cap) x.par) (h2 : RdL tKey W S' (.slice A' y.par.length cap') y.par) => l03Lists_any _ _ x.par y.par W S S' h1 h2
  have c0 : ∀ W, Ext w W → W.cell? ⟨b, 32, none⟩ = some (.slice A x.par.length cap) := fun W hW => (HB.out.ext hW).at_ 32 HAT.out.1
  have c1 : ∀ W, Ext w W → W.cell? ⟨b', 32, none⟩ = some (.slice A' y.par.length cap') := fun W hW => (HB'.out.ext hW).at_ 32 HAT'.out.1
  have c2 : ∀ W, Ext w W → W.cell? ⟨b, 33, none⟩ = some (.int .i64 x.num) := fun W hW => (HB.out.ext hW).at_ 33 HAT.out.2.1
  have c3 : ∀ W, Ext w W → W.cell? ⟨b', 33, none⟩ = some (.int .i64 y.num) := fun W hW => (HB'.out.ext hW).at_ 33 HAT'.out.2.1
  have c4 : ∀ W, Ext w W → W.cell? ⟨b, 34, none⟩ = some (.string x.note) := fun W hW => (HB.out.ext hW).at_ 34 HAT.out.2.2
  have c5 : ∀ W, Ext w W → W.cell? ⟨b', 34, none⟩ = some (.string y.note) := fun W hW => (HB'.out.ext hW).at_ 34 HAT'.out.2.2
  have R := Ext.refl w
  by_cases e1 : x.root = y.root
  rotate_left
  · have E1 := Lib.hid e1
    simp only [decide_eq_false e1] at heq
    clear e1
    go_enter Try.func62, Try.ntmps62
    go_wp2_with fail
    refine wp_region_held_drew (S := fun W => Ext w W) (by kernel_rfl) (Ext.refl _).drew (fun hHeld => ?_)
    refine wpAnyH_take (i := 0) (oi := ?oiz37) (v := ?vz37) ?hiz37 (by kernel_rfl) (by kernel_rfl) (by kernel_rfl) ?hQz37 ?hyz37 (by assumption) ?restz37
    case hiz37 => simp only [List.getElem?_toArray, List.getElem?_cons_zero, List.getElem?_cons_succ]; rfl
    case hQz37 => exact fun _ _ _ h => h
    case hyz37 => exact Or.inl ⟨by rfl, by intro w hSw; (try dsimp only at hSw); go_simp; with_reducible rfl⟩
    try simp only [Act.put, List.setIfInBounds_toArray, List.set_cons_zero, List.set_cons_succ]
    refine wpAnyH_take (i := 1) (oi := ?oiz38) (v := ?vz38) ?hiz38 (by kernel_rfl) (by kernel_rfl) (by kernel_rfl) ?hQz38 ?hyz38 (by assumption) ?restz38
    case hiz38 => simp only [List.getElem?_toArray, List.getElem?_cons_zero, List.getElem?_cons_succ]; rfl
    case hQz38 => exact fun _ _ _ h => h
    case hyz38 => exact Or.inl ⟨by rfl, by intro w hSw; (try dsimp only at hSw); go_simp; with_reducible rfl⟩
    try simp only [Act.put, List.setIfInBounds_toArray, List.set_cons_zero, List.set_cons_succ]
    refine wpAnyH_take (i := 2) (oi := ?oiz39) (v := ?vz39) ?hiz39 (by kernel_rfl) (by kernel_rfl) (by kernel_rfl) ?hQz39 ?hyz39 (by assumption) ?restz39
    case hiz39 => simp only [List.getElem?_toArray, List.getElem?_cons_zero, List.getElem?_cons_succ]; rfl
    case hQz39 => exact fun _ _ _ h => h
    case hyz39 => exact Or.inl ⟨by rfl, by intro w hSw; (try dsimp only at hSw); go_simp; with_reducible rfl⟩
    try simp only [Act.put, List.setIfInBounds_toArray, List.set_cons_zero, List.set_cons_succ]
    refine wpAnyH_take (i := 3) (oi := ?oiz40) (v := (.agg (numsA .u8 x.root))) ?hiz40 (by kernel_rfl) (by kernel_rfl) (by kernel_rfl) ?hQz40 ?hyz40 (by assumption) ?restz40
    case hiz40 => simp only [List.getElem?_toArray, List.getElem?_cons_zero, List.getElem?_cons_succ]; rfl
    case hQz40 => exact fun _ _ _ h => h
    case hyz40 => refine yields_loadP HB.out aggKey HL.out (Cm.root_at _) ?_ _ rfl rfl; rfl
    try simp only [Act.put, List.setIfInBounds_toArray, List.set_cons_zero, List.set_cons_succ]
    refine wpAnyH_take (i := 4) (oi := ?oiz41) (v := ?vz41) ?hiz41 (by kernel_rfl) (by kernel_rfl) (by kernel_rfl) ?hQz41 ?hyz41 (by assumption) ?restz41
    case hiz41 => simp only [List.getElem?_toArray, List.getElem?_cons_zero, List.getElem?_cons_succ]; rfl
    case hQz41 => exact fun _ _ _ h => h
    case hyz41 => exact Or.inl ⟨by rfl, by intro w hSw; (try dsimp only at hSw); go_simp; with_reducible rfl⟩
    try simp only [Act.put, List.setIfInBounds_toArray, List.set_cons_zero, List.set_cons_succ]
    refine wpAnyH_take (i := 5) (oi := ?oiz42) (v := ?vz42) ?hiz42 (by kernel_rfl) (by kernel_rfl) (by kernel_rfl) ?hQz42 ?hyz42 (by assumption) ?restz42
    case hiz42 => simp only [List.getElem?_toArray, List.getElem?_cons_zero, List.getElem?_cons_succ]; rfl
    case hQz42 => exact fun _ _ _ h => h
    case hyz42 => exact Or.inl ⟨by rfl, by intro w hSw; (try dsimp only at hSw); go_simp; with_reducible rfl⟩
    try simp only [Act.put, List.setIfInBounds_toArray, List.set_cons_zero, List.set_cons_succ]
    refine wpAnyH_take (i := 6) (oi := ?oiz43) (v := ?vz43) ?hiz43 (by kernel_rfl) (by kernel_rfl) (by kernel_rfl) ?hQz43 ?hyz43 (by assumption) ?restz43
    case hiz43 => simp only [List.getElem?_toArray, List.getElem?_cons_zero, List.getElem?_cons_succ]; rfl
    case hQz43 => exact fun _ _ _ h => h
    case hyz43 => exact Or.inl ⟨by rfl, by intro w hSw; (try dsimp only at hSw); go_simp; with_reducible rfl⟩
    try simp only [Act.put, List.setIfInBounds_toArray, List.set_cons_zero, List.set_cons_succ]
    refine wpAnyH_take (i := 7) (oi := ?oiz44) (v := (.agg (numsA .u8 y.root))) ?hiz44 (by kernel_rfl) (by kernel_rfl) (by kernel_rfl) ?hQz44 ?hyz44 (by assumption) ?restz44
    case hiz44 => simp only [List.getElem?_toArray, List.getElem?_cons_zero, List.getElem?_cons_succ]; rfl
    case hQz44 => exact fun _ _ _ h => h
    case hyz44 => refine yields_loadP HB'.out aggKey HL'.out (Cm.root_at _) ?_ _ rfl rfl; rfl
    try simp only [Act.put, List.setIfInBounds_toArray, List.set_cons_zero, List.set_cons_succ]
    refine wpAnyH_take (i := 8) (oi := ?oiz45) (v := ?vz45) ?hiz45 (by kernel_rfl) (by kernel_rfl) (by kernel_rfl) ?hQz45 ?hyz45 (by assumption) ?restz45
    case hiz45 => simp only [List.getElem?_toArray, List.getElem?_cons_zero, List.getElem?_cons_succ]; rfl
    case hQz45 => exact fun _ _ _ h => h
    case hyz45 => exact Or.inl ⟨by rfl, by intro w hSw; (try dsimp only at hSw); go_simp; with_reducible rfl⟩
    try simp only [Act.put, List.setIfInBounds_toArray, List.set_cons_zero, List.set_cons_succ]
    refine wpAnyH_take (i := 9) (oi := ?oiz46) (v := ?vz46) ?hiz46 (by kernel_rfl) (by kernel_rfl) (by kernel_rfl) ?hQz46 ?hyz46 (by assumption) ?restz46
    case hiz46 => simp only [List.getElem?_toArray, List.getElem?_cons_zero, List.getElem?_cons_succ]; rfl
    case hQz46 => exact fun _ _ _ h => h
    case hyz46 => exact Or.inl ⟨by rfl, by intro w hSw; (try dsimp only at hSw); go_simp; with_reducible rfl⟩
    try simp only [Act.put, List.setIfInBounds_toArray, List.set_cons_zero, List.set_cons_succ]
    refine wpAnyH_take (i := 10) (oi := ?oiz47) (v := undef) ?hiz47 (by kernel_rfl) (by kernel_rfl) (by kernel_rfl) ?hQz47 ?hyz47 (by assumption) ?restz47
    case hiz47 => simp only [List.getElem?_toArray, List.getElem?_cons_zero, List.getElem?_cons_succ]; rfl
    case hQz47 => exact fun _ _ _ h => h
    case hyz47 => exact Or.inr ⟨by rfl, rfl⟩
    try simp only [Act.put, List.setIfInBounds_toArray, List.set_cons_zero, List.set_cons_succ]
    refine wpAnyH_take (i := 11) (oi := ?oiz48) (v := undef) ?hiz48 (by kernel_rfl) (by kernel_rfl) (by kernel_rfl) ?hQz48 ?hyz48 (by assumption) ?restz48
    case hiz48 => simp only [List.getElem?_toArray, List.getElem?_cons_zero, List.getElem?_cons_succ]; rfl
    case hQz48 => exact fun _ _ _ h => h
    case hyz48 => exact Or.inr ⟨by rfl, rfl⟩
    try simp only [Act.put, List.setIfInBounds_toArray, List.set_cons_zero, List.set_cons_succ]
    refine wpAnyH_take (i := 12) (oi := ?oiz49) (v := undef) ?hiz49 (by kernel_rfl) (by kernel_rfl) (by kernel_rfl) ?hQz49 ?hyz49 (by assumption) ?restz49
    case hiz49 => simp only [List.getElem?_toArray, List.getElem?_cons_zero, List.getElem?_cons_succ]; rfl
    case hQz49 => exact fun _ _ _ h => h
    case hyz49 => exact Or.inr ⟨by rfl, rfl⟩
    try simp only [Act.put, List.setIfInBounds_toArray, List.set_cons_zero, List.set_cons_succ]
    refine wpAnyH_take (i := 13) (oi := ?oiz50) (v := undef) ?hiz50 (by kernel_rfl) (by kernel_rfl) (by kernel_rfl) ?hQz50 ?hyz50 (by assumption) ?restz50
    case hiz50 => simp only [List.getElem?_toArray, List.getElem?_cons_zero, List.getElem?_cons_succ]; rfl
    case hQz50 => exact fun _ _ _ h => h
    case hyz50 => exact Or.inr ⟨by rfl, rfl⟩
    try simp only [Act.put, List.setIfInBounds_toArray, List.set_cons_zero, List.set_cons_succ]
    refine wpAnyH_take (i := 14) (oi := ?oiz51) (v := undef) ?hiz51 (by kernel_rfl) (by kernel_rfl) (by kernel_rfl) ?hQz51 ?hyz51 (by assumption) ?restz51
    case hiz51 => simp only [List.getElem?_toArray, List.getElem?_cons_zero, List.getElem?_cons_succ]; rfl
    case hQz51 => exact fun _ _ _ h => h
    case hyz51 => exact Or.inr ⟨by rfl, rfl⟩
    try simp only [Act.put, List.setIfInBounds_toArray, List.set_cons_zero, List.set_cons_succ]
    refine wpAnyH_take (i := 15) (oi := ?oiz52) (v := undef) ?hiz52 (by kernel_rfl) (by kernel_rfl) (by kernel_rfl) ?hQz52 ?hyz52 (by assumption) ?restz52
    case hiz52 => simp only [List.getElem?_toArray, List.getElem?_cons_zero, List.getElem?_cons_succ]; rfl
    case hQz52 => exact fun _ _ _ h => h
    case hyz52 => exact Or.inr ⟨by rfl, rfl⟩
    try simp only [Act.put, List.setIfInBounds_toArray, List.set_cons_zero, List.set_cons_succ]
    refine wpAnyH_take (i := 16) (oi := ?oiz53) (v := undef) ?hiz53 (by kernel_rfl) (by kernel_rfl) (by kernel_rfl) ?hQz53 ?hyz53 (by assumption) ?restz53
    case hiz53 => simp only [List.getElem?_toArray, List.getElem?_cons_zero, List.getElem?_cons_succ]; rfl
    case hQz53 => exact fun _ _ _ h => h
    case hyz53 => exact Or.inr ⟨by rfl, rfl⟩
    try simp only [Act.put, List.setIfInBounds_toArray, List.set_cons_zero, List.set_cons_succ]
    refine wpAnyH_take (i := 17) (oi := ?oiz54) (v := undef) ?hiz54 (by kernel_rfl) (by kernel_rfl) (by kernel_rfl) ?hQz54 ?hyz54 (by assumption) ?restz54
    case hiz54 => simp only [List.getElem?_toArray, List.getElem?_cons_zero, List.getElem?_cons_succ]; rfl
    case hQz54 => exact fun _ _ _ h => h
    case hyz54 => exact Or.inr ⟨by rfl, rfl⟩
    try simp only [Act.put, List.setIfInBounds_toArray, List.set_cons_zero, List.set_cons_succ]
    refine wpAnyH_take (i := 18) (oi := ?oiz55) (v := undef) ?hiz55 (by kernel_rfl) (by kernel_rfl) (by kernel_rfl) ?hQz55 ?hyz55 (by assumption) ?restz55
    case hiz55 => simp only [List.getElem?_toArray, List.getElem?_cons_zero, List.getElem?_cons_succ]; rfl
    case hQz55 => exact fun _ _ _ h => h
    case hyz55 => exact Or.inr ⟨by rfl, rfl⟩
    try simp only [Act.put, List.setIfInBounds_toArray, List.set_cons_zero, List.set_cons_succ]
    refine wpAnyH_take (i := 19) (oi := ?oiz56) (v := ?vz56) ?hiz56 (by kernel_rfl) (by kernel_rfl) (by kernel_rfl) ?hQz56 ?hyz56 (by assumption) ?restz56
    case hiz56 => simp only [List.getElem?_toArray, List.getElem?_cons_zero, List.getElem?_cons_succ]; rfl
    case hQz56 => exact fun _ _ _ h => h
    case hyz56 => exact Or.inl ⟨by rfl, by intro w hSw; (try dsimp only at hSw); go_simp; with_reducible rfl⟩
    try simp only [Act.put, List.setIfInBounds_toArray, List.set_cons_zero, List.set_cons_succ]
    refine wpAnyH_take (i := 20) (oi := ?oiz57) (v := ?vz57) ?hiz57 (by kernel_rfl) (by kernel_rfl) (by kernel_rfl) ?hQz57 ?hyz57 (by assumption) ?restz57
    case hiz57 => simp only [List.getElem?_toArray, List.getElem?_cons_zero, List.getElem?_cons_succ]; rfl
    case hQz57 => exact fun _ _ _ h => h
    case hyz57 => exact Or.inl ⟨by rfl, by intro w hSw; (try dsimp only at hSw); go_simp; with_reducible rfl⟩
    try simp only [Act.put, List.setIfInBounds_toArray, List.set_cons_zero, List.set_cons_succ]
    refine wpAnyH_take (i := 21) (oi := ?oiz58) (v := undef) ?hiz58 (by kernel_rfl) (by kernel_rfl) (by kernel_rfl) ?hQz58 ?hyz58 (by assumption) ?restz58
    case hiz58 => simp only [List.getElem?_toArray, List.getElem?_cons_zero, List.getElem?_cons_succ]; rfl
    case hQz58 => exact fun _ _ _ h => h
    case hyz58 => exact Or.inr ⟨by rfl, rfl⟩
    try simp only [Act.put, List.setIfInBounds_toArray, List.set_cons_zero, List.set_cons_succ]
    refine wpAnyH_take (i := 22) (oi := ?oiz59) (v := undef) ?hiz59 (by kernel_rfl) (by kernel_rfl) (by kernel_rfl) ?hQz59 ?hyz59 (by assumption) ?restz59
    case hiz59 => simp only [List.getElem?_toArray, List.getElem?_cons_zero, List.getElem?_cons_succ]; rfl
    case hQz59 => exact fun _ _ _ h => h
    case hyz59 => exact Or.inr ⟨by rfl, rfl⟩
    try simp only [Act.put, List.setIfInBounds_toArray, List.set_cons_zero, List.set_cons_succ]
    refine wpAnyH_take (i := 23) (oi := ?oiz60) (v := undef) ?hiz60 (by kernel_rfl) (by kernel_rfl) (by kernel_rfl) ?hQz60 ?hyz60 (by assumption) ?restz60
    case hiz60 => simp only [List.getElem?_toArray, List.getElem?_cons_zero, List.getElem?_cons_succ]; rfl
    case hQz60 => exact fun _ _ _ h => h
    case hyz60 => exact Or.inr ⟨by rfl, rfl⟩
    try simp only [Act.put, List.setIfInBounds_toArray, List.set_cons_zero, List.set_cons_succ]
    refine wpAnyH_take (i := 24) (oi := ?oiz61) (v := undef) ?hiz61 (by kernel_rfl) (by kernel_rfl) (by kernel_rfl) ?hQz61 ?hyz61 (by assumption) ?restz61
    case hiz61 => simp only [List.getElem?_toArray, List.getElem?_cons_zero, List.getElem?_cons_succ]; rfl
    case hQz61 => exact fun _ _ _ h => h
    case hyz61 => exact Or.inr ⟨by rfl, rfl⟩
    try simp only [Act.put, List.setIfInBounds_toArray, List.set_cons_zero, List.set_cons_succ]
    refine wpAnyH_take (i := 25) (oi := ?oiz62) (v := undef) ?hiz62 (by kernel_rfl) (by kernel_rfl) (by kernel_rfl) ?hQz62 ?hyz62 (by assumption) ?restz62
    case hiz62 => simp only [List.getElem?_toArray, List.getElem?_cons_zero, List.getElem?_cons_succ]; rfl
    case hQz62 => exact fun _ _ _ h => h
    case hyz62 => exact Or.inr ⟨by rfl, rfl⟩
    try simp only [Act.put, List.setIfInBounds_toArray, List.set_cons_zero, List.set_cons_succ]
    refine wpAnyH_take (i := 26) (oi := ?oiz63) (v := undef) ?hiz63 (by kernel_rfl) (by kernel_rfl) (by kernel_rfl) ?hQz63 ?hyz63 (by assumption) ?restz63
    case hiz63 => simp only [List.getElem?_toArray, List.getElem?_cons_zero, List.getElem?_cons_succ]; rfl
    case hQz63 => exact fun _ _ _ h => h
    case hyz63 => exact Or.inr ⟨by rfl, rfl⟩
    try simp only [Act.put, List.setIfInBounds_toArray, List.set_cons_zero, List.set_cons_succ]
    refine wpAnyH_take (i := 27) (oi := ?oiz64) (v := undef) ?hiz64 (by kernel_rfl) (by kernel_rfl) (by kernel_rfl) ?hQz64 ?hyz64 (by assumption) ?restz64
    case hiz64 => simp only [List.getElem?_toArray, List.getElem?_cons_zero, List.getElem?_cons_succ]; rfl
    case hQz64 => exact fun _ _ _ h => h
    case hyz64 => exact Or.inr ⟨by rfl, rfl⟩
    try simp only [Act.put, List.setIfInBounds_toArray, List.set_cons_zero, List.set_cons_succ]
    refine wpAnyH_take (i := 28) (oi := ?oiz65) (v := undef) ?hiz65 (by kernel_rfl) (by kernel_rfl) (by kernel_rfl) ?hQz65 ?hyz65 (by assumption) ?restz65
    case hiz65 => simp only [List.getElem?_toArray, List.getElem?_cons_zero, List.getElem?_cons_succ]; rfl
    case hQz65 => exact fun _ _ _ h => h
    case hyz65 => exact Or.inr ⟨by rfl, rfl⟩
    try simp only [Act.put, List.setIfInBounds_toArray, List.set_cons_zero, List.set_cons_succ]
    refine wpAnyH_take (i := 29) (oi := ?oiz66) (v := undef) ?hiz66 (by kernel_rfl) (by kernel_rfl) (by kernel_rfl) ?hQz66 ?hyz66 (by assumption) ?restz66
    case hiz66 => simp only [List.getElem?_toArray, List.getElem?_cons_zero, List.getElem?_cons_succ]; rfl
    case hQz66 => exact fun _ _ _ h => h
    case hyz66 => exact Or.inr ⟨by rfl, rfl⟩
    try simp only [Act.put, List.setIfInBounds_toArray, List.set_cons_zero, List.set_cons_succ]
    refine wpAnyH_take (i := 30) (oi := ?oiz67) (v := ?vz67) ?hiz67 (by kernel_rfl) (by kernel_rfl) (by kernel_rfl) ?hQz67 ?hyz67 (by assumption) ?restz67
    case hiz67 => simp only [List.getElem?_toArray, List.getElem?_cons_zero, List.getElem?_cons_succ]; rfl
    case hQz67 => exact fun _ _ _ h => h
    case hyz67 => exact Or.inl ⟨by rfl, by intro w hSw; (try dsimp only at hSw); go_simp; with_reducible rfl⟩
    try simp only [Act.put, List.setIfInBounds_toArray, List.set_cons_zero, List.set_cons_succ]
    refine wpAnyH_take (i := 31) (oi := ?oiz68) (v := ?vz68) ?hiz68 (by kernel_rfl) (by kernel_rfl) (by kernel_rfl) ?hQz68 ?hyz68 (by assumption) ?restz68
    case hiz68 => simp only [List.getElem?_toArray, List.getElem?_cons_zero, List.getElem?_cons_succ]; rfl
    case hQz68 => exact fun _ _ _ h => h
    case hyz68 => exact Or.inl ⟨by rfl, by intro w hSw; (try dsimp only at hSw); go_simp; with_reducible rfl⟩
    try simp only [Act.put, List.setIfInBounds_toArray, List.set_cons_zero, List.set_cons_succ]
    refine wpAnyH_take (i := 32) (oi := ?oiz69) (v := undef) ?hiz69 (by kernel_rfl) (by kernel_rfl) (by kernel_rfl) ?hQz69 ?hyz69 (by assumption) ?restz69
    case hiz69 => simp only [List.getElem?_toArray, List.getElem?_cons_zero, List.getElem?_cons_succ]; rfl
    case hQz69 => exact fun _ _ _ h => h
    case hyz69 => exact Or.inr ⟨by rfl, rfl⟩
    try simp only [Act.put, List.setIfInBounds_toArray, List.set_cons_zero, List.set_cons_succ]
    refine wpAnyH_take (i := 33) (oi := ?oiz70) (v := undef) ?hiz70 (by kernel_rfl) (by kernel_rfl) (by kernel_rfl) ?hQz70 ?hyz70 (by assumption) ?restz70
    case hiz70 => simp only [List.getElem?_toArray, List.getElem?_cons_zero, List.getElem?_cons_succ]; rfl
    case hQz70 => exact fun _ _ _ h => h
    case hyz70 => exact Or.inr ⟨by rfl, rfl⟩
    try simp only [Act.put, List.setIfInBounds_toArray, List.set_cons_zero, List.set_cons_succ]
    refine wpAnyH_take (i := 34) (oi := ?oiz71) (v := undef) ?hiz71 (by kernel_rfl) (by kernel_rfl) (by kernel_rfl) ?hQz71 ?hyz71 (by assumption) ?restz71
    case hiz71 => simp only [List.getElem?_toArray, List.getElem?_cons_zero, List.getElem?_cons_succ]; rfl
    case hQz71 => exact fun _ _ _ h => h
    case hyz71 => exact Or.inr ⟨by rfl, rfl⟩
    try simp only [Act.put, List.setIfInBounds_toArray, List.set_cons_zero, List.set_cons_succ]
    refine wpAnyH_take (i := 35) (oi := ?oiz72) (v := undef) ?hiz72 (by kernel_rfl) (by kernel_rfl) (by kernel_rfl) ?hQz72 ?hyz72 (by assumption) ?restz72
    case hiz72 => simp only [List.getElem?_toArray, List.getElem?_cons_zero, List.getElem?_cons_succ]; rfl
    case hQz72 => exact fun _ _ _ h => h
    case hyz72 => exact Or.inr ⟨by rfl, rfl⟩
    try simp only [Act.put, List.setIfInBounds_toArray, List.set_cons_zero, List.set_cons_succ]
    refine wpAnyH_take (i := 36) (oi := ?oiz73) (v := undef) ?hiz73 (by kernel_rfl) (by kernel_rfl) (by kernel_rfl) ?hQz73 ?hyz73 (by assumption) ?restz73
    case hiz73 => simp only [List.getElem?_toArray, List.getElem?_cons_zero, List.getElem?_cons_succ]; rfl
    case hQz73 => exact fun _ _ _ h => h
    case hyz73 => exact Or.inr ⟨by rfl, rfl⟩
    try simp only [Act.put, List.setIfInBounds_toArray, List.set_cons_zero, List.set_cons_succ]
    refine wpAnyH_take (i := 37) (oi := ?oiz74) (v := undef) ?hiz74 (by kernel_rfl) (by kernel_rfl) (by kernel_rfl) ?hQz74 ?hyz74 (by assumption) ?restz74
    case hiz74 => simp only [List.getElem?_toArray, List.getElem?_cons_zero, List.getElem?_cons_succ]; rfl
    case hQz74 => exact fun _ _ _ h => h
    case hyz74 => exact Or.inr ⟨by rfl, rfl⟩
    try simp only [Act.put, List.setIfInBounds_toArray, List.set_cons_zero, List.set_cons_succ]
    refine wpAnyH_take (i := 38) (oi := ?oiz75) (v := undef) ?hiz75 (by kernel_rfl) (by kernel_rfl) (by kernel_rfl) ?hQz75 ?hyz75 (by assumption) ?restz75
    case hiz75 => simp only [List.getElem?_toArray, List.getElem?_cons_zero, List.getElem?_cons_succ]; rfl
    case hQz75 => exact fun _ _ _ h => h
    case hyz75 => exact Or.inr ⟨by rfl, rfl⟩
    try simp only [Act.put, List.setIfInBounds_toArray, List.set_cons_zero, List.set_cons_succ]
    refine wpAnyH_take (i := 39) (oi := ?oiz76) (v := undef) ?hiz76 (by kernel_rfl) (by kernel_rfl) (by kernel_rfl) ?hQz76 ?hyz76 (by assumption) ?restz76
    case hiz76 => simp only [List.getElem?_toArray, List.getElem?_cons_zero, List.getElem?_cons_succ]; rfl
    case hQz76 => exact fun _ _ _ h => h
    case hyz76 => exact Or.inr ⟨by rfl, rfl⟩
    try simp only [Act.put, List.setIfInBounds_toArray, List.set_cons_zero, List.set_cons_succ]
    refine wpAnyH_take (i := 40) (oi := ?oiz77) (v := undef) ?hiz77 (by kernel_rfl) (by kernel_rfl) (by kernel_rfl) ?hQz77 ?hyz77 (by assumption) ?restz77
    case hiz77 => simp only [List.getElem?_toArray, List.getElem?_cons_zero, List.getElem?_cons_succ]; rfl
    case hQz77 => exact fun _ _ _ h => h
    case hyz77 => exact Or.inr ⟨by rfl, rfl⟩
    try simp only [Act.put, List.setIfInBounds_toArray, List.set_cons_zero, List.set_cons_succ]
    refine wpAnyH_take (i := 41) (oi := ?oiz78) (v := ?vz78) ?hiz78 (by kernel_rfl) (by kernel_rfl) (by kernel_rfl) ?hQz78 ?hyz78 (by assumption) ?restz78
    case hiz78 => simp only [List.getElem?_toArray, List.getElem?_cons_zero, List.getElem?_cons_succ]; rfl
    case hQz78 => exact fun _ _ _ h => h
    case hyz78 => exact Or.inl ⟨by rfl, by intro w hSw; (try dsimp only at hSw); go_simp; with_reducible rfl⟩
    try simp only [Act.put, List.setIfInBounds_toArray, List.set_cons_zero, List.set_cons_succ]
    refine wpAnyH_take (i := 42) (oi := ?oiz79) (v := ?vz79) ?hiz79 (by kernel_rfl) (by kernel_rfl) (by kernel_rfl) ?hQz79 ?hyz79 (by assumption) ?restz79
    case hiz79 => simp only [List.getElem?_toArray, List.getElem?_cons_zero, List.getElem?_cons_succ]; rfl
    case hQz79 => exact fun _ _ _ h => h
    case hyz79 => exact Or.inl ⟨by rfl, by intro w hSw; (try dsimp only at hSw); go_simp; with_reducible rfl⟩
    try simp only [Act.put, List.setIfInBounds_toArray, List.set_cons_zero, List.set_cons_succ]
    refine wpAnyH_done (by kernel_rfl) ?_ _
    have XW := Lib.hid hHeld
    clear hHeld
    go_wp2
    go_ret
    exact ⟨by rw [HE.out, decide_eq_false E1.out]; rfl, XW.out⟩
  have E1 := Lib.hid e1
  simp only [decide_eq_true e1] at heq
  clear e1
  by_cases e2 : x.par = y.par
  rotate_left
  · have E2 := Lib.hid e2
    simp only [decide_eq_false e2] at hls
    clear e2
    go_enter Try.func62, Try.ntmps62
    go_wp2_with fail
    refine wp_region_held_drew (S := fun W => Ext w W) (by kernel_rfl) (Ext.refl _).drew (fun hHeld => ?_)
    refine wpAnyH_take (i := 0) (oi := ?oiz80) (v := ?vz80) ?hiz80 (by kernel_rfl) (by kernel_rfl) (by kernel_rfl) ?hQz80 ?hyz80 (by assumption) ?restz80
    case hiz80 => simp only [List.getElem?_toArray, List.getElem?_cons_zero, List.getElem?_cons_succ]; rfl
    case hQz80 => exact fun _ _ _ h => h
    case hyz80 => exact Or.inl ⟨by rfl, by intro w hSw; (try dsimp only at hSw); go_simp; with_reducible rfl⟩
    try simp only [Act.put, List.setIfInBounds_toArray, List.set_cons_zero, List.set_cons_succ]
    refine wpAnyH_take (i := 1) (oi := ?oiz81) (v := ?vz81) ?hiz81 (by kernel_rfl) (by kernel_rfl) (by kernel_rfl) ?hQz81 ?hyz81 (by assumption) ?restz81
    case hiz81 => simp only [List.getElem?_toArray, List.getElem?_cons_zero, List.getElem?_cons_succ]; rfl
    case hQz81 => exact fun _ _ _ h => h
    case hyz81 => exact Or.inl ⟨by rfl, by intro w hSw; (try dsimp only at hSw); go_simp; with_reducible rfl⟩
    try simp only [Act.put, List.setIfInBounds_toArray, List.set_cons_zero, List.set_cons_succ]
    refine wpAnyH_take (i := 2) (oi := ?oiz82) (v := ?vz82) ?hiz82 (by kernel_rfl) (by kernel_rfl) (by kernel_rfl) ?hQz82 ?hyz82 (by assumption) ?restz82
    case hiz82 => simp only [List.getElem?_toArray, List.getElem?_cons_zero, List.getElem?_cons_succ]; rfl
    case hQz82 => exact fun _ _ _ h => h
    case hyz82 => exact Or.inl ⟨by rfl, by intro w hSw; (try dsimp only at hSw); go_simp; with_reducible rfl⟩
    try simp only [Act.put, List.setIfInBounds_toArray, List.set_cons_zero, List.set_cons_succ]
    refine wpAnyH_take (i := 3) (oi := ?oiz83) (v := (.agg (numsA .u8 x.root))) ?hiz83 (by kernel_rfl) (by kernel_rfl) (by kernel_rfl) ?hQz83 ?hyz83 (by assumption) ?restz83
    case hiz83 => simp only [List.getElem?_toArray, List.getElem?_cons_zero, List.getElem?_cons_succ]; rfl
    case hQz83 => exact fun _ _ _ h => h
    case hyz83 => refine yields_loadP HB.out aggKey HL.out (Cm.root_at _) ?_ _ rfl rfl; rfl
    try simp only [Act.put, List.setIfInBounds_toArray, List.set_cons_zero, List.set_cons_succ]
    refine wpAnyH_take (i := 4) (oi := ?oiz84) (v := ?vz84) ?hiz84 (by kernel_rfl) (by kernel_rfl) (by kernel_rfl) ?hQz84 ?hyz84 (by assumption) ?restz84
    case hiz84 => simp only [List.getElem?_toArray, List.getElem?_cons_zero, List.getElem?_cons_succ]; rfl
    case hQz84 => exact fun _ _ _ h => h
    case hyz84 => exact Or.inl ⟨by rfl, by intro w hSw; (try dsimp only at hSw); go_simp; with_reducible rfl⟩
    try simp only [Act.put, List.setIfInBounds_toArray, List.set_cons_zero, List.set_cons_succ]
    refine wpAnyH_take (i := 5) (oi := ?oiz85) (v := ?vz85) ?hiz85 (by kernel_rfl) (by kernel_rfl) (by kernel_rfl) ?hQz85 ?hyz85 (by assumption) ?restz85
    case hiz85 => simp only [List.getElem?_toArray, List.getElem?_cons_zero, List.getElem?_cons_succ]; rfl
    case hQz85 => exact fun _ _ _ h => h
    case hyz85 => exact Or.inl ⟨by rfl, by intro w hSw; (try dsimp only at hSw); go_simp; with_reducible rfl⟩
    try simp only [Act.put, List.setIfInBounds_toArray, List.set_cons_zero, List.set_cons_succ]
    refine wpAnyH_take (i := 6) (oi := ?oiz86) (v := ?vz86) ?hiz86 (by kernel_rfl) (by kernel_rfl) (by kernel_rfl) ?hQz86 ?hyz86 (by assumption) ?restz86
    case hiz86 => simp only [List.getElem?_toArray, List.getElem?_cons_zero, List.getElem?_cons_succ]; rfl
    case hQz86 => exact fun _ _ _ h => h
    case hyz86 => exact Or.inl ⟨by rfl, by intro w hSw; (try dsimp only at hSw); go_simp; with_reducible rfl⟩
    try simp only [Act.put, List.setIfInBounds_toArray, List.set_cons_zero, List.set_cons_succ]
    refine wpAnyH_take (i := 7) (oi := ?oiz87) (v := (.agg (numsA .u8 y.root))) ?hiz87 (by kernel_rfl) (by kernel_rfl) (by kernel_rfl) ?hQz87 ?hyz87 (by assumption) ?restz87
    case hiz87 => simp only [List.getElem?_toArray, List.getElem?_cons_zero, List.getElem?_cons_succ]; rfl
    case hQz87 => exact fun _ _ _ h => h
    case hyz87 => refine yields_loadP HB'.out aggKey HL'.out (Cm.root_at _) ?_ _ rfl rfl; rfl
    try simp only [Act.put, List.setIfInBounds_toArray, List.set_cons_zero, List.set_cons_succ]
    refine wpAnyH_take (i := 8) (oi := ?oiz88) (v := ?vz88) ?hiz88 (by kernel_rfl) (by kernel_rfl) (by kernel_rfl) ?hQz88 ?hyz88 (by assumption) ?restz88
    case hiz88 => simp only [List.getElem?_toArray, List.getElem?_cons_zero, List.getElem?_cons_succ]; rfl
    case hQz88 => exact fun _ _ _ h => h
    case hyz88 => exact Or.inl ⟨by rfl, by intro w hSw; (try dsimp only at hSw); go_simp; with_reducible rfl⟩
    try simp only [Act.put, List.setIfInBounds_toArray, List.set_cons_zero, List.set_cons_succ]
    refine wpAnyH_take (i := 9) (oi := ?oiz89) (v := ?vz89) ?hiz89 (by kernel_rfl) (by kernel_rfl) (by kernel_rfl) ?hQz89 ?hyz89 (by assumption) ?restz89
    case hiz89 => simp only [List.getElem?_toArray, List.getElem?_cons_zero, List.getElem?_cons_succ]; rfl
    case hQz89 => exact fun _ _ _ h => h
    case hyz89 => exact Or.inl ⟨by rfl, by intro w hSw; (try dsimp only at hSw); go_simp; with_reducible rfl⟩
    try simp only [Act.put, List.setIfInBounds_toArray, List.set_cons_zero, List.set_cons_succ]
    refine wpAnyH_take (i := 10) (oi := ?oiz90) (v := ?vz90) ?hiz90 (by kernel_rfl) (by kernel_rfl) (by kernel_rfl) ?hQz90 ?hyz90 (by assumption) ?restz90
    case hiz90 => simp only [List.getElem?_toArray, List.getElem?_cons_zero, List.getElem?_cons_succ]; rfl
    case hQz90 => exact fun _ _ _ h => h
    case hyz90 => exact Or.inl ⟨by rfl, by intro w hSw; (try dsimp only at hSw); go_simp; with_reducible rfl⟩
    try simp only [Act.put, List.setIfInBounds_toArray, List.set_cons_zero, List.set_cons_succ]
    refine wpAnyH_take (i := 11) (oi := ?oiz91) (v := ?vz91) ?hiz91 (by kernel_rfl) (by kernel_rfl) (by kernel_rfl) ?hQz91 ?hyz91 (by assumption) ?restz91
    case hiz91 => simp only [List.getElem?_toArray, List.getElem?_cons_zero, List.getElem?_cons_succ]; rfl
    case hQz91 => exact fun _ _ _ h => h
    case hyz91 => exact Or.inl ⟨by rfl, by intro w hSw; (try dsimp only at hSw); go_simp; with_reducible rfl⟩
    try simp only [Act.put, List.setIfInBounds_toArray, List.set_cons_zero, List.set_cons_succ]
    refine wpAnyH_take (i := 12) (oi := ?oiz92) (v := ?vz92) ?hiz92 (by kernel_rfl) (by kernel_rfl) (by kernel_rfl) ?hQz92 ?hyz92 (by assumption) ?restz92
    case hiz92 => simp only [List.getElem?_toArray, List.getElem?_cons_zero, List.getElem?_cons_succ]; rfl
    case hQz92 => exact fun _ _ _ h => h
    case hyz92 => exact Or.inl ⟨by rfl, by intro w hSw; (try dsimp only at hSw); go_simp; with_reducible rfl⟩
    try simp only [Act.put, List.setIfInBounds_toArray, List.set_cons_zero, List.set_cons_succ]
    refine wpAnyH_take (i := 13) (oi := ?oiz93) (v := ?vz93) ?hiz93 (by kernel_rfl) (by kernel_rfl) (by kernel_rfl) ?hQz93 ?hyz93 (by assumption) ?restz93
    case hiz93 => simp only [List.getElem?_toArray, List.getElem?_cons_zero, List.getElem?_cons_succ]; rfl
    case hQz93 => exact fun _ _ _ h => h
    case hyz93 => exact Or.inl ⟨by rfl, by intro w hSw; (try dsimp only at hSw); go_simp; with_reducible rfl⟩
    try simp only [Act.put, List.setIfInBounds_toArray, List.set_cons_zero, List.set_cons_succ]
    refine wpAnyH_take (i := 14) (oi := ?oiz94) (v := ?vz94) ?hiz94 (by kernel_rfl) (by kernel_rfl) (by kernel_rfl) ?hQz94 ?hyz94 (by assumption) ?restz94
    case hiz94 => simp only [List.getElem?_toArray, List.getElem?_cons_zero, List.getElem?_cons_succ]; rfl
    case hQz94 => exact fun _ _ _ h => h
    case hyz94 => exact Or.inl ⟨by rfl, by intro w hSw; (try dsimp only at hSw); go_simp; with_reducible rfl⟩
    try simp only [Act.put, List.setIfInBounds_toArray, List.set_cons_zero, List.set_cons_succ]
    refine wpAnyH_take (i := 15) (oi := ?oiz95) (v := ?vz95) ?hiz95 (by kernel_rfl) (by kernel_rfl) (by kernel_rfl) ?hQz95 ?hyz95 (by assumption) ?restz95
    case hiz95 => simp only [List.getElem?_toArray, List.getElem?_cons_zero, List.getElem?_cons_succ]; rfl
    case hQz95 => exact fun _ _ _ h => h
    case hyz95 => exact Or.inl ⟨by rfl, by intro w hSw; (try dsimp only at hSw); go_simp; with_reducible rfl⟩
    try simp only [Act.put, List.setIfInBounds_toArray, List.set_cons_zero, List.set_cons_succ]
    refine wpAnyH_take (i := 16) (oi := ?oiz96) (v := ?vz96) ?hiz96 (by kernel_rfl) (by kernel_rfl) (by kernel_rfl) ?hQz96 ?hyz96 (by assumption) ?restz96
    case hiz96 => simp only [List.getElem?_toArray, List.getElem?_cons_zero, List.getElem?_cons_succ]; rfl
    case hQz96 => exact fun _ _ _ h => h
    case hyz96 => exact Or.inl ⟨by rfl, by intro w hSw; (try dsimp only at hSw); go_simp; with_reducible rfl⟩
    try simp only [Act.put, List.setIfInBounds_toArray, List.set_cons_zero, List.set_cons_succ]
    refine wpAnyH_take (i := 17) (oi := ?oiz97) (v := ?vz97) ?hiz97 (by kernel_rfl) (by kernel_rfl) (by kernel_rfl) ?hQz97 ?hyz97 (by assumption) ?restz97
    case hiz97 => simp only [List.getElem?_toArray, List.getElem?_cons_zero, List.getElem?_cons_succ]; rfl
    case hQz97 => exact fun _ _ _ h => h
    case hyz97 => exact Or.inl ⟨by rfl, by intro w hSw; (try dsimp only at hSw); go_simp; with_reducible rfl⟩
    try simp only [Act.put, List.setIfInBounds_toArray, List.set_cons_zero, List.set_cons_succ]
    refine wpAnyH_ready (rs := [18]) (by kernel_rfl) (by simp) (AllReadyH.cons (o := ?oy9818) ?hy9818 (fun K hK => ?sy9818) AllReadyH.nil)
    case hy9818 => simp only [List.getElem?_toArray, List.getElem?_cons_zero, List.getElem?_cons_succ]; rfl
    go_simp
    refine (hls _ (H.out.ext (by decide) hHeld) (H'.out.ext (by decide) hHeld)).mono ?_
    rintro e w1 ⟨rfl, hx⟩
    have hH2 := hHeld.trans hx
    refine hK.out _ _ hH2 (fun _ => ?_)
    clear hHeld hK K
    have hHeld := hH2
    clear hH2
    try simp only [Act.put, List.setIfInBounds_toArray, List.set_cons_zero, List.set_cons_succ]
    refine wpAnyH_take (i := 19) (oi := ?oiz99) (v := ?vz99) ?hiz99 (by kernel_rfl) (by kernel_rfl) (by kernel_rfl) ?hQz99 ?hyz99 (by assumption) ?restz99
    case hiz99 => simp only [List.getElem?_toArray, List.getElem?_cons_zero, List.getElem?_cons_succ]; rfl
    case hQz99 => exact fun _ _ _ h => h
    case hyz99 => exact Or.inl ⟨by rfl, by intro w hSw; (try dsimp only at hSw); go_simp; with_reducible rfl⟩
    try simp only [Act.put, List.setIfInBounds_toArray, List.set_cons_zero, List.set_cons_succ]
    refine wpAnyH_take (i := 20) (oi := ?oiz100) (v := ?vz100) ?hiz100 (by kernel_rfl) (by kernel_rfl) (by kernel_rfl) ?hQz100 ?hyz100 (by assumption) ?restz100
    case hiz100 => simp only [List.getElem?_toArray, List.getElem?_cons_zero, List.getElem?_cons_succ]; rfl
    case hQz100 => exact fun _ _ _ h => h
    case hyz100 => exact Or.inl ⟨by rfl, by intro w hSw; (try dsimp only at hSw); go_simp; with_reducible rfl⟩
    try simp only [Act.put, List.setIfInBounds_toArray, List.set_cons_zero, List.set_cons_succ]
    refine wpAnyH_take (i := 21) (oi := ?oiz101) (v := undef) ?hiz101 (by kernel_rfl) (by kernel_rfl) (by kernel_rfl) ?hQz101 ?hyz101 (by assumption) ?restz101
    case hiz101 => simp only [List.getElem?_toArray, List.getElem?_cons_zero, List.getElem?_cons_succ]; rfl
    case hQz101 => exact fun _ _ _ h => h
    case hyz101 => exact Or.inr ⟨by rfl, rfl⟩
    try simp only [Act.put, List.setIfInBounds_toArray, List.set_cons_zero, List.set_cons_succ]
    refine wpAnyH_take (i := 22) (oi := ?oiz102) (v := undef) ?hiz102 (by kernel_rfl) (by kernel_rfl) (by kernel_rfl) ?hQz102 ?hyz102 (by assumption) ?restz102
    case hiz102 => simp only [List.getElem?_toArray, List.getElem?_cons_zero, List.getElem?_cons_succ]; rfl
    case hQz102 => exact fun _ _ _ h => h
    case hyz102 => exact Or.inr ⟨by rfl, rfl⟩
    try simp only [Act.put, List.setIfInBounds_toArray, List.set_cons_zero, List.set_cons_succ]
    refine wpAnyH_take (i := 23) (oi := ?oiz103) (v := undef) ?hiz103 (by kernel_rfl) (by kernel_rfl) (by kernel_rfl) ?hQz103 ?hyz103 (by assumption) ?restz103
    case hiz103 => simp only [List.getElem?_toArray, List.getElem?_cons_zero, List.getElem?_cons_succ]; rfl
    case hQz103 => exact fun _ _ _ h => h
    case hyz103 => exact Or.inr ⟨by rfl, rfl⟩
    try simp only [Act.put, List.setIfInBounds_toArray, List.set_cons_zero, List.set_cons_succ]
    refine wpAnyH_take (i := 24) (oi := ?oiz104) (v := undef) ?hiz104 (by kernel_rfl) (by kernel_rfl) (by kernel_rfl) ?hQz104 ?hyz104 (by assumption) ?restz104
    case hiz104 => simp only [List.getElem?_toArray, List.getElem?_cons_zero, List.getElem?_cons_succ]; rfl
    case hQz104 => exact fun _ _ _ h => h
    case hyz104 => exact Or.inr ⟨by rfl, rfl⟩
    try simp only [Act.put, List.setIfInBounds_toArray, List.set_cons_zero, List.set_cons_succ]
    refine wpAnyH_take (i := 25) (oi := ?oiz105) (v := undef) ?hiz105 (by kernel_rfl) (by kernel_rfl) (by kernel_rfl) ?hQz105 ?hyz105 (by assumption) ?restz105
    case hiz105 => simp only [List.getElem?_toArray, List.getElem?_cons_zero, List.getElem?_cons_succ]; rfl
    case hQz105 => exact fun _ _ _ h => h
    case hyz105 => exact Or.inr ⟨by rfl, rfl⟩
    try simp only [Act.put, List.setIfInBounds_toArray, List.set_cons_zero, List.set_cons_succ]
    refine wpAnyH_take (i := 26) (oi := ?oiz106) (v := undef) ?hiz106 (by kernel_rfl) (by kernel_rfl) (by kernel_rfl) ?hQz106 ?hyz106 (by assumption) ?restz106
    case hiz106 => simp only [List.getElem?_toArray, List.getElem?_cons_zero, List.getElem?_cons_succ]; rfl
    case hQz106 => exact fun _ _ _ h => h
    case hyz106 => exact Or.inr ⟨by rfl, rfl⟩
    try simp only [Act.put, List.setIfInBounds_toArray, List.set_cons_zero, List.set_cons_succ]
    refine wpAnyH_take (i := 27) (oi := ?oiz107) (v := undef) ?hiz107 (by kernel_rfl) (by kernel_rfl) (by kernel_rfl) ?hQz107 ?hyz107 (by assumption) ?restz107
    case hiz107 => simp only [List.getElem?_toArray, List.getElem?_cons_zero, List.getElem?_cons_succ]; rfl
    case hQz107 => exact fun _ _ _ h => h
    case hyz107 => exact Or.inr ⟨by rfl, rfl⟩
    try simp only [Act.put, List.setIfInBounds_toArray, List.set_cons_zero, List.set_cons_succ]
    refine wpAnyH_take (i := 28) (oi := ?oiz108) (v := undef) ?hiz108 (by kernel_rfl) (by kernel_rfl) (by kernel_rfl) ?hQz108 ?hyz108 (by assumption) ?restz108
    case hiz108 => simp only [List.getElem?_toArray, List.getElem?_cons_zero, List.getElem?_cons_succ]; rfl
    case hQz108 => exact fun _ _ _ h => h
    case hyz108 => exact Or.inr ⟨by rfl, rfl⟩
    try simp only [Act.put, List.setIfInBounds_toArray, List.set_cons_zero, List.set_cons_succ]
    refine wpAnyH_take (i := 29) (oi := ?oiz109) (v := undef) ?hiz109 (by kernel_rfl) (by kernel_rfl) (by kernel_rfl) ?hQz109 ?hyz109 (by assumption) ?restz109
    case hiz109 => simp only [List.getElem?_toArray, List.getElem?_cons_zero, List.getElem?_cons_succ]; rfl
    case hQz109 => exact fun _ _ _ h => h
    case hyz109 => exact Or.inr ⟨by rfl, rfl⟩
    try simp only [Act.put, List.setIfInBounds_toArray, List.set_cons_zero, List.set_cons_succ]
    refine wpAnyH_take (i := 30) (oi := ?oiz110) (v := ?vz110) ?hiz110 (by kernel_rfl) (by kernel_rfl) (by kernel_rfl) ?hQz110 ?hyz110 (by assumption) ?restz110
    case hiz110 => simp only [List.getElem?_toArray, List.getElem?_cons_zero, List.getElem?_cons_succ]; rfl
    case hQz110 => exact fun _ _ _ h => h
    case hyz110 => exact Or.inl ⟨by rfl, by intro w hSw; (try dsimp only at hSw); go_simp; with_reducible rfl⟩
    try simp only [Act.put, List.setIfInBounds_toArray, List.set_cons_zero, List.set_cons_succ]
    refine wpAnyH_take (i := 31) (oi := ?oiz111) (v := ?vz111) ?hiz111 (by kernel_rfl) (by kernel_rfl) (by kernel_rfl) ?hQz111 ?hyz111 (by assumption) ?restz111
    case hiz111 => simp only [List.getElem?_toArray, List.getElem?_cons_zero, List.getElem?_cons_succ]; rfl
    case hQz111 => exact fun _ _ _ h => h
    case hyz111 => exact Or.inl ⟨by rfl, by intro w hSw; (try dsimp only at hSw); go_simp; with_reducible rfl⟩
    try simp only [Act.put, List.setIfInBounds_toArray, List.set_cons_zero, List.set_cons_succ]
    refine wpAnyH_take (i := 32) (oi := ?oiz112) (v := undef) ?hiz112 (by kernel_rfl) (by kernel_rfl) (by kernel_rfl) ?hQz112 ?hyz112 (by assumption) ?restz112
    case hiz112 => simp only [List.getElem?_toArray, List.getElem?_cons_zero, List.getElem?_cons_succ]; rfl
    case hQz112 => exact fun _ _ _ h => h
    case hyz112 => exact Or.inr ⟨by rfl, rfl⟩
    try simp only [Act.put, List.setIfInBounds_toArray, List.set_cons_zero, List.set_cons_succ]
    refine wpAnyH_take (i := 33) (oi := ?oiz113) (v := undef) ?hiz113 (by kernel_rfl) (by kernel_rfl) (by kernel_rfl) ?hQz113 ?hyz113 (by assumption) ?restz113
    case hiz113 => simp only [List.getElem?_toArray, List.getElem?_cons_zero, List.getElem?_cons_succ]; rfl
    case hQz113 => exact fun _ _ _ h => h
    case hyz113 => exact Or.inr ⟨by rfl, rfl⟩
    try simp only [Act.put, List.setIfInBounds_toArray, List.set_cons_zero, List.set_cons_succ]
    refine wpAnyH_take (i := 34) (oi := ?oiz114) (v := undef) ?hiz114 (by kernel_rfl) (by kernel_rfl) (by kernel_rfl) ?hQz114 ?hyz114 (by assumption) ?restz114
    case hiz114 => simp only [List.getElem?_toArray, List.getElem?_cons_zero, List.getElem?_cons_succ]; rfl
    case hQz114 => exact fun _ _ _ h => h
    case hyz114 => exact Or.inr ⟨by rfl, rfl⟩
    try simp only [Act.put, List.setIfInBounds_toArray, List.set_cons_zero, List.set_cons_succ]
    refine wpAnyH_take (i := 35) (oi := ?oiz115) (v := undef) ?hiz115 (by kernel_rfl) (by kernel_rfl) (by kernel_rfl) ?hQz115 ?hyz115 (by assumption) ?restz115
    case hiz115 => simp only [List.getElem?_toArray, List.getElem?_cons_zero, List.getElem?_cons_succ]; rfl
    case hQz115 => exact fun _ _ _ h => h
    case hyz115 => exact Or.inr ⟨by rfl, rfl⟩
    try simp only [Act.put, List.setIfInBounds_toArray, List.set_cons_zero, List.set_cons_succ]
    refine wpAnyH_take (i := 36) (oi := ?oiz116) (v := undef) ?hiz116 (by kernel_rfl) (by kernel_rfl) (by kernel_rfl) ?hQz116 ?hyz116 (by assumption) ?restz116
    case hiz116 => simp only [List.getElem?_toArray, List.getElem?_cons_zero, List.getElem?_cons_succ]; rfl
    case hQz116 => exact fun _ _ _ h => h
    case hyz116 => exact Or.inr ⟨by rfl, rfl⟩
    try simp only [Act.put, List.setIfInBounds_toArray, List.set_cons_zero, List.set_cons_succ]
    refine wpAnyH_take (i := 37) (oi := ?oiz117) (v := undef) ?hiz117 (by kernel_rfl) (by kernel_rfl) (by kernel_rfl) ?hQz117 ?hyz117 (by assumption) ?restz117
    case hiz117 => simp only [List.getElem?_toArray, List.getElem?_cons_zero, List.getElem?_cons_succ]; rfl
    case hQz117 => exact fun _ _ _ h => h
    case hyz117 => exact Or.inr ⟨by rfl, rfl⟩
    try simp only [Act.put, List.setIfInBounds_toArray, List.set_cons_zero, List.set_cons_succ]
    refine wpAnyH_take (i := 38) (oi := ?oiz118) (v := undef) ?hiz118 (by kernel_rfl) (by kernel_rfl) (by kernel_rfl) ?hQz118 ?hyz118 (by assumption) ?restz118
    case hiz118 => simp only [List.getElem?_toArray, List.getElem?_cons_zero, List.getElem?_cons_succ]; rfl
    case hQz118 => exact fun _ _ _ h => h
    case hyz118 => exact Or.inr ⟨by rfl, rfl⟩
    try simp only [Act.put, List.setIfInBounds_toArray, List.set_cons_zero, List.set_cons_succ]
    refine wpAnyH_take (i := 39) (oi := ?oiz119) (v := undef) ?hiz119 (by kernel_rfl) (by kernel_rfl) (by kernel_rfl) ?hQz119 ?hyz119 (by assumption) ?restz119
    case hiz119 => simp only [List.getElem?_toArray, List.getElem?_cons_zero, List.getElem?_cons_succ]; rfl
    case hQz119 => exact fun _ _ _ h => h
    case hyz119 => exact Or.inr ⟨by rfl, rfl⟩
    try simp only [Act.put, List.setIfInBounds_toArray, List.set_cons_zero, List.set_cons_succ]
    refine wpAnyH_take (i := 40) (oi := ?oiz120) (v := undef) ?hiz120 (by kernel_rfl) (by kernel_rfl) (by kernel_rfl) ?hQz120 ?hyz120 (by assumption) ?restz120
    case hiz120 => simp only [List.getElem?_toArray, List.getElem?_cons_zero, List.getElem?_cons_succ]; rfl
    case hQz120 => exact fun _ _ _ h => h
    case hyz120 => exact Or.inr ⟨by rfl, rfl⟩
    try simp only [Act.put, List.setIfInBounds_toArray, List.set_cons_zero, List.set_cons_succ]
    refine wpAnyH_take (i := 41) (oi := ?oiz121) (v := ?vz121) ?hiz121 (by kernel_rfl) (by kernel_rfl) (by kernel_rfl) ?hQz121 ?hyz121 (by assumption) ?restz121
    case hiz121 => simp only [List.getElem?_toArray, List.getElem?_cons_zero, List.getElem?_cons_succ]; rfl
    case hQz121 => exact fun _ _ _ h => h
    case hyz121 => exact Or.inl ⟨by rfl, by intro w hSw; (try dsimp only at hSw); go_simp; with_reducible rfl⟩
    try simp only [Act.put, List.setIfInBounds_toArray, List.set_cons_zero, List.set_cons_succ]
    refine wpAnyH_take (i := 42) (oi := ?oiz122) (v := ?vz122) ?hiz122 (by kernel_rfl) (by kernel_rfl) (by kernel_rfl) ?hQz122 ?hyz122 (by assumption) ?restz122
    case hiz122 => simp only [List.getElem?_toArray, List.getElem?_cons_zero, List.getElem?_cons_succ]; rfl
    case hQz122 => exact fun _ _ _ h => h
    case hyz122 => exact Or.inl ⟨by rfl, by intro w hSw; (try dsimp only at hSw); go_simp; with_reducible rfl⟩
    try simp only [Act.put, List.setIfInBounds_toArray, List.set_cons_zero, List.set_cons_succ]
    refine wpAnyH_done (by kernel_rfl) ?_ _
    have XW := Lib.hid hHeld
    clear hHeld
    go_wp2
    go_ret
    exact ⟨by rw [HE.out, decide_eq_false E2.out, Bool.false_and, Bool.and_false]; rfl, XW.out⟩
  have E2 := Lib.hid e2
  simp only [decide_eq_true e2] at hls
  clear e2
  cases e3 : (x.num == y.num) with
  | false =>
    have E3 := Lib.hid e3
    go_enter Try.func62, Try.ntmps62
    go_wp2_with fail
    refine wp_region_held_drew (S := fun W => Ext w W) (by kernel_rfl) (Ext.refl _).drew (fun hHeld => ?_)
    refine wpAnyH_take (i := 0) (oi := ?oiz123) (v := ?vz123) ?hiz123 (by kernel_rfl) (by kernel_rfl) (by kernel_rfl) ?hQz123 ?hyz123 (by assumption) ?restz123
    case hiz123 => simp only [List.getElem?_toArray, List.getElem?_cons_zero, List.getElem?_cons_succ]; rfl
    case hQz123 => exact fun _ _ _ h => h
    case hyz123 => exact Or.inl ⟨by rfl, by intro w hSw; (try dsimp only at hSw); go_simp; with_reducible rfl⟩
    try simp only [Act.put, List.setIfInBounds_toArray, List.set_cons_zero, List.set_cons_succ]
    refine wpAnyH_take (i := 1) (oi := ?oiz124) (v := ?vz124) ?hiz124 (by kernel_rfl) (by kernel_rfl) (by kernel_rfl) ?hQz124 ?hyz124 (by assumption) ?restz124
    case hiz124 => simp only [List.getElem?_toArray, List.getElem?_cons_zero, List.getElem?_cons_succ]; rfl
    case hQz124 => exact fun _ _ _ h => h
    case hyz124 => exact Or.inl ⟨by rfl, by intro w hSw; (try dsimp only at hSw); go_simp; with_reducible rfl⟩
    try simp only [Act.put, List.setIfInBounds_toArray, List.set_cons_zero, List.set_cons_succ]
    refine wpAnyH_take (i := 2) (oi := ?oiz125) (v := ?vz125) ?hiz125 (by kernel_rfl) (by kernel_rfl) (by kernel_rfl) ?hQz125 ?hyz125 (by assumption) ?restz125
    case hiz125 => simp only [List.getElem?_toArray, List.getElem?_cons_zero, List.getElem?_cons_succ]; rfl
    case hQz125 => exact fun _ _ _ h => h
    case hyz125 => exact Or.inl ⟨by rfl, by intro w hSw; (try dsimp only at hSw); go_simp; with_reducible rfl⟩
    try simp only [Act.put, List.setIfInBounds_toArray, List.set_cons_zero, List.set_cons_succ]
    refine wpAnyH_take (i := 3) (oi := ?oiz126) (v := (.agg (numsA .u8 x.root))) ?hiz126 (by kernel_rfl) (by kernel_rfl) (by kernel_rfl) ?hQz126 ?hyz126 (by assumption) ?restz126
    case hiz126 => simp only [List.getElem?_toArray, List.getElem?_cons_zero, List.getElem?_cons_succ]; rfl
    case hQz126 => exact fun _ _ _ h => h
    case hyz126 => refine yields_loadP HB.out aggKey HL.out (Cm.root_at _) ?_ _ rfl rfl; rfl
    try simp only [Act.put, List.setIfInBounds_toArray, List.set_cons_zero, List.set_cons_succ]
    refine wpAnyH_take (i := 4) (oi := ?oiz127) (v := ?vz127) ?hiz127 (by kernel_rfl) (by kernel_rfl) (by kernel_rfl) ?hQz127 ?hyz127 (by assumption) ?restz127
    case hiz127 => simp only [List.getElem?_toArray, List.getElem?_cons_zero, List.getElem?_cons_succ]; rfl
    case hQz127 => exact fun _ _ _ h => h
    case hyz127 => exact Or.inl ⟨by rfl, by intro w hSw; (try dsimp only at hSw); go_simp; with_reducible rfl⟩
    try simp only [Act.put, List.setIfInBounds_toArray, List.set_cons_zero, List.set_cons_succ]
    refine wpAnyH_take (i := 5) (oi := ?oiz128) (v := ?vz128) ?hiz128 (by kernel_rfl) (by kernel_rfl) (by kernel_rfl) ?hQz128 ?hyz128 (by assumption) ?restz128
    case hiz128 => simp only [List.getElem?_toArray, List.getElem?_cons_zero, List.getElem?_cons_succ]; rfl
    case hQz128 => exact fun _ _ _ h => h
    case hyz128 => exact Or.inl ⟨by rfl, by intro w hSw; (try dsimp only at hSw); go_simp; with_reducible rfl⟩
    try simp only [Act.put, List.setIfInBounds_toArray, List.set_cons_zero, List.set_cons_succ]
    refine wpAnyH_take (i := 6) (oi := ?oiz129) (v := ?vz129) ?hiz129 (by kernel_rfl) (by kernel_rfl) (by kernel_rfl) ?hQz129 ?hyz129 (by assumption) ?restz129
    case hiz129 => simp only [List.getElem?_toArray, List.getElem?_cons_zero, List.getElem?_cons_succ]; rfl
    case hQz129 => exact fun _ _ _ h => h
    case hyz129 => exact Or.inl ⟨by rfl, by intro w hSw; (try dsimp only at hSw); go_simp; with_reducible rfl⟩
    try simp only [Act.put, List.setIfInBounds_toArray, List.set_cons_zero, List.set_cons_succ]
    refine wpAnyH_take (i := 7) (oi := ?oiz130) (v := (.agg (numsA .u8 y.root))) ?hiz130 (by kernel_rfl) (by kernel_rfl) (by kernel_rfl) ?hQz130 ?hyz130 (by assumption) ?restz130
    case hiz130 => simp only [List.getElem?_toArray, List.getElem?_cons_zero, List.getElem?_cons_succ]; rfl
    case hQz130 => exact fun _ _ _ h => h
    case hyz130 => refine yields_loadP HB'.out aggKey HL'.out (Cm.root_at _) ?_ _ rfl rfl; rfl
    try simp only [Act.put, List.setIfInBounds_toArray, List.set_cons_zero, List.set_cons_succ]
    refine wpAnyH_take (i := 8) (oi := ?oiz131) (v := ?vz131) ?hiz131 (by kernel_rfl) (by kernel_rfl) (by kernel_rfl) ?hQz131 ?hyz131 (by assumption) ?restz131
    case hiz131 => simp only [List.getElem?_toArray, List.getElem?_cons_zero, List.getElem?_cons_succ]; rfl
    case hQz131 => exact fun _ _ _ h => h
    case hyz131 => exact Or.inl ⟨by rfl, by intro w hSw; (try dsimp only at hSw); go_simp; with_reducible rfl⟩
    try simp only [Act.put, List.setIfInBounds_toArray, List.set_cons_zero, List.set_cons_succ]
    refine wpAnyH_take (i := 9) (oi := ?oiz132) (v := ?vz132) ?hiz132 (by kernel_rfl) (by kernel_rfl) (by kernel_rfl) ?hQz132 ?hyz132 (by assumption) ?restz132
    case hiz132 => simp only [List.getElem?_toArray, List.getElem?_cons_zero, List.getElem?_cons_succ]; rfl
    case hQz132 => exact fun _ _ _ h => h
    case hyz132 => exact Or.inl ⟨by rfl, by intro w hSw; (try dsimp only at hSw); go_simp; with_reducible rfl⟩
    try simp only [Act.put, List.setIfInBounds_toArray, List.set_cons_zero, List.set_cons_succ]
    refine wpAnyH_take (i := 10) (oi := ?oiz133) (v := ?vz133) ?hiz133 (by kernel_rfl) (by kernel_rfl) (by kernel_rfl) ?hQz133 ?hyz133 (by assumption) ?restz133
    case hiz133 => simp only [List.getElem?_toArray, List.getElem?_cons_zero, List.getElem?_cons_succ]; rfl
    case hQz133 => exact fun _ _ _ h => h
    case hyz133 => exact Or.inl ⟨by rfl, by intro w hSw; (try dsimp only at hSw); go_simp; with_reducible rfl⟩
    try simp only [Act.put, List.setIfInBounds_toArray, List.set_cons_zero, List.set_cons_succ]
    refine wpAnyH_take (i := 11) (oi := ?oiz134) (v := ?vz134) ?hiz134 (by kernel_rfl) (by kernel_rfl) (by kernel_rfl) ?hQz134 ?hyz134 (by assumption) ?restz134
    case hiz134 => simp only [List.getElem?_toArray, List.getElem?_cons_zero, List.getElem?_cons_succ]; rfl
    case hQz134 => exact fun _ _ _ h => h
    case hyz134 => exact Or.inl ⟨by rfl, by intro w hSw; (try dsimp only at hSw); go_simp; with_reducible rfl⟩
    try simp only [Act.put, List.setIfInBounds_toArray, List.set_cons_zero, List.set_cons_succ]
    refine wpAnyH_take (i := 12) (oi := ?oiz135) (v := ?vz135) ?hiz135 (by kernel_rfl) (by kernel_rfl) (by kernel_rfl) ?hQz135 ?hyz135 (by assumption) ?restz135
    case hiz135 => simp only [List.getElem?_toArray, List.getElem?_cons_zero, List.getElem?_cons_succ]; rfl
    case hQz135 => exact fun _ _ _ h => h
    case hyz135 => exact Or.inl ⟨by rfl, by intro w hSw; (try dsimp only at hSw); go_simp; with_reducible rfl⟩
    try simp only [Act.put, List.setIfInBounds_toArray, List.set_cons_zero, List.set_cons_succ]
    refine wpAnyH_take (i := 13) (oi := ?oiz136) (v := ?vz136) ?hiz136 (by kernel_rfl) (by kernel_rfl) (by kernel_rfl) ?hQz136 ?hyz136 (by assumption) ?restz136
    case hiz136 => simp only [List.getElem?_toArray, List.getElem?_cons_zero, List.getElem?_cons_succ]; rfl
    case hQz136 => exact fun _ _ _ h => h
    case hyz136 => exact Or.inl ⟨by rfl, by intro w hSw; (try dsimp only at hSw); go_simp; with_reducible rfl⟩
    try simp only [Act.put, List.setIfInBounds_toArray, List.set_cons_zero, List.set_cons_succ]
    refine wpAnyH_take (i := 14) (oi := ?oiz137) (v := ?vz137) ?hiz137 (by kernel_rfl) (by kernel_rfl) (by kernel_rfl) ?hQz137 ?hyz137 (by assumption) ?restz137
    case hiz137 => simp only [List.getElem?_toArray, List.getElem?_cons_zero, List.getElem?_cons_succ]; rfl
    case hQz137 => exact fun _ _ _ h => h
    case hyz137 => exact Or.inl ⟨by rfl, by intro w hSw; (try dsimp only at hSw); go_simp; with_reducible rfl⟩
    try simp only [Act.put, List.setIfInBounds_toArray, List.set_cons_zero, List.set_cons_succ]
    refine wpAnyH_take (i := 15) (oi := ?oiz138) (v := ?vz138) ?hiz138 (by kernel_rfl) (by kernel_rfl) (by kernel_rfl) ?hQz138 ?hyz138 (by assumption) ?restz138
    case hiz138 => simp only [List.getElem?_toArray, List.getElem?_cons_zero, List.getElem?_cons_succ]; rfl
    case hQz138 => exact fun _ _ _ h => h
    case hyz138 => exact Or.inl ⟨by rfl, by intro w hSw; (try dsimp only at hSw); go_simp; with_reducible rfl⟩
    try simp only [Act.put, List.setIfInBounds_toArray, List.set_cons_zero, List.set_cons_succ]
    refine wpAnyH_take (i := 16) (oi := ?oiz139) (v := ?vz139) ?hiz139 (by kernel_rfl) (by kernel_rfl) (by kernel_rfl) ?hQz139 ?hyz139 (by assumption) ?restz139
    case hiz139 => simp only [List.getElem?_toArray, List.getElem?_cons_zero, List.getElem?_cons_succ]; rfl
    case hQz139 => exact fun _ _ _ h => h
    case hyz139 => exact Or.inl ⟨by rfl, by intro w hSw; (try dsimp only at hSw); go_simp; with_reducible rfl⟩
    try simp only [Act.put, List.setIfInBounds_toArray, List.set_cons_zero, List.set_cons_succ]
    refine wpAnyH_take (i := 17) (oi := ?oiz140) (v := ?vz140) ?hiz140 (by kernel_rfl) (by kernel_rfl) (by kernel_rfl) ?hQz140 ?hyz140 (by assumption) ?restz140
    case hiz140 => simp only [List.getElem?_toArray, List.getElem?_cons_zero, List.getElem?_cons_succ]; rfl
    case hQz140 => exact fun _ _ _ h => h
    case hyz140 => exact Or.inl ⟨by rfl, by intro w hSw; (try dsimp only at hSw); go_simp; with_reducible rfl⟩
    try simp only [Act.put, List.setIfInBounds_toArray, List.set_cons_zero, List.set_cons_succ]
    refine wpAnyH_ready (rs := [18]) (by kernel_rfl) (by simp) (AllReadyH.cons (o := ?oy14118) ?hy14118 (fun K hK => ?sy14118) AllReadyH.nil)
    case hy14118 => simp only [List.getElem?_toArray, List.getElem?_cons_zero, List.getElem?_cons_succ]; rfl
    go_simp
    refine (hls _ (H.out.ext (by decide) hHeld) (H'.out.ext (by decide) hHeld)).mono ?_
    rintro e w1 ⟨rfl, hx⟩
    have hH2 := hHeld.trans hx
    refine hK.out _ _ hH2 (fun _ => ?_)
    clear hHeld hK K
    have hHeld := hH2
    clear hH2
    try simp only [Act.put, List.setIfInBounds_toArray, List.set_cons_zero, List.set_cons_succ]
    refine wpAnyH_take (i := 19) (oi := ?oiz142) (v := ?vz142) ?hiz142 (by kernel_rfl) (by kernel_rfl) (by kernel_rfl) ?hQz142 ?hyz142 (by assumption) ?restz142
    case hiz142 => simp only [List.getElem?_toArray, List.getElem?_cons_zero, List.getElem?_cons_succ]; rfl
    case hQz142 => exact fun _ _ _ h => h
    case hyz142 => exact Or.inl ⟨by rfl, by intro w hSw; (try dsimp only at hSw); go_simp; with_reducible rfl⟩
    try simp only [Act.put, List.setIfInBounds_toArray, List.set_cons_zero, List.set_cons_succ]
    refine wpAnyH_take (i := 20) (oi := ?oiz143) (v := ?vz143) ?hiz143 (by kernel_rfl) (by kernel_rfl) (by kernel_rfl) ?hQz143 ?hyz143 (by assumption) ?restz143
    case hiz143 => simp only [List.getElem?_toArray, List.getElem?_cons_zero, List.getElem?_cons_succ]; rfl
    case hQz143 => exact fun _ _ _ h => h
    case hyz143 => exact Or.inl ⟨by rfl, by intro w hSw; (try dsimp only at hSw); go_simp; with_reducible rfl⟩
    try simp only [Act.put, List.setIfInBounds_toArray, List.set_cons_zero, List.set_cons_succ]
    refine wpAnyH_take (i := 21) (oi := ?oiz144) (v := ?vz144) ?hiz144 (by kernel_rfl) (by kernel_rfl) (by kernel_rfl) ?hQz144 ?hyz144 (by assumption) ?restz144
    case hiz144 => simp only [List.getElem?_toArray, List.getElem?_cons_zero, List.getElem?_cons_succ]; rfl
    case hQz144 => exact fun _ _ _ h => h
    case hyz144 => exact Or.inl ⟨by rfl, by intro w hSw; (try dsimp only at hSw); go_simp; with_reducible rfl⟩
    try simp only [Act.put, List.setIfInBounds_toArray, List.set_cons_zero, List.set_cons_succ]
    refine wpAnyH_take (i := 22) (oi := ?oiz145) (v := ?vz145) ?hiz145 (by kernel_rfl) (by kernel_rfl) (by kernel_rfl) ?hQz145 ?hyz145 (by assumption) ?restz145
    case hiz145 => simp only [List.getElem?_toArray, List.getElem?_cons_zero, List.getElem?_cons_succ]; rfl
    case hQz145 => exact fun _ _ _ h => h
    case hyz145 => exact Or.inl ⟨by rfl, by intro w hSw; (try dsimp only at hSw); go_simp; with_reducible rfl⟩
    try simp only [Act.put, List.setIfInBounds_toArray, List.set_cons_zero, List.set_cons_succ]
    refine wpAnyH_take (i := 23) (oi := ?oiz146) (v := ?vz146) ?hiz146 (by kernel_rfl) (by kernel_rfl) (by kernel_rfl) ?hQz146 ?hyz146 (by assumption) ?restz146
    case hiz146 => simp only [List.getElem?_toArray, List.getElem?_cons_zero, List.getElem?_cons_succ]; rfl
    case hQz146 => exact fun _ _ _ h => h
    case hyz146 => exact Or.inl ⟨by rfl, by intro w hSw; (try dsimp only at hSw); go_simp; with_reducible rfl⟩
    try simp only [Act.put, List.setIfInBounds_toArray, List.set_cons_zero, List.set_cons_succ]
    refine wpAnyH_take (i := 24) (oi := ?oiz147) (v := ?vz147) ?hiz147 (by kernel_rfl) (by kernel_rfl) (by kernel_rfl) ?hQz147 ?hyz147 (by assumption) ?restz147
    case hiz147 => simp only [List.getElem?_toArray, List.getElem?_cons_zero, List.getElem?_cons_succ]; rfl
    case hQz147 => exact fun _ _ _ h => h
    case hyz147 => exact Or.inl ⟨by rfl, by intro w hSw; (try dsimp only at hSw); go_simp; with_reducible rfl⟩
    try simp only [Act.put, List.setIfInBounds_toArray, List.set_cons_zero, List.set_cons_succ]
    refine wpAnyH_take (i := 25) (oi := ?oiz148) (v := ?vz148) ?hiz148 (by kernel_rfl) (by kernel_rfl) (by kernel_rfl) ?hQz148 ?hyz148 (by assumption) ?restz148
    case hiz148 => simp only [List.getElem?_toArray, List.getElem?_cons_zero, List.getElem?_cons_succ]; rfl
    case hQz148 => exact fun _ _ _ h => h
    case hyz148 => exact Or.inl ⟨by rfl, by intro w hSw; (try dsimp only at hSw); go_simp; with_reducible rfl⟩
    try simp only [Act.put, List.setIfInBounds_toArray, List.set_cons_zero, List.set_cons_succ]
    refine wpAnyH_take (i := 26) (oi := ?oiz149) (v := ?vz149) ?hiz149 (by kernel_rfl) (by kernel_rfl) (by kernel_rfl) ?hQz149 ?hyz149 (by assumption) ?restz149
    case hiz149 => simp only [List.getElem?_toArray, List.getElem?_cons_zero, List.getElem?_cons_succ]; rfl
    case hQz149 => exact fun _ _ _ h => h
    case hyz149 => exact Or.inl ⟨by rfl, by intro w hSw; (try dsimp only at hSw); go_simp; with_reducible rfl⟩
    try simp only [Act.put, List.setIfInBounds_toArray, List.set_cons_zero, List.set_cons_succ]
    refine wpAnyH_take (i := 27) (oi := ?oiz150) (v := ?vz150) ?hiz150 (by kernel_rfl) (by kernel_rfl) (by kernel_rfl) ?hQz150 ?hyz150 (by assumption) ?restz150
    case hiz150 => simp only [List.getElem?_toArray, List.getElem?_cons_zero, List.getElem?_cons_succ]; rfl
    case hQz150 => exact fun _ _ _ h => h
    case hyz150 => exact Or.inl ⟨by rfl, by intro w hSw; (try dsimp only at hSw); go_simp; with_reducible rfl⟩
    try simp only [Act.put, List.setIfInBounds_toArray, List.set_cons_zero, List.set_cons_succ]
    refine wpAnyH_take (i := 28) (oi := ?oiz151) (v := ?vz151) ?hiz151 (by kernel_rfl) (by kernel_rfl) (by kernel_rfl) ?hQz151 ?hyz151 (by assumption) ?restz151
    case hiz151 => simp only [List.getElem?_toArray, List.getElem?_cons_zero, List.getElem?_cons_succ]; rfl
    case hQz151 => exact fun _ _ _ h => h
    case hyz151 => exact Or.inl ⟨by rfl, by intro w hSw; (try dsimp only at hSw); go_simp; with_reducible rfl⟩
    try simp only [Act.put, List.setIfInBounds_toArray, List.set_cons_zero, List.set_cons_succ]
    refine wpAnyH_take (i := 29) (oi := ?oiz152) (v := ?vz152) ?hiz152 (by kernel_rfl) (by kernel_rfl) (by kernel_rfl) ?hQz152 ?hyz152 (by assumption) ?restz152
    case hiz152 => simp only [List.getElem?_toArray, List.getElem?_cons_zero, List.getElem?_cons_succ]; rfl
    case hQz152 => exact fun _ _ _ h => h
    case hyz152 => exact Or.inl ⟨by rfl, by intro w hSw; (try dsimp only at hSw); go_simp; with_reducible rfl⟩
    try simp only [Act.put, List.setIfInBounds_toArray, List.set_cons_zero, List.set_cons_succ]
    refine wpAnyH_take (i := 30) (oi := ?oiz153) (v := ?vz153) ?hiz153 (by kernel_rfl) (by kernel_rfl) (by kernel_rfl) ?hQz153 ?hyz153 (by assumption) ?restz153
    case hiz153 => simp only [List.getElem?_toArray, List.getElem?_cons_zero, List.getElem?_cons_succ]; rfl
    case hQz153 => exact fun _ _ _ h => h
    case hyz153 => exact Or.inl ⟨by rfl, by intro w hSw; (try dsimp only at hSw); go_simp; with_reducible rfl⟩
    try simp only [Act.put, List.setIfInBounds_toArray, List.set_cons_zero, List.set_cons_succ]
    refine wpAnyH_take (i := 31) (oi := ?oiz154) (v := ?vz154) ?hiz154 (by kernel_rfl) (by kernel_rfl) (by kernel_rfl) ?hQz154 ?hyz154 (by assumption) ?restz154
    case hiz154 => simp only [List.getElem?_toArray, List.getElem?_cons_zero, List.getElem?_cons_succ]; rfl
    case hQz154 => exact fun _ _ _ h => h
    case hyz154 => exact Or.inl ⟨by rfl, by intro w hSw; (try dsimp only at hSw); go_simp; with_reducible rfl⟩
    try simp only [Act.put, List.setIfInBounds_toArray, List.set_cons_zero, List.set_cons_succ]
    refine wpAnyH_take (i := 32) (oi := ?oiz155) (v := undef) ?hiz155 (by kernel_rfl) (by kernel_rfl) (by kernel_rfl) ?hQz155 ?hyz155 (by assumption) ?restz155
    case hiz155 => simp only [List.getElem?_toArray, List.getElem?_cons_zero, List.getElem?_cons_succ]; rfl
    case hQz155 => exact fun _ _ _ h => h
    case hyz155 => exact Or.inr ⟨by rfl, rfl⟩
    try simp only [Act.put, List.setIfInBounds_toArray, List.set_cons_zero, List.set_cons_succ]
    refine wpAnyH_take (i := 33) (oi := ?oiz156) (v := undef) ?hiz156 (by kernel_rfl) (by kernel_rfl) (by kernel_rfl) ?hQz156 ?hyz156 (by assumption) ?restz156
    case hiz156 => simp only [List.getElem?_toArray, List.getElem?_cons_zero, List.getElem?_cons_succ]; rfl
    case hQz156 => exact fun _ _ _ h => h
    case hyz156 => exact Or.inr ⟨by rfl, rfl⟩
    try simp only [Act.put, List.setIfInBounds_toArray, List.set_cons_zero, List.set_cons_succ]
    refine wpAnyH_take (i := 34) (oi := ?oiz157) (v := undef) ?hiz157 (by kernel_rfl) (by kernel_rfl) (by kernel_rfl) ?hQz157 ?hyz157 (by assumption) ?restz157
    case hiz157 => simp only [List.getElem?_toArray, List.getElem?_cons_zero, List.getElem?_cons_succ]; rfl
    case hQz157 => exact fun _ _ _ h => h
    case hyz157 => exact Or.inr ⟨by rfl, rfl⟩
    try simp only [Act.put, List.setIfInBounds_toArray, List.set_cons_zero, List.set_cons_succ]
    refine wpAnyH_take (i := 35) (oi := ?oiz158) (v := undef) ?hiz158 (by kernel_rfl) (by kernel_rfl) (by kernel_rfl) ?hQz158 ?hyz158 (by assumption) ?restz158
    case hiz158 => simp only [List.getElem?_toArray, List.getElem?_cons_zero, List.getElem?_cons_succ]; rfl
    case hQz158 => exact fun _ _ _ h => h
    case hyz158 => exact Or.inr ⟨by rfl, rfl⟩
    try simp only [Act.put, List.setIfInBounds_toArray, List.set_cons_zero, List.set_cons_succ]
    refine wpAnyH_take (i := 36) (oi := ?oiz159) (v := undef) ?hiz159 (by kernel_rfl) (by kernel_rfl) (by kernel_rfl) ?hQz159 ?hyz159 (by assumption) ?restz159
    case hiz159 => simp only [List.getElem?_toArray, List.getElem?_cons_zero, List.getElem?_cons_succ]; rfl
    case hQz159 => exact fun _ _ _ h => h
    case hyz159 => exact Or.inr ⟨by rfl, rfl⟩
    try simp only [Act.put, List.setIfInBounds_toArray, List.set_cons_zero, List.set_cons_succ]
    refine wpAnyH_take (i := 37) (oi := ?oiz160) (v := undef) ?hiz160 (by kernel_rfl) (by kernel_rfl) (by kernel_rfl) ?hQz160 ?hyz160 (by assumption) ?restz160
    case hiz160 => simp only [List.getElem?_toArray, List.getElem?_cons_zero, List.getElem?_cons_succ]; rfl
    case hQz160 => exact fun _ _ _ h => h
    case hyz160 => exact Or.inr ⟨by rfl, rfl⟩
    try simp only [Act.put, List.setIfInBounds_toArray, List.set_cons_zero, List.set_cons_succ]
    refine wpAnyH_take (i := 38) (oi := ?oiz161) (v := undef) ?hiz161 (by kernel_rfl) (by kernel_rfl) (by kernel_rfl) ?hQz161 ?hyz161 (by assumption) ?restz161
    case hiz161 => simp only [List.getElem?_toArray, List.getElem?_cons_zero, List.getElem?_cons_succ]; rfl
    case hQz161 => exact fun _ _ _ h => h
    case hyz161 => exact Or.inr ⟨by rfl, rfl⟩
    try simp only [Act.put, List.setIfInBounds_toArray, List.set_cons_zero, List.set_cons_succ]
    refine wpAnyH_take (i := 39) (oi := ?oiz162) (v := undef) ?hiz162 (by kernel_rfl) (by kernel_rfl) (by kernel_rfl) ?hQz162 ?hyz162 (by assumption) ?restz162
    case hiz162 => simp only [List.getElem?_toArray, List.getElem?_cons_zero, List.getElem?_cons_succ]; rfl
    case hQz162 => exact fun _ _ _ h => h
    case hyz162 => exact Or.inr ⟨by rfl, rfl⟩
    try simp only [Act.put, List.setIfInBounds_toArray, List.set_cons_zero, List.set_cons_succ]
    refine wpAnyH_take (i := 40) (oi := ?oiz163) (v := undef) ?hiz163 (by kernel_rfl) (by kernel_rfl) (by kernel_rfl) ?hQz163 ?hyz163 (by assumption) ?restz163
    case hiz163 => simp only [List.getElem?_toArray, List.getElem?_cons_zero, List.getElem?_cons_succ]; rfl
    case hQz163 => exact fun _ _ _ h => h
    case hyz163 => exact Or.inr ⟨by rfl, rfl⟩
    try simp only [Act.put, List.setIfInBounds_toArray, List.set_cons_zero, List.set_cons_succ]
    refine wpAnyH_take (i := 41) (oi := ?oiz164) (v := ?vz164) ?hiz164 (by kernel_rfl) (by kernel_rfl) (by kernel_rfl) ?hQz164 ?hyz164 (by assumption) ?restz164
    case hiz164 => simp only [List.getElem?_toArray, List.getElem?_cons_zero, List.getElem?_cons_succ]; rfl
    case hQz164 => exact fun _ _ _ h => h
    case hyz164 => exact Or.inl ⟨by rfl, by intro w hSw; (try dsimp only at hSw); go_simp; with_reducible rfl⟩
    try simp only [Act.put, List.setIfInBounds_toArray, List.set_cons_zero, List.set_cons_succ]
    refine wpAnyH_take (i := 42) (oi := ?oiz165) (v := ?vz165) ?hiz165 (by kernel_rfl) (by kernel_rfl) (by kernel_rfl) ?hQz165 ?hyz165 (by assumption) ?restz165
    case hiz165 => simp only [List.getElem?_toArray, List.getElem?_cons_zero, List.getElem?_cons_succ]; rfl
    case hQz165 => exact fun _ _ _ h => h
    case hyz165 => exact Or.inl ⟨by rfl, by intro w hSw; (try dsimp only at hSw); go_simp; with_reducible rfl⟩
    try simp only [Act.put, List.setIfInBounds_toArray, List.set_cons_zero, List.set_cons_succ]
    refine wpAnyH_done (by kernel_rfl) ?_ _
    have XW := Lib.hid hHeld
    clear hHeld
    go_wp2
    go_ret
    exact ⟨by rw [HE.out, E3.out, Bool.false_and, Bool.and_false, Bool.and_false]; rfl, XW.out⟩
  | true =>
    have E3 := Lib.hid e3
    go_enter Try.func62, Try.ntmps62
    go_wp2_with fail
    refine wp_region_held_drew (S := fun W => Ext w W) (by kernel_rfl) (Ext.refl _).drew (fun hHeld => ?_)
    refine wpAnyH_take (i := 0) (oi := ?oiz166) (v := ?vz166) ?hiz166 (by kernel_rfl) (by kernel_rfl) (by kernel_rfl) ?hQz166 ?hyz166 (by assumption) ?restz166
    case hiz166 => simp only [List.getElem?_toArray, List.getElem?_cons_zero, List.getElem?_cons_succ]; rfl
    case hQz166 => exact fun _ _ _ h => h
    case hyz166 => exact Or.inl ⟨by rfl, by intro w hSw; (try dsimp only at hSw); go_simp; with_reducible rfl⟩
    try simp only [Act.put, List.setIfInBounds_toArray, List.set_cons_zero, List.set_cons_succ]
    refine wpAnyH_take (i := 1) (oi := ?oiz167) (v := ?vz167) ?hiz167 (by kernel_rfl) (by kernel_rfl) (by kernel_rfl) ?hQz167 ?hyz167 (by assumption) ?restz167
    case hiz167 => simp only [List.getElem?_toArray, List.getElem?_cons_zero, List.getElem?_cons_succ]; rfl
    case hQz167 => exact fun _ _ _ h => h
    case hyz167 => exact Or.inl ⟨by rfl, by intro w hSw; (try dsimp only at hSw); go_simp; with_reducible rfl⟩
    try simp only [Act.put, List.setIfInBounds_toArray, List.set_cons_zero, List.set_cons_succ]
    refine wpAnyH_take (i := 2) (oi := ?oiz168) (v := ?vz168) ?hiz168 (by kernel_rfl) (by kernel_rfl) (by kernel_rfl) ?hQz168 ?hyz168 (by assumption) ?restz168
    case hiz168 => simp only [List.getElem?_toArray, List.getElem?_cons_zero, List.getElem?_cons_succ]; rfl
    case hQz168 => exact fun _ _ _ h => h
    case hyz168 => exact Or.inl ⟨by rfl, by intro w hSw; (try dsimp only at hSw); go_simp; with_reducible rfl⟩
    try simp only [Act.put, List.setIfInBounds_toArray, List.set_cons_zero, List.set_cons_succ]
    refine wpAnyH_take (i := 3) (oi := ?oiz169) (v := (.agg (numsA .u8 x.root))) ?hiz169 (by kernel_rfl) (by kernel_rfl) (by kernel_rfl) ?hQz169 ?hyz169 (by assumption) ?restz169
    case hiz169 => simp only [List.getElem?_toArray, List.getElem?_cons_zero, List.getElem?_cons_succ]; rfl
    case hQz169 => exact fun _ _ _ h => h
    case hyz169 => refine yields_loadP HB.out aggKey HL.out (Cm.root_at _) ?_ _ rfl rfl; rfl
    try simp only [Act.put, List.setIfInBounds_toArray, List.set_cons_zero, List.set_cons_succ]
    refine wpAnyH_take (i := 4) (oi := ?oiz170) (v := ?vz170) ?hiz170 (by kernel_rfl) (by kernel_rfl) (by kernel_rfl) ?hQz170 ?hyz170 (by assumption) ?restz170
    case hiz170 => simp only [List.getElem?_toArray, List.getElem?_cons_zero, List.getElem?_cons_succ]; rfl
    case hQz170 => exact fun _ _ _ h => h
    case hyz170 => exact Or.inl ⟨by rfl, by intro w hSw; (try dsimp only at hSw); go_simp; with_reducible rfl⟩
    try simp only [Act.put, List.setIfInBounds_toArray, List.set_cons_zero, List.set_cons_succ]
    refine wpAnyH_take (i := 5) (oi := ?oiz171) (v := ?vz171) ?hiz171 (by kernel_rfl) (by kernel_rfl) (by kernel_rfl) ?hQz171 ?hyz171 (by assumption) ?restz171
    case hiz171 => simp only [List.getElem?_toArray, List.getElem?_cons_zero, List.getElem?_cons_succ]; rfl
    case hQz171 => exact fun _ _ _ h => h
    case hyz171 => exact Or.inl ⟨by rfl, by intro w hSw; (try dsimp only at hSw); go_simp; with_reducible rfl⟩
    try simp only [Act.put, List.setIfInBounds_toArray, List.set_cons_zero, List.set_cons_succ]
    refine wpAnyH_take (i := 6) (oi := ?oiz172) (v := ?vz172) ?hiz172 (by kernel_rfl) (by kernel_rfl) (by kernel_rfl) ?hQz172 ?hyz172 (by assumption) ?restz172
    case hiz172 => simp only [List.getElem?_toArray, List.getElem?_cons_zero, List.getElem?_cons_succ]; rfl
    case hQz172 => exact fun _ _ _ h => h
    case hyz172 => exact Or.inl ⟨by rfl, by intro w hSw; (try dsimp only at hSw); go_simp; with_reducible rfl⟩
    try simp only [Act.put, List.setIfInBounds_toArray, List.set_cons_zero, List.set_cons_succ]
    refine wpAnyH_take (i := 7) (oi := ?oiz173) (v := (.agg (numsA .u8 y.root))) ?hiz173 (by kernel_rfl) (by kernel_rfl) (by kernel_rfl) ?hQz173 ?hyz173 (by assumption) ?restz173
    case hiz173 => simp only [List.getElem?_toArray, List.getElem?_cons_zero, List.getElem?_cons_succ]; rfl
    case hQz173 => exact fun _ _ _ h => h
    case hyz173 => refine yields_loadP HB'.out aggKey HL'.out (Cm.root_at _) ?_ _ rfl rfl; rfl
    try simp only [Act.put, List.setIfInBounds_toArray, List.set_cons_zero, List.set_cons_succ]
    refine wpAnyH_take (i := 8) (oi := ?oiz174) (v := ?vz174) ?hiz174 (by kernel_rfl) (by kernel_rfl) (by kernel_rfl) ?hQz174 ?hyz174 (by assumption) ?restz174
    case hiz174 => simp only [List.getElem?_toArray, List.getElem?_cons_zero, List.getElem?_cons_succ]; rfl
    case hQz174 => exact fun _ _ _ h => h
    case hyz174 => exact Or.inl ⟨by rfl, by intro w hSw; (try dsimp only at hSw); go_simp; with_reducible rfl⟩
    try simp only [Act.put, List.setIfInBounds_toArray, List.set_cons_zero, List.set_cons_succ]
    refine wpAnyH_take (i := 9) (oi := ?oiz175) (v := ?vz175) ?hiz175 (by kernel_rfl) (by kernel_rfl) (by kernel_rfl) ?hQz175 ?hyz175 (by assumption) ?restz175
    case hiz175 => simp only [List.getElem?_toArray, List.getElem?_cons_zero, List.getElem?_cons_succ]; rfl
    case hQz175 => exact fun _ _ _ h => h
    case hyz175 => exact Or.inl ⟨by rfl, by intro w hSw; (try dsimp only at hSw); go_simp; with_reducible rfl⟩
    try simp only [Act.put, List.setIfInBounds_toArray, List.set_cons_zero, List.set_cons_succ]
    refine wpAnyH_take (i := 10) (oi := ?oiz176) (v := ?vz176) ?hiz176 (by kernel_rfl) (by kernel_rfl) (by kernel_rfl) ?hQz176 ?hyz176 (by assumption) ?restz176
    case hiz176 => simp only [List.getElem?_toArray, List.getElem?_cons_zero, List.getElem?_cons_succ]; rfl
    case hQz176 => exact fun _ _ _ h => h
    case hyz176 => exact Or.inl ⟨by rfl, by intro w hSw; (try dsimp only at hSw); go_simp; with_reducible rfl⟩
    try simp only [Act.put, List.setIfInBounds_toArray, List.set_cons_zero, List.set_cons_succ]
    refine wpAnyH_take (i := 11) (oi := ?oiz177) (v := ?vz177) ?hiz177 (by kernel_rfl) (by kernel_rfl) (by kernel_rfl) ?hQz177 ?hyz177 (by assumption) ?restz177
    case hiz177 => simp only [List.getElem?_toArray, List.getElem?_cons_zero, List.getElem?_cons_succ]; rfl
    case hQz177 => exact fun _ _ _ h => h
    case hyz177 => exact Or.inl ⟨by rfl, by intro w hSw; (try dsimp only at hSw); go_simp; with_reducible rfl⟩
    try simp only [Act.put, List.setIfInBounds_toArray, List.set_cons_zero, List.set_cons_succ]
    refine wpAnyH_take (i := 12) (oi := ?oiz178) (v := ?vz178) ?hiz178 (by kernel_rfl) (by kernel_rfl) (by kernel_rfl) ?hQz178 ?hyz178 (by assumption) ?restz178
    case hiz178 => simp only [List.getElem?_toArray, List.getElem?_cons_zero, List.getElem?_cons_succ]; rfl
    case hQz178 => exact fun _ _ _ h => h
    case hyz178 => exact Or.inl ⟨by rfl, by intro w hSw; (try dsimp only at hSw); go_simp; with_reducible rfl⟩
    try simp only [Act.put, List.setIfInBounds_toArray, List.set_cons_zero, List.set_cons_succ]
    refine wpAnyH_take (i := 13) (oi := ?oiz179) (v := ?vz179) ?hiz179 (by kernel_rfl) (by kernel_rfl) (by kernel_rfl) ?hQz179 ?hyz179 (by assumption) ?restz179
    case hiz179 => simp only [List.getElem?_toArray, List.getElem?_cons_zero, List.getElem?_cons_succ]; rfl
    case hQz179 => exact fun _ _ _ h => h
    case hyz179 => exact Or.inl ⟨by rfl, by intro w hSw; (try dsimp only at hSw); go_simp; with_reducible rfl⟩
    try simp only [Act.put, List.setIfInBounds_toArray, List.set_cons_zero, List.set_cons_succ]
    refine wpAnyH_take (i := 14) (oi := ?oiz180) (v := ?vz180) ?hiz180 (by kernel_rfl) (by kernel_rfl) (by kernel_rfl) ?hQz180 ?hyz180 (by assumption) ?restz180
    case hiz180 => simp only [List.getElem?_toArray, List.getElem?_cons_zero, List.getElem?_cons_succ]; rfl
    case hQz180 => exact fun _ _ _ h => h
    case hyz180 => exact Or.inl ⟨by rfl, by intro w hSw; (try dsimp only at hSw); go_simp; with_reducible rfl⟩
    try simp only [Act.put, List.setIfInBounds_toArray, List.set_cons_zero, List.set_cons_succ]
    refine wpAnyH_take (i := 15) (oi := ?oiz181) (v := ?vz181) ?hiz181 (by kernel_rfl) (by kernel_rfl) (by kernel_rfl) ?hQz181 ?hyz181 (by assumption) ?restz181
    case hiz181 => simp only [List.getElem?_toArray, List.getElem?_cons_zero, List.getElem?_cons_succ]; rfl
    case hQz181 => exact fun _ _ _ h => h
    case hyz181 => exact Or.inl ⟨by rfl, by intro w hSw; (try dsimp only at hSw); go_simp; with_reducible rfl⟩
    try simp only [Act.put, List.setIfInBounds_toArray, List.set_cons_zero, List.set_cons_succ]
    refine wpAnyH_take (i := 16) (oi := ?oiz182) (v := ?vz182) ?hiz182 (by kernel_rfl) (by kernel_rfl) (by kernel_rfl) ?hQz182 ?hyz182 (by assumption) ?restz182
    case hiz182 => simp only [List.getElem?_toArray, List.getElem?_cons_zero, List.getElem?_cons_succ]; rfl
    case hQz182 => exact fun _ _ _ h => h
    case hyz182 => exact Or.inl ⟨by rfl, by intro w hSw; (try dsimp only at hSw); go_simp; with_reducible rfl⟩
    try simp only [Act.put, List.setIfInBounds_toArray, List.set_cons_zero, List.set_cons_succ]
    refine wpAnyH_take (i := 17) (oi := ?oiz183) (v := ?vz183) ?hiz183 (by kernel_rfl) (by kernel_rfl) (by kernel_rfl) ?hQz183 ?hyz183 (by assumption) ?restz183
    case hiz183 => simp only [List.getElem?_toArray, List.getElem?_cons_zero, List.getElem?_cons_succ]; rfl
    case hQz183 => exact fun _ _ _ h => h
    case hyz183 => exact Or.inl ⟨by rfl, by intro w hSw; (try dsimp only at hSw); go_simp; with_reducible rfl⟩
    try simp only [Act.put, List.setIfInBounds_toArray, List.set_cons_zero, List.set_cons_succ]
    refine wpAnyH_ready (rs := [18]) (by kernel_rfl) (by simp) (AllReadyH.cons (o := ?oy18418) ?hy18418 (fun K hK => ?sy18418) AllReadyH.nil)
    case hy18418 => simp only [List.getElem?_toArray, List.getElem?_cons_zero, List.getElem?_cons_succ]; rfl
    go_simp
    refine (hls _ (H.out.ext (by decide) hHeld) (H'.out.ext (by decide) hHeld)).mono ?_
    rintro e w1 ⟨rfl, hx⟩
    have hH2 := hHeld.trans hx
    refine hK.out _ _ hH2 (fun _ => ?_)
    clear hHeld hK K
    have hHeld := hH2
    clear hH2
    try simp only [Act.put, List.setIfInBounds_toArray, List.set_cons_zero, List.set_cons_succ]
    refine wpAnyH_take (i := 19) (oi := ?oiz185) (v := ?vz185) ?hiz185 (by kernel_rfl) (by kernel_rfl) (by kernel_rfl) ?hQz185 ?hyz185 (by assumption) ?restz185
    case hiz185 => simp only [List.getElem?_toArray, List.getElem?_cons_zero, List.getElem?_cons_succ]; rfl
    case hQz185 => exact fun _ _ _ h => h
    case hyz185 => exact Or.inl ⟨by rfl, by intro w hSw; (try dsimp only at hSw); go_simp; with_reducible rfl⟩
    try simp only [Act.put, List.setIfInBounds_toArray, List.set_cons_zero, List.set_cons_succ]
    refine wpAnyH_take (i := 20) (oi := ?oiz186) (v := ?vz186) ?hiz186 (by kernel_rfl) (by kernel_rfl) (by kernel_rfl) ?hQz186 ?hyz186 (by assumption) ?restz186
    case hiz186 => simp only [List.getElem?_toArray, List.getElem?_cons_zero, List.getElem?_cons_succ]; rfl
    case hQz186 => exact fun _ _ _ h => h
    case hyz186 => exact Or.inl ⟨by rfl, by intro w hSw; (try dsimp only at hSw); go_simp; with_reducible rfl⟩
    try simp only [Act.put, List.setIfInBounds_toArray, List.set_cons_zero, List.set_cons_succ]
    refine wpAnyH_take (i := 21) (oi := ?oiz187) (v := ?vz187) ?hiz187 (by kernel_rfl) (by kernel_rfl) (by kernel_rfl) ?hQz187 ?hyz187 (by assumption) ?restz187
    case hiz187 => simp only [List.getElem?_toArray, List.getElem?_cons_zero, List.getElem?_cons_succ]; rfl
    case hQz187 => exact fun _ _ _ h => h
    case hyz187 => exact Or.inl ⟨by rfl, by intro w hSw; (try dsimp only at hSw); go_simp; with_reducible rfl⟩
    try simp only [Act.put, List.setIfInBounds_toArray, List.set_cons_zero, List.set_cons_succ]
    refine wpAnyH_take (i := 22) (oi := ?oiz188) (v := ?vz188) ?hiz188 (by kernel_rfl) (by kernel_rfl) (by kernel_rfl) ?hQz188 ?hyz188 (by assumption) ?restz188
    case hiz188 => simp only [List.getElem?_toArray, List.getElem?_cons_zero, List.getElem?_cons_succ]; rfl
    case hQz188 => exact fun _ _ _ h => h
    case hyz188 => exact Or.inl ⟨by rfl, by intro w hSw; (try dsimp only at hSw); go_simp; with_reducible rfl⟩
    try simp only [Act.put, List.setIfInBounds_toArray, List.set_cons_zero, List.set_cons_succ]
    refine wpAnyH_take (i := 23) (oi := ?oiz189) (v := ?vz189) ?hiz189 (by kernel_rfl) (by kernel_rfl) (by kernel_rfl) ?hQz189 ?hyz189 (by assumption) ?restz189
    case hiz189 => simp only [List.getElem?_toArray, List.getElem?_cons_zero, List.getElem?_cons_succ]; rfl
    case hQz189 => exact fun _ _ _ h => h
    case hyz189 => exact Or.inl ⟨by rfl, by intro w hSw; (try dsimp only at hSw); go_simp; with_reducible rfl⟩
    try simp only [Act.put, List.setIfInBounds_toArray, List.set_cons_zero, List.set_cons_succ]
    refine wpAnyH_take (i := 24) (oi := ?oiz190) (v := ?vz190) ?hiz190 (by kernel_rfl) (by kernel_rfl) (by kernel_rfl) ?hQz190 ?hyz190 (by assumption) ?restz190
    case hiz190 => simp only [List.getElem?_toArray, List.getElem?_cons_zero, List.getElem?_cons_succ]; rfl
    case hQz190 => exact fun _ _ _ h => h
    case hyz190 => exact Or.inl ⟨by rfl, by intro w hSw; (try dsimp only at hSw); go_simp; with_reducible rfl⟩
    try simp only [Act.put, List.setIfInBounds_toArray, List.set_cons_zero, List.set_cons_succ]
    refine wpAnyH_take (i := 25) (oi := ?oiz191) (v := ?vz191) ?hiz191 (by kernel_rfl) (by kernel_rfl) (by kernel_rfl) ?hQz191 ?hyz191 (by assumption) ?restz191
    case hiz191 => simp only [List.getElem?_toArray, List.getElem?_cons_zero, List.getElem?_cons_succ]; rfl
    case hQz191 => exact fun _ _ _ h => h
    case hyz191 => exact Or.inl ⟨by rfl, by intro w hSw; (try dsimp only at hSw); go_simp; with_reducible rfl⟩
    try simp only [Act.put, List.setIfInBounds_toArray, List.set_cons_zero, List.set_cons_succ]
    refine wpAnyH_take (i := 26) (oi := ?oiz192) (v := ?vz192) ?hiz192 (by kernel_rfl) (by kernel_rfl) (by kernel_rfl) ?hQz192 ?hyz192 (by assumption) ?restz192
    case hiz192 => simp only [List.getElem?_toArray, List.getElem?_cons_zero, List.getElem?_cons_succ]; rfl
    case hQz192 => exact fun _ _ _ h => h
    case hyz192 => exact Or.inl ⟨by rfl, by intro w hSw; (try dsimp only at hSw); go_simp; with_reducible rfl⟩
    try simp only [Act.put, List.setIfInBounds_toArray, List.set_cons_zero, List.set_cons_succ]
    refine wpAnyH_take (i := 27) (oi := ?oiz193) (v := ?vz193) ?hiz193 (by kernel_rfl) (by kernel_rfl) (by kernel_rfl) ?hQz193 ?hyz193 (by assumption) ?restz193
    case hiz193 => simp only [List.getElem?_toArray, List.getElem?_cons_zero, List.getElem?_cons_succ]; rfl
    case hQz193 => exact fun _ _ _ h => h
    case hyz193 => exact Or.inl ⟨by rfl, by intro w hSw; (try dsimp only at hSw); go_simp; with_reducible rfl⟩
    try simp only [Act.put, List.setIfInBounds_toArray, List.set_cons_zero, List.set_cons_succ]
    refine wpAnyH_take (i := 28) (oi := ?oiz194) (v := ?vz194) ?hiz194 (by kernel_rfl) (by kernel_rfl) (by kernel_rfl) ?hQz194 ?hyz194 (by assumption) ?restz194
    case hiz194 => simp only [List.getElem?_toArray, List.getElem?_cons_zero, List.getElem?_cons_succ]; rfl
    case hQz194 => exact fun _ _ _ h => h
    case hyz194 => exact Or.inl ⟨by rfl, by intro w hSw; (try dsimp only at hSw); go_simp; with_reducible rfl⟩
    try simp only [Act.put, List.setIfInBounds_toArray, List.set_cons_zero, List.set_cons_succ]
    refine wpAnyH_take (i := 29) (oi := ?oiz195) (v := ?vz195) ?hiz195 (by kernel_rfl) (by kernel_rfl) (by kernel_rfl) ?hQz195 ?hyz195 (by assumption) ?restz195
    case hiz195 => simp only [List.getElem?_toArray, List.getElem?_cons_zero, List.getElem?_cons_succ]; rfl
    case hQz195 => exact fun _ _ _ h => h
    case hyz195 => exact Or.inl ⟨by rfl, by intro w hSw; (try dsimp only at hSw); go_simp; with_reducible rfl⟩
    try simp only [Act.put, List.setIfInBounds_toArray, List.set_cons_zero, List.set_cons_succ]
    refine wpAnyH_take (i := 30) (oi := ?oiz196) (v := ?vz196) ?hiz196 (by kernel_rfl) (by kernel_rfl) (by kernel_rfl) ?hQz196 ?hyz196 (by assumption) ?restz196
    case hiz196 => simp only [List.getElem?_toArray, List.getElem?_cons_zero, List.getElem?_cons_succ]; rfl
    case hQz196 => exact fun _ _ _ h => h
    case hyz196 => exact Or.inl ⟨by rfl, by intro w hSw; (try dsimp only at hSw); go_simp; with_reducible rfl⟩
    try simp only [Act.put, List.setIfInBounds_toArray, List.set_cons_zero, List.set_cons_succ]
    refine wpAnyH_take (i := 31) (oi := ?oiz197) (v := ?vz197) ?hiz197 (by kernel_rfl) (by kernel_rfl) (by kernel_rfl) ?hQz197 ?hyz197 (by assumption) ?restz197
    case hiz197 => simp only [List.getElem?_toArray, List.getElem?_cons_zero, List.getElem?_cons_succ]; rfl
    case hQz197 => exact fun _ _ _ h => h
    case hyz197 => exact Or.inl ⟨by rfl, by intro w hSw; (try dsimp only at hSw); go_simp; with_reducible rfl⟩
    try simp only [Act.put, List.setIfInBounds_toArray, List.set_cons_zero, List.set_cons_succ]
    refine wpAnyH_take (i := 32) (oi := ?oiz198) (v := ?vz198) ?hiz198 (by kernel_rfl) (by kernel_rfl) (by kernel_rfl) ?hQz198 ?hyz198 (by assumption) ?restz198
    case hiz198 => simp only [List.getElem?_toArray, List.getElem?_cons_zero, List.getElem?_cons_succ]; rfl
    case hQz198 => exact fun _ _ _ h => h
    case hyz198 => exact Or.inl ⟨by rfl, by intro w hSw; (try dsimp only at hSw); go_simp; with_reducible rfl⟩
    try simp only [Act.put, List.setIfInBounds_toArray, List.set_cons_zero, List.set_cons_succ]
    refine wpAnyH_take (i := 33) (oi := ?oiz199) (v := ?vz199) ?hiz199 (by kernel_rfl) (by kernel_rfl) (by kernel_rfl) ?hQz199 ?hyz199 (by assumption) ?restz199
    case hiz199 => simp only [List.getElem?_toArray, List.getElem?_cons_zero, List.getElem?_cons_succ]; rfl
    case hQz199 => exact fun _ _ _ h => h
    case hyz199 => exact Or.inl ⟨by rfl, by intro w hSw; (try dsimp only at hSw); go_simp; with_reducible rfl⟩
    try simp only [Act.put, List.setIfInBounds_toArray, List.set_cons_zero, List.set_cons_succ]
    refine wpAnyH_take (i := 34) (oi := ?oiz200) (v := ?vz200) ?hiz200 (by kernel_rfl) (by kernel_rfl) (by kernel_rfl) ?hQz200 ?hyz200 (by assumption) ?restz200
    case hiz200 => simp only [List.getElem?_toArray, List.getElem?_cons_zero, List.getElem?_cons_succ]; rfl
    case hQz200 => exact fun _ _ _ h => h
    case hyz200 => exact Or.inl ⟨by rfl, by intro w hSw; (try dsimp only at hSw); go_simp; with_reducible rfl⟩
    try simp only [Act.put, List.setIfInBounds_toArray, List.set_cons_zero, List.set_cons_succ]
    refine wpAnyH_take (i := 35) (oi := ?oiz201) (v := ?vz201) ?hiz201 (by kernel_rfl) (by kernel_rfl) (by kernel_rfl) ?hQz201 ?hyz201 (by assumption) ?restz201
    case hiz201 => simp only [List.getElem?_toArray, List.getElem?_cons_zero, List.getElem?_cons_succ]; rfl
    case hQz201 => exact fun _ _ _ h => h
    case hyz201 => exact Or.inl ⟨by rfl, by intro w hSw; (try dsimp only at hSw); go_simp; with_reducible rfl⟩
    try simp only [Act.put, List.setIfInBounds_toArray, List.set_cons_zero, List.set_cons_succ]
    refine wpAnyH_take (i := 36) (oi := ?oiz202) (v := ?vz202) ?hiz202 (by kernel_rfl) (by kernel_rfl) (by kernel_rfl) ?hQz202 ?hyz202 (by assumption) ?restz202
    case hiz202 => simp only [List.getElem?_toArray, List.getElem?_cons_zero, List.getElem?_cons_succ]; rfl
    case hQz202 => exact fun _ _ _ h => h
    case hyz202 => exact Or.inl ⟨by rfl, by intro w hSw; (try dsimp only at hSw); go_simp; with_reducible rfl⟩
    try simp only [Act.put, List.setIfInBounds_toArray, List.set_cons_zero, List.set_cons_succ]
    refine wpAnyH_take (i := 37) (oi := ?oiz203) (v := ?vz203) ?hiz203 (by kernel_rfl) (by kernel_rfl) (by kernel_rfl) ?hQz203 ?hyz203 (by assumption) ?restz203
    case hiz203 => simp only [List.getElem?_toArray, List.getElem?_cons_zero, List.getElem?_cons_succ]; rfl
    case hQz203 => exact fun _ _ _ h => h
    case hyz203 => exact Or.inl ⟨by rfl, by intro w hSw; (try dsimp only at hSw); go_simp; with_reducible rfl⟩
    try simp only [Act.put, List.setIfInBounds_toArray, List.set_cons_zero, List.set_cons_succ]
    refine wpAnyH_take (i := 38) (oi := ?oiz204) (v := ?vz204) ?hiz204 (by kernel_rfl) (by kernel_rfl) (by kernel_rfl) ?hQz204 ?hyz204 (by assumption) ?restz204
    case hiz204 => simp only [List.getElem?_toArray, List.getElem?_cons_zero, List.getElem?_cons_succ]; rfl
    case hQz204 => exact fun _ _ _ h => h
    case hyz204 => exact Or.inl ⟨by rfl, by intro w hSw; (try dsimp only at hSw); go_simp; with_reducible rfl⟩
    try simp only [Act.put, List.setIfInBounds_toArray, List.set_cons_zero, List.set_cons_succ]
    refine wpAnyH_take (i := 39) (oi := ?oiz205) (v := ?vz205) ?hiz205 (by kernel_rfl) (by kernel_rfl) (by kernel_rfl) ?hQz205 ?hyz205 (by assumption) ?restz205
    case hiz205 => simp only [List.getElem?_toArray, List.getElem?_cons_zero, List.getElem?_cons_succ]; rfl
    case hQz205 => exact fun _ _ _ h => h
    case hyz205 => exact Or.inl ⟨by rfl, by intro w hSw; (try dsimp only at hSw); go_simp; with_reducible rfl⟩
    try simp only [Act.put, List.setIfInBounds_toArray, List.set_cons_zero, List.set_cons_succ]
    refine wpAnyH_take (i := 40) (oi := ?oiz206) (v := ?vz206) ?hiz206 (by kernel_rfl) (by kernel_rfl) (by kernel_rfl) ?hQz206 ?hyz206 (by assumption) ?restz206
    case hiz206 => simp only [List.getElem?_toArray, List.getElem?_cons_zero, List.getElem?_cons_succ]; rfl
    case hQz206 => exact fun _ _ _ h => h
    case hyz206 => exact Or.inl ⟨by rfl, by intro w hSw; (try dsimp only at hSw); go_simp; with_reducible rfl⟩
    try simp only [Act.put, List.setIfInBounds_toArray, List.set_cons_zero, List.set_cons_succ]
    refine wpAnyH_take (i := 41) (oi := ?oiz207) (v := ?vz207) ?hiz207 (by kernel_rfl) (by kernel_rfl) (by kernel_rfl) ?hQz207 ?hyz207 (by assumption) ?restz207
    case hiz207 => simp only [List.getElem?_toArray, List.getElem?_cons_zero, List.getElem?_cons_succ]; rfl
    case hQz207 => exact fun _ _ _ h => h
    case hyz207 => exact Or.inl ⟨by rfl, by intro w hSw; (try dsimp only at hSw); go_simp; with_reducible rfl⟩
    try simp only [Act.put, List.setIfInBounds_toArray, List.set_cons_zero, List.set_cons_succ]
    refine wpAnyH_take (i := 42) (oi := ?oiz208) (v := ?vz208) ?hiz208 (by kernel_rfl) (by kernel_rfl) (by kernel_rfl) ?hQz208 ?hyz208 (by assumption) ?restz208
    case hiz208 => simp only [List.getElem?_toArray, List.getElem?_cons_zero, List.getElem?_cons_succ]; rfl
    case hQz208 => exact fun _ _ _ h => h
    case hyz208 => exact Or.inl ⟨by rfl, by intro w hSw; (try dsimp only at hSw); go_simp; with_reducible rfl⟩
    try simp only [Act.put, List.setIfInBounds_toArray, List.set_cons_zero, List.set_cons_succ]
    refine wpAnyH_done (by kernel_rfl) ?_ _
    have XW := Lib.hid hHeld
    clear hHeld
    go_wp2
    go_ret
    exact ⟨by rw [HE.out, decide_eq_true E1.out, decide_eq_true E2.out, E3.out, Bool.true_and, Bool.true_and, Bool.true_and]; rfl, XW.out⟩
attribute [local irreducible] Blk in
set_option maxHeartbeats 1000000 in
set_option maxRecDepth 100000 in
theorem implSameCommit_u (cs cs' : Array Value) (x y : Cm) (w : World) (S S' : Nat → Prop) (h : RCommit w S cs x) (h' : RCommit w S' cs' y) :
    Calls Try.prog 67 #[.agg cs, .agg cs'] w fun e w' => e = .returned (.bool (sameCm x y)) ∧ Ext w w' := by
  obtain ⟨v, rfl, hr, hroot, hnum, hnote⟩ := h
  obtain ⟨v', rfl, hr', hroot', hnum', hnote'⟩ := h'
  obtain ⟨A, cap, rfl, _⟩ := id hr
  obtain ⟨A', cap', rfl, _⟩ := id hr'
  have H := Lib.hid hr
  have H' := Lib.hid hr'
  have HL := Lib.hid (sizeN (k := .u8) hroot.1)
  have HL' := Lib.hid (sizeN (k := .u8) hroot'.1)
  have HAT := Lib.hid (Cm.at_ hroot (.slice A x.par.length cap))
  have HAT' := Lib.hid (Cm.at_ hroot' (.slice A' y.par.length cap'))
  have HE := Lib.hid (sameCm_eq x y)
  have heq := run_eqKey x.root y.root hroot hroot'
  have B0 := Lib.hid ((Blk.new w 43 (x.cells (.slice A x.par.length cap))).alloc (.cells (y.cells (.slice A' y.par.length cap')) 43))
  have B1 := Lib.hid (Blk.new' (g := w.heap.size + 1) (w := w.alloc (.cells (x.cells (.slice A x.par.length cap)) 43)) (by simp) 43 (y.cells (.slice A' y.par.length cap')))
  have c0 := B0.out.at_ 32 HAT.out.1
  have c1 := B1.out.at_ 32 HAT'.out.1
  have HW := Lib.hid ((ext_alloc w (.cells (x.cells (.slice A x.par.length cap)) 43)).alloc (.cells (y.cells (.slice A' y.par.length cap')) 43))
  clear hr hr' hroot hroot'
  have hls := fun W (h1 : RdL tKey W S (.slice A x.par.length cap) x.par) (h2 : RdL tKey W S' (.slice A' y.par.length cap') y.par) => slEqualKey_any _ _ x.par y.par W S S' h1 h2
  by_cases e1 : x.root = y.root
  rotate_left
  · have E1 := Lib.hid e1
    simp only [decide_eq_false e1] at heq
    clear e1
    go_enter Try.func67, Try.ntmps67
    go_wp2_with (first
      | (refine wpl_loadP (off := 0) (sub := numsA .u8 x.root) B0.out aggKey HL.out (Cm.root_at _) rfl _ rfl rfl ?_)
      | (refine wpl_loadP (off := 0) (sub := numsA .u8 y.root) B1.out aggKey HL'.out (Cm.root_at _) rfl _ rfl rfl ?_))
    go_ret
    exact ⟨by rw [HE.out, decide_eq_false E1.out]; rfl, HW.out⟩
  have E1 := Lib.hid e1
  simp only [decide_eq_true e1] at heq
  clear e1
  by_cases e2 : x.par = y.par
  rotate_left
  · have E2 := Lib.hid e2
    simp only [decide_eq_false e2] at hls
    clear e2
    go_enter Try.func67, Try.ntmps67
    go_wp2_with (first
      | (refine wpl_loadP (off := 0) (sub := numsA .u8 x.root) B0.out aggKey HL.out (Cm.root_at _) rfl _ rfl rfl ?_)
      | (refine wpl_loadP (off := 0) (sub := numsA .u8 y.root) B1.out aggKey HL'.out (Cm.root_at _) rfl _ rfl rfl ?_))
    refine (hls _ (H.out.ext (by decide) HW.out) (H'.out.ext (by decide) HW.out)).mono ?_
    rintro e w1 ⟨rfl, hx⟩
    have XW := Lib.hid (HW.out.trans hx)
    clear hx
    go_wp2
    go_ret
    exact ⟨by rw [HE.out, decide_eq_false E2.out, Bool.false_and, Bool.and_false]; rfl, XW.out⟩
  have E2 := Lib.hid e2
  simp only [decide_eq_true e2] at hls
  clear e2
  cases e3 : (x.num == y.num) with
  | false =>
    have E3 := Lib.hid e3
    go_enter Try.func67, Try.ntmps67
    go_wp2_with (first
      | (refine wpl_loadP (off := 0) (sub := numsA .u8 x.root) B0.out aggKey HL.out (Cm.root_at _) rfl _ rfl rfl ?_)
      | (refine wpl_loadP (off := 0) (sub := numsA .u8 y.root) B1.out aggKey HL'.out (Cm.root_at _) rfl _ rfl rfl ?_))
    refine (hls _ (H.out.ext (by decide) HW.out) (H'.out.ext (by decide) HW.out)).mono ?_
    rintro e w1 ⟨rfl, hx⟩
    have d0 := (B0.out.ext hx).at_ 33 HAT.out.2.1
    have d1 := (B1.out.ext hx).at_ 33 HAT'.out.2.1
    have XW := Lib.hid (HW.out.trans hx)
    clear hx
    go_wp2
    go_ret
    exact ⟨by rw [HE.out, E3.out, Bool.false_and, Bool.and_false, Bool.and_false]; rfl, XW.out⟩
  | true =>
    have E3 := Lib.hid e3
    go_enter Try.func67, Try.ntmps67
    go_wp2_with (first
      | (refine wpl_loadP (off := 0) (sub := numsA .u8 x.root) B0.out aggKey HL.out (Cm.root_at _) rfl _ rfl rfl ?_)
      | (refine wpl_loadP (off := 0) (sub := numsA .u8 y.root) B1.out aggKey HL'.out (Cm.root_at _) rfl _ rfl rfl ?_))
    refine (hls _ (H.out.ext (by decide) HW.out) (H'.out.ext (by decide) HW.out)).mono ?_
    rintro e w1 ⟨rfl, hx⟩
    have d0 := (B0.out.ext hx).at_ 33 HAT.out.2.1
    have d1 := (B1.out.ext hx).at_ 33 HAT'.out.2.1
    have d2 := (B0.out.ext hx).at_ 34 HAT.out.2.2
    have d3 := (B1.out.ext hx).at_ 34 HAT'.out.2.2
    have XW := Lib.hid (HW.out.trans hx)
    clear hx
    go_wp2
    go_ret
    exact ⟨by rw [HE.out, decide_eq_true E1.out, decide_eq_true E2.out, E3.out, Bool.true_and, Bool.true_and, Bool.true_and]; rfl, XW.out⟩

end Go.Proofs.Yteegnbdgfedajaa
/- The bytes of a commit: the reference and the program. No condition. -/
namespace Go.Proofs.Yteegnbdgfedajaa
open Go.RowKit
set_option linter.unusedVariables false
set_option linter.unusedSimpArgs false

theorem ownOne {w W : World} (hx : Ext w W) {n : Int} (hu : 0 ≤ n ∧ n ≤ 255) : Own tByte 5 (W.alloc (.cells #[.int .u8 n] 5)) w.heap.size (.slice (some ⟨W.heap.size, 0, none⟩) 1 1) [n] :=
  Own.of_blk tByte (xs := [n]) (by simpa [tByte] using Blk.new W 5 #[.int .u8 n]) hx.size (by simp) (okOne hu)
/-- the bytes of a text, in new memory: one step of a region; where they lie -/
theorem stp_conv2 {P : Program} {ops : Array Oper} {o : Oper} {a : Act} {w : World} {K : Act → World → Prop} {Q : Exit → Act → World → Prop} {E : Prop} {src dst e : TypeId} {s : ByteArray}
    (hs : P.underlying src = some .string) (hd : P.underlying dst = some (.slice e)) (he : P.underlying e = some (.int .u8)) (hgd : o.guard = none) (x : Operand) (ho : o.op = .convert src dst x) (hx : a.eval x = .string s) (hl : s.size ≤ 140737488351232)
    (h : ∀ A c w', RdL tByte w' (fun g => w.heap.size ≤ g ∧ g < w'.heap.size) (.slice A s.size c) (strL s) → Ext w w' → K (a.put o.dst (.slice A s.size c)) w') : if Region.wanted o (yielded ops a.tmps) = true then Oper.wp P o a w K Q else E := by
  have hw : Region.wanted o (yielded ops a.tmps) = true := by simp [Region.wanted, hgd]
  rw [if_pos hw]
  unfold Oper.wp execOp
  simp only [ho, hx, Sem.run_bind, Sem.run_pure, Result.andThen_ok, Lib.run_convert_string_bytes w src dst e s hs hd he]
  exact h _ _ _ (bytesWorld_rd w e s hl) (bytesWorld_ext w e s)
/-- an append elsewhere leaves it -/
theorem appOver {w w' : World} {p m : Nat} {u v : Value} {xs : List Int} (hr : RdL tByte w (fun g => p ≤ g ∧ g < m) v xs) (hne : ∀ q, u.ownBlock = some q → q < p) (hm : m ≤ w.heap.size) (hg : w.grownBy w' u.ownBlock) : RdL tByte w' (fun g => p ≤ g ∧ g < m) v xs :=
  hr.keep fun g h => hg.block g (by omega) fun e => by have := hne g e.symm; omega
/-- a byte in a block of its own -/
theorem byteStep (w : World) {n : Int} (hu : 0 ≤ n ∧ n ≤ 255) : ∃ W, W = w.alloc (.cells #[.int .u8 n] 5) ∧ Ext w W ∧ Hid (RdL tByte W (fun _ => True) (.slice (some ⟨w.heap.size, 0, none⟩) 1 1) [n]) :=
  ⟨_, rfl, ext_alloc _ _, Lib.hid (rdl_one hu ((Blk.new _ _ _).at_ 0 rfl) 1 (Nat.le_refl _))⟩
/-- the bytes of a commit -/
@[irreducible] def dataL (x : Cm) : List Int := [(x.par.length : Int) + 1] ++ x.root ++ x.par.flatten ++ [x.num] ++ strL x.note
theorem dataL_eq (x : Cm) : dataL x = [(x.par.length : Int) + 1] ++ x.root ++ x.par.flatten ++ [x.num] ++ strL x.note := by rw [dataL]
theorem okCm_le {x : Cm} (h : okCm x = true) : x.par.length ≤ 3 ∧ 0 ≤ x.num ∧ x.num ≤ 40 ∧ x.note.size ≤ 64 := by
  rw [okCm_eq] at h
  simp only [Bool.and_eq_true, decide_eq_true_eq] at h
  omega
theorem flat32 (L : List (List Int)) (h : ∀ k ∈ L, K32 k) : L.flatten.length = 32 * L.length := by
  induction L with
  | nil => rfl
  | cons k r ih =>
    rw [List.flatten_cons, List.length_append, (h k (by simp)).1, ih (fun q hq => h q (by simp [hq])), List.length_cons]; omega
/-- a text is appended to a row of one's own bytes: one step of a region -/
theorem stp_appendS {ops : Array Oper} {o : Oper} {a : Act} {w : World} {K : Act → World → Prop} {Q : Exit → Act → World → Prop} {E : Prop} (hgd : o.guard = none) (sl x : Operand)
    (hop : o.op = .call { callee := .builtin .append, args := #[sl, x], argTypes := #[22, 9] })
    {base : Nat} {v : Value} {xs : List Int} (hs : a.eval sl = v) (ho : Own tByte 5 w base v xs) {s : ByteArray} (hx : a.eval x = .string s) (hl : xs.length + s.size ≤ 70368744177664) (hb : base ≤ w.heap.size)
    (h : ∀ v' w', Own tByte 5 w' base v' (xs ++ strL s) → w.grownBy w' v.ownBlock → K (a.put o.dst v') w') :
    if Region.wanted o (yielded ops a.tmps) = true then Oper.wp Try.prog o a w K Q else E := by
  obtain ⟨i, hi, hz, hsz, hby⟩ := info_parts (show (Try.prog.info? 5).map (fun i => (i.zero, i.size, i.bytes)) = some (some (.int .u8 0), 1, 1) by kernel_rfl)
  obtain ⟨h1, h2, h3⟩ := ho
  rw [flat_bytes] at h1
  obtain ⟨v', w', hrun, hown, hg, _⟩ := Lib.run_append_own_string (P := Try.prog) w base 22 9 o.type 5 i Try.underlying22 Try.underlying9 hi hz hsz hby v xs.length (nums .u8 xs) h1 s (by simp only [maxLen]; omega) (by omega) hb
  have hw : Region.wanted o (yielded ops a.tmps) = true := by simp [Region.wanted, hgd]
  rw [if_pos hw]
  unfold Oper.wp execOp
  simp only [hop, resolve, invoke, builtin, Sem.run_bind, Sem.run_pure, Result.andThen_ok, List.map_toArray, List.map_cons, List.map_nil, hs, hx, hrun]
  refine h v' w' ⟨?_, by rw [List.length_append, strL_length]; omega, fun y hy => ?_⟩ hg
  · rw [flat_bytes, nums_append, List.length_append, strL_length]
    have e : Lib.strCells s = nums .u8 (strL s) := by simp [Lib.strCells, nums, strL]
    rw [← e]
    exact hown
  · rcases List.mem_append.1 hy with hy | hy
    · exact h3 y hy
    · exact strL_ok s y hy
end Go.Proofs.Yteegnbdgfedajaa
/- Marks laid on lists of keys, and read. No condition. -/
namespace Go.Proofs.Yteegnbdgfedajaa
open Go.RowKit
set_option linter.unusedVariables false
set_option linter.unusedSimpArgs false

/-- the keys of v hold the marks m, m + 1, .. -/
def MarkedK (w : World) (S : Nat → Prop) (v : Value) (n : Nat) (m : Int) : Prop :=
  ∃ A cap, v = .slice A n cap ∧ n ≤ 140737488355328 ∧ (0 < n → ∃ g o, A = some ⟨g, o, none⟩ ∧ S g ∧ ∀ j, j < n * 32 → w.cell? ⟨g, o + j, none⟩ = some (.int .u8 ((m + j) % 256)))
theorem MarkedK.ext {w w' : World} {S : Nat → Prop} {v : Value} {n : Nat} {m : Int} (h : MarkedK w S v n m) (e : Ext w w') : MarkedK w' S v n m := by
  obtain ⟨A, cap, h1, h2, h3⟩ := h
  refine ⟨A, cap, h1, h2, fun hn => ?_⟩
  obtain ⟨g, o, h4, h5, h6⟩ := h3 hn
  exact ⟨g, o, h4, h5, fun j hj => e.cell (h6 j hj)⟩
theorem Own.far_of_lt {α : Type} {T : Ty α} {e : TypeId} {w : World} {base g : Nat} {v : Value} {xs : List α} (h : Own T e w base v xs) (hg : g < base) : some g ≠ v.ownBlock := fun e => by have := (h.base_le _ e.symm).1; omega
theorem Own.far_of_ge {α : Type} {T : Ty α} {e : TypeId} {w : World} {base g : Nat} {v : Value} {xs : List α} (h : Own T e w base v xs) (hg : w.heap.size ≤ g) : some g ≠ v.ownBlock := fun e => by have := (h.base_le _ e.symm).2; omega
set_option maxHeartbeats 1000000 in
set_option maxRecDepth 100000 in
theorem markKeyS_any (v : Value) (n : Nat) (m : Int) (w : World) (lo : Nat) (h : Wr w lo 32 v n) (hm : 0 ≤ m) (hmn : m + n * 32 ≤ 1000000000000000) :
    Calls Try.prog 41 #[v, .int .i64 m] w fun e w' => e = .returned (.int .i64 (m + n * 32)) ∧ MarkedK w' (fun g => lo ≤ g ∧ some g = v.ownBlock) v n m ∧ w.grownBy w' v.ownBlock := by
  obtain ⟨A, cap, rfl, hcap, hlen, hw⟩ := h
  have HW := Lib.hid hw
  clear hw
  by_cases h0 : n = 0
  · subst h0
    go_enter Try.func41, Try.ntmps41
    go_wp2
    go_loopw [1, 5] (fun q i wr => q = .int .i64 m ∧ i = .int .i64 0 ∧ wr = w) (fun _ _ _ => 0)
    case atStart => exact ⟨rfl, rfl, rfl⟩
    case round =>
      obtain ⟨rfl, rfl, rfl⟩ := hrel
      go_wp2
      go_ret
      exact ⟨ret_int (by simp), ⟨A, cap, rfl, by omega, fun h => by omega⟩, grown_refl _ _⟩
  · obtain ⟨g, o, cur, t, rfl, hlo, hB, hsz⟩ := HW.out (by omega)
    have HB := Lib.hid hB
    clear hB
    go_enter Try.func41, Try.ntmps41
    go_wp2
    go_loopw [1, 5, 6] (fun q i _ wr => ∃ k : Nat, k ≤ n ∧ q = .int .i64 (m + (k : Int) * 32) ∧ i = .int .i64 k ∧ (∃ cur', Blk wr g t cur' ∧ cur'.size = cur.size ∧ ∀ j, j < k * 32 → cur'[o + j]? = some (.int .u8 ((m + j) % 256))) ∧ w.grownBy wr (some g))
      (fun _ i _ _ => n - (intOf i).toNat)
    case atStart => exact ⟨0, by omega, by simp, rfl, ⟨cur, HB.out, rfl, fun j hj => by omega⟩, grown_refl _ _⟩
    case round =>
      obtain ⟨k, hk, rfl, rfl, ⟨cur', hB', hs', hc'⟩, hg⟩ := hrel
      have HG := Lib.hid hg
      have HC := Lib.hid hc'
      have HS := Lib.hid hs'
      have HB' := Lib.hid hB'
      clear hg hc' hs' hB'
      obtain ⟨wo, rfl⟩ : ∃ wo : World, wo = wr := ⟨_, rfl⟩
      by_cases hlt : k < n
      · go_wp2
        go_loopw [1, 6] (fun q i wr => ∃ j : Nat, j ≤ 32 ∧ q = .int .i64 (m + (k : Int) * 32 + j) ∧ i = .int .i64 j ∧ (∃ cur', Blk wr g t cur' ∧ cur'.size = cur.size ∧ ∀ p, p < k * 32 + j → cur'[o + p]? = some (.int .u8 ((m + p) % 256))) ∧ w.grownBy wr (some g))
          (fun _ i _ => 32 - (intOf i).toNat)
        case atStart => exact ⟨0, by omega, by simp, rfl, ⟨cur', HB'.out, HS.out, fun j hj => HC.out j (by omega)⟩, HG.out⟩
        case round =>
          clear HB' HS HC HG
          obtain ⟨j, hj, rfl, rfl, ⟨cur2, hB2, hs2, hc2⟩, hg2⟩ := hrel
          have HG := Lib.hid hg2
          have HC := Lib.hid hc2
          have HS := Lib.hid hs2
          clear hg2 hc2 hs2
          by_cases hlj : j < 32
          · have hin : o + k * 32 + j < cur2.size := by rw [HS.out]; omega
            have hcell : wr.cell? ⟨g, o + k * 32 + j, none⟩ = some cur2[o + k * 32 + j] := hB2.at_ _ (Array.getElem?_eq_getElem hin)
            have hfr := hB2.free (o + k * 32 + j)
            have HB2 := Lib.hid hB2
            clear hB2
            go_wp2
            go_roundw
            case rel => exact ⟨j + 1, by omega, by go_num, by go_num, ⟨_, HB2.out.set (o + k * 32 + j) _, by simp [HS.out], fun p hp => by
              by_cases hpk : p = k * 32 + j
              · subst hpk
                rw [← Nat.add_assoc]
                simp [hin]
                omega
              · rw [Array.getElem?_setIfInBounds_ne (by omega)]; exact HC.out p (by omega)⟩, grown_set HG.out _⟩
            case measure => simp [intOf]; omega
          · obtain rfl : j = 32 := by omega
            have HB2 := Lib.hid hB2
            clear hB2
            go_wp2
            go_roundw
            case rel => exact ⟨k + 1, by omega, by go_num, by go_num, ⟨_, HB2.out, HS.out, fun p hp => HC.out p (by omega)⟩, HG.out⟩
            case measure => simp [intOf]; omega
      · go_wp2
        go_ret
        obtain rfl : k = n := by omega
        refine ⟨rfl, ⟨_, cap, rfl, hlen, fun _ => ⟨g, o, rfl, ⟨hlo, rfl⟩, fun j hj => by rw [HB'.out.cell, HC.out j hj]⟩⟩, HG.out⟩
set_option maxHeartbeats 1000000 in
set_option maxRecDepth 100000 in
theorem heldKeyS_any (v : Value) (n : Nat) (m : Int) (w : World) (S : Nat → Prop) (h : MarkedK w S v n m) (hm : 0 ≤ m) (hmn : m + n * 32 ≤ 1000000000000000) :
    Calls Try.prog 42 #[v, .int .i64 m] w fun e w' => e = .returned (.int .i64 (m + n * 32)) ∧ Ext w w' := by
  obtain ⟨A, cap, rfl, hlen, hw⟩ := h
  have HW := Lib.hid hw
  clear hw
  go_enter Try.func42, Try.ntmps42
  go_wp2
  go_loopw [1, 5, 6] (fun q i _ wr => ∃ k : Nat, k ≤ n ∧ q = .int .i64 (m + (k : Int) * 32) ∧ i = .int .i64 k ∧ Ext w wr) (fun _ i _ _ => n - (intOf i).toNat)
  case atStart => exact ⟨0, by omega, by simp, rfl, Ext.refl _⟩
  case round =>
    obtain ⟨k, hk, rfl, rfl, hx⟩ := hrel
    have HX := Lib.hid hx
    clear hx
    obtain ⟨wo, rfl⟩ : ∃ wo : World, wo = wr := ⟨_, rfl⟩
    by_cases hlt : k < n
    · obtain ⟨g, o, rfl, hs, hc⟩ := HW.out (by omega)
      have HC := Lib.hid hc
      clear hc
      go_wp2
      go_loopw [1, 6] (fun q i wr => ∃ j : Nat, j ≤ 32 ∧ q = .int .i64 (m + (k : Int) * 32 + j) ∧ i = .int .i64 j ∧ Ext w wr) (fun _ i _ => 32 - (intOf i).toNat)
      case atStart => exact ⟨0, by omega, by simp, rfl, HX.out⟩
      case round =>
        clear HX
        obtain ⟨j, hj, rfl, rfl, hx⟩ := hrel
        have HX := Lib.hid hx
        clear hx
        by_cases hlj : j < 32
        · have hd : wr.cell? ⟨g, o + k * 32 + j, none⟩ = some (.int .u8 ((m + (k : Int) * 32 + j) % 256)) := by
            have := HX.out.cell (HC.out (k * 32 + j) (by omega))
            rw [Nat.add_assoc, this]
            congr 2
            omega
          have hne : (((m + (k : Int) * 32 + j) % 256 : Int) != (m + (k : Int) * 32 + j) % 256) = false := by simp
          go_wp2
          go_roundw
          case rel => exact ⟨j + 1, by omega, by go_num, by go_num, HX.out⟩
          case measure => simp [intOf]; omega
        · obtain rfl : j = 32 := by omega
          go_wp2
          go_roundw
          case rel => exact ⟨k + 1, by omega, by go_num, by go_num, HX.out⟩
          case measure => simp [intOf]; omega
    · go_wp2
      go_ret
      obtain rfl : k = n := by omega
      exact ⟨rfl, HX.out⟩

end Go.Proofs.Yteegnbdgfedajaa
/- CommitData: the reference and the program; marks on a commit. No condition. -/
namespace Go.Proofs.Yteegnbdgfedajaa
open Go.RowKit
set_option linter.unusedVariables false
set_option linter.unusedSimpArgs false

def cdataR (x : Cm) : List Int × Int := if okCm x then (dataL x, 0) else ([], 1)
set_option maxHeartbeats 1000000 in
set_option maxRecDepth 100000 in
theorem markCommit_any (x : Cm) (v : Value) (n : Nat) (m : Int) (w : World) (lo : Nat) (hroot : K32 x.root) (h : Wr w lo 32 v n) (hm : 0 ≤ m) (hmn : m + n * 32 ≤ 1000000000000000) :
    Calls Try.prog 27 #[.agg (x.cells v), .int .i64 m] w fun e w' => e = .returned (.int .i64 (m + n * 32)) ∧ MarkedK w' (fun g => lo ≤ g ∧ some g = v.ownBlock) v n m ∧ w.grownBy w' v.ownBlock := by
  have c0 : (w.alloc (.cells (x.cells v) 43)).cell? ⟨w.heap.size, 32, none⟩ = some v := (Blk.new w _ _).at_ 32 (Cm.at_ hroot v).1
  have H := Lib.hid (h.ext (ext_alloc w (.cells (x.cells v) 43)))
  obtain ⟨A, cap, rfl, _⟩ := h
  go_enter Try.func27, Try.ntmps27
  go_wp2_with fail
  refine (markKeyS_any _ n m _ lo H.out hm hmn).mono ?_
  rintro e w1 ⟨rfl, hM, hg⟩
  have HM := Lib.hid hM
  have HG := Lib.hid (grown_trans (ext_grown (Value.ownBlock (.slice A n cap)) (ext_alloc w (.cells (x.cells (.slice A n cap)) 43))) hg)
  clear hM hg
  go_wp2
  go_ret
  exact ⟨rfl, HM.out, HG.out⟩
set_option maxHeartbeats 1000000 in
set_option maxRecDepth 100000 in
theorem heldCommit_any (x : Cm) (v : Value) (n : Nat) (m : Int) (w : World) (S : Nat → Prop) (hroot : K32 x.root) (h : MarkedK w S v n m) (hm : 0 ≤ m) (hmn : m + n * 32 ≤ 1000000000000000) :
    Calls Try.prog 28 #[.agg (x.cells v), .int .i64 m] w fun e w' => e = .returned (.int .i64 (m + n * 32)) ∧ Ext w w' := by
  have c0 : (w.alloc (.cells (x.cells v) 43)).cell? ⟨w.heap.size, 32, none⟩ = some v := (Blk.new w _ _).at_ 32 (Cm.at_ hroot v).1
  have H := Lib.hid (h.ext (ext_alloc w (.cells (x.cells v) 43)))
  obtain ⟨A, cap, rfl, _⟩ := h
  go_enter Try.func28, Try.ntmps28
  go_wp2_with fail
  refine (heldKeyS_any _ n m _ S H.out hm hmn).mono ?_
  rintro e w1 ⟨rfl, hx⟩
  have XW := Lib.hid ((ext_alloc w _).trans hx)
  clear hx
  go_wp2
  go_ret
  exact ⟨rfl, XW.out⟩

end Go.Proofs.Yteegnbdgfedajaa
/- What a program of a delta makes, as a list of bytes. No condition. -/
namespace Go.Proofs.Yteegnbdgfedajaa
open Go.RowKit
set_option linter.unusedVariables false
set_option linter.unusedSimpArgs false

/-- what is left of a program, and what has been made: the data, and the code -/
def applyL (base p out : List Int) : List Int × Int :=
  if h : p.length = 0 then (if 1024 < out.length then ([], 3) else (out, 0))
  else if gI p 0 = 0 ∧ 1 < p.length ∧ 0 < gI p 1 ∧ 2 + (gI p 1).toNat ≤ p.length then
    applyL base (p.drop (2 + (gI p 1).toNat)) (out ++ (p.drop 2).take (gI p 1).toNat)
  else if gI p 0 = 1 ∧ 3 < p.length ∧ 0 < gI p 3 ∧ (gI p 1 + 256 * gI p 2).toNat + (gI p 3).toNat ≤ base.length then
    applyL base (p.drop 4) (out ++ (base.drop (gI p 1 + 256 * gI p 2).toNat).take (gI p 3).toNat)
  else ([], 5)
termination_by p.length
decreasing_by
  · simp; omega
  · simp; omega
theorem gI_drop (xs : List Int) (i j : Nat) : gI (xs.drop i) j = gI xs (i + j) := by simp [gI, List.getD_eq_getElem?_getD]
theorem applyL_end (base out : List Int) : applyL base [] out = if 1024 < out.length then ([], 3) else (out, 0) := by
  rw [applyL]; simp
theorem applyL_lit (base p out : List Int) (h0 : gI p 0 = 0) (h1 : 1 < p.length) (h2 : 0 < gI p 1) (h3 : 2 + (gI p 1).toNat ≤ p.length) :
    applyL base p out = applyL base (p.drop (2 + (gI p 1).toNat)) (out ++ (p.drop 2).take (gI p 1).toNat) := by
  rw [applyL, dif_neg (by omega), if_pos ⟨h0, h1, h2, h3⟩]
theorem applyL_copy (base p out : List Int) (h0 : gI p 0 = 1) (h1 : 3 < p.length) (h2 : 0 < gI p 3) (h3 : (gI p 1 + 256 * gI p 2).toNat + (gI p 3).toNat ≤ base.length) :
    applyL base p out = applyL base (p.drop 4) (out ++ (base.drop (gI p 1 + 256 * gI p 2).toNat).take (gI p 3).toNat) := by
  rw [applyL, dif_neg (by omega), if_neg (by omega), if_pos ⟨h0, h1, h2, h3⟩]
theorem applyL_bad (base p out : List Int) (h : p.length ≠ 0) (h0 : ¬ (gI p 0 = 0 ∧ 1 < p.length ∧ 0 < gI p 1 ∧ 2 + (gI p 1).toNat ≤ p.length))
    (h1 : ¬ (gI p 0 = 1 ∧ 3 < p.length ∧ 0 < gI p 3 ∧ (gI p 1 + 256 * gI p 2).toNat + (gI p 3).toNat ≤ base.length)) : applyL base p out = ([], 5) := by
  rw [applyL, dif_neg h, if_neg h0, if_neg h1]
/-- the function ApplyDelta -/
def applyR (base p : List Int) : List Int × Int := if 1024 < base.length ∨ 1024 < p.length then ([], 3) else applyL base p []

end Go.Proofs.Yteegnbdgfedajaa
/- The program of a delta, as a list of bytes. No condition. -/
namespace Go.Proofs.Yteegnbdgfedajaa
open Go.RowKit
set_option linter.unusedVariables false
set_option linter.unusedSimpArgs false

/-- how many numbers two lists have in common at the beginning, at most f -/
def mat : Nat → List Int → List Int → Nat
  | 0, _, _ => 0
  | _ + 1, [], _ => 0
  | _ + 1, _ :: _, [] => 0
  | f + 1, x :: a, y :: b => if x = y then mat f a b + 1 else 0
theorem mat_le (f : Nat) : ∀ a b, mat f a b ≤ f ∧ mat f a b ≤ a.length ∧ mat f a b ≤ b.length := by
  induction f with
  | zero => intro a b; simp [mat]
  | succ f ih =>
    intro a b
    match a, b with
    | [], b => simp [mat]
    | x :: a, [] => simp [mat]
    | x :: a, y :: b =>
      rw [mat]
      have := ih a b
      split
      · simp only [List.length_cons]; omega
      · simp
theorem gI_cons0 (x : Int) (a : List Int) : gI (x :: a) 0 = x := rfl
theorem gI_consS (x : Int) (a : List Int) (n : Nat) : gI (x :: a) (n + 1) = gI a n := by simp [gI]
theorem mat_is (f : Nat) : ∀ (a b : List Int) (n : Nat), n ≤ f → n ≤ a.length → n ≤ b.length → (∀ j, j < n → gI a j = gI b j) → (n = f ∨ n = a.length ∨ n = b.length ∨ gI a n ≠ gI b n) → mat f a b = n := by
  induction f with
  | zero => intro a b n h1 _ _ _ _; simp only [mat]; omega
  | succ f ih =>
    intro a b n h1 h2 h3 h4 h5
    match a, b with
    | [], b => simp only [mat]; simp at h2; omega
    | x :: a, [] => simp only [mat]; simp at h3; omega
    | x :: a, y :: b =>
      rw [mat]
      match n with
      | 0 =>
        rw [if_neg]
        rcases h5 with h | h | h | h
        · omega
        · simp at h
        · simp at h
        · simpa [gI_cons0] using h
      | n + 1 =>
        have e : x = y := by have := h4 0 (by omega); simpa [gI_cons0] using this
        rw [if_pos e, ih a b n (by omega) (by simpa using h2) (by simpa using h3) (fun j hj => by have := h4 (j + 1) (by omega); simpa [gI_consS] using this)]
        rcases h5 with h | h | h | h
        · exact .inl (by omega)
        · exact .inr (.inl (by simpa using h))
        · exact .inr (.inr (.inl (by simpa using h)))
        · exact .inr (.inr (.inr (by simpa [gI_consS] using h)))
theorem mat_eq (f : Nat) : ∀ (a b : List Int), a.take (mat f a b) = b.take (mat f a b) := by
  induction f with
  | zero => intro a b; simp [mat]
  | succ f ih =>
    intro a b
    match a, b with
    | [], b => simp [mat]
    | x :: a, [] => simp [mat]
    | x :: a, y :: b =>
      rw [mat]
      split
      · rename_i e
        rw [List.take_succ_cons, List.take_succ_cons, ih a b, e]
      · simp
theorem mat_self (f : Nat) : ∀ (a : List Int), mat f a a = min f a.length := by
  induction f with
  | zero => intro a; simp [mat]
  | succ f ih =>
    intro a
    match a with
    | [] => simp [mat]
    | x :: a =>
      rw [mat, if_pos rfl, ih a, List.length_cons]
      omega
/-- the first of the first k places of a base with the longest match, and how long it is -/
def bestK (B D : List Int) : Nat → Nat × Nat
  | 0 => (0, 0)
  | k + 1 => if (bestK B D k).2 < mat 255 (B.drop k) D then (k, mat 255 (B.drop k) D) else bestK B D k
theorem bestK_ok (B D : List Int) (k : Nat) (hk : k ≤ B.length) : (bestK B D k).2 = 0 ∧ (bestK B D k).1 = 0 ∨ 0 < (bestK B D k).2 ∧ (bestK B D k).1 < k ∧ (bestK B D k).2 = mat 255 (B.drop (bestK B D k).1) D := by
  induction k with
  | zero => exact .inl ⟨rfl, rfl⟩
  | succ k ih =>
    rw [bestK]
    split
    · rename_i h
      exact .inr ⟨by show 0 < mat 255 (B.drop k) D; omega, Nat.lt_succ_self k, rfl⟩
    · rcases ih (by omega) with h | h
      · exact .inl h
      · exact .inr ⟨h.1, by omega, h.2.2⟩
theorem bestK_top (B D : List Int) (k : Nat) : ∀ i, i < k → mat 255 (B.drop i) D ≤ (bestK B D k).2 := by
  induction k with
  | zero => intro i h; omega
  | succ k ih =>
    intro i hi
    rw [bestK]
    by_cases e : i = k
    · subst e
      split
      · exact Nat.le_refl _
      · omega
    · have := ih i (by omega)
      split
      · show _ ≤ mat 255 (B.drop k) D; omega
      · exact this
/-- plain bytes, in pieces of at most 255 -/
def chk : Nat → List Int → List Int
  | 0, _ => []
  | f + 1, H => if H.length = 0 then [] else (0 : Int) :: ((min 255 H.length : Nat) : Int) :: (H.take (min 255 H.length) ++ chk f (H.drop (min 255 H.length)))
theorem chk_nil (f : Nat) : chk f [] = [] := by cases f <;> rfl
theorem chk_cons (f : Nat) (H : List Int) (h : 0 < H.length) : chk (f + 1) H = (0 : Int) :: ((min 255 H.length : Nat) : Int) :: (H.take (min 255 H.length) ++ chk f (H.drop (min 255 H.length))) := by
  rw [chk, if_neg (by omega)]
theorem chk_fuel (f : Nat) : ∀ (g : Nat) (H : List Int), H.length ≤ f → H.length ≤ g → chk f H = chk g H := by
  induction f with
  | zero =>
    intro g H h _
    obtain rfl : H = [] := List.eq_nil_of_length_eq_zero (by omega)
    rw [chk_nil, chk_nil]
  | succ f ih =>
    intro g H h h2
    by_cases h0 : H.length = 0
    · obtain rfl : H = [] := List.eq_nil_of_length_eq_zero h0
      rw [chk_nil, chk_nil]
    · match g with
      | 0 => omega
      | g + 1 => rw [chk_cons f H (by omega), chk_cons g H (by omega), ih g _ (by simp; omega) (by simp; omega)]
theorem chk_step (H : List Int) (n : Nat) (h : 0 < H.length) (hn : min 255 H.length = n) : chk H.length H = [(0 : Int), (n : Int)] ++ (H.take n ++ chk (H.drop n).length (H.drop n)) := by
  obtain ⟨f, hf⟩ : ∃ f, H.length = f + 1 := ⟨H.length - 1, by omega⟩
  subst hn
  rw [hf, chk_cons f H h, chk_fuel f (H.drop (min 255 H.length)).length _ (by simp; omega) (Nat.le_refl _), hf]
  rfl
theorem chk_len (f : Nat) : ∀ H : List Int, (chk f H).length ≤ 3 * H.length := by
  induction f with
  | zero => intro H; simp [chk]
  | succ f ih =>
    intro H
    by_cases h0 : H.length = 0
    · obtain rfl : H = [] := List.eq_nil_of_length_eq_zero h0
      rw [chk_nil]; simp
    · rw [chk_cons f H (by omega)]
      have := ih (H.drop (min 255 H.length))
      simp only [List.length_cons, List.length_append, List.length_take, List.length_drop] at *
      omega
theorem chk_ok (f : Nat) : ∀ H : List Int, B8 H → B8 (chk f H) := by
  induction f with
  | zero => intro H _ x hx; simp [chk] at hx
  | succ f ih =>
    intro H hH
    by_cases h0 : H.length = 0
    · obtain rfl : H = [] := List.eq_nil_of_length_eq_zero h0
      rw [chk_nil]; intro x hx; simp at hx
    · rw [chk_cons f H (by omega)]
      intro x hx
      simp only [List.mem_cons, List.mem_append] at hx
      rcases hx with rfl | rfl | hx | hx
      · decide
      · omega
      · exact hH x (List.mem_of_mem_take hx)
      · exact ih _ (fun y hy => hH y (List.mem_of_mem_drop hy)) x hx
/-- what is still to be told, what is held back, what has been told: the whole program -/
def dlt (B : List Int) : Nat → List Int → List Int → List Int → List Int
  | 0, _, H, O => O ++ chk H.length H
  | f + 1, D, H, O => if D.length = 0 then O ++ chk H.length H else
    if (bestK B D B.length).2 < 8 then dlt B f (D.drop 1) (H ++ [gI D 0]) O
    else dlt B f (D.drop (bestK B D B.length).2) [] (O ++ chk H.length H ++ [(1 : Int), (((bestK B D B.length).1 % 256 : Nat) : Int), (((bestK B D B.length).1 / 256 : Nat) : Int), ((bestK B D B.length).2 : Int)])
theorem dlt_end (B : List Int) (f : Nat) (H O : List Int) : dlt B f [] H O = O ++ chk H.length H := by cases f <;> rfl
theorem dlt_hold (B : List Int) (f : Nat) (D H O : List Int) (h : 0 < D.length) (hb : (bestK B D B.length).2 < 8) : dlt B (f + 1) D H O = dlt B f (D.drop 1) (H ++ [gI D 0]) O := by
  rw [dlt, if_neg (by omega), if_pos hb]
theorem dlt_copy (B : List Int) (f : Nat) (D H O : List Int) (h : 0 < D.length) (hb : ¬ (bestK B D B.length).2 < 8) : dlt B (f + 1) D H O = dlt B f (D.drop (bestK B D B.length).2) [] (O ++ chk H.length H ++ [(1 : Int), (((bestK B D B.length).1 % 256 : Nat) : Int), (((bestK B D B.length).1 / 256 : Nat) : Int), ((bestK B D B.length).2 : Int)]) := by
  rw [dlt, if_neg (by omega), if_neg hb]
def dltL (B D : List Int) : List Int := dlt B D.length D [] []
theorem dlt_ok (B : List Int) (hB : B.length ≤ 1024) (f : Nat) : ∀ (D H O : List Int), B8 D → B8 H → B8 O → B8 (dlt B f D H O) := by
  induction f with
  | zero =>
    intro D H O _ hH hO x hx
    rw [dlt] at hx
    rcases List.mem_append.1 hx with hx | hx
    · exact hO x hx
    · exact chk_ok _ H hH x hx
  | succ f ih =>
    intro D H O hD hH hO
    by_cases h0 : D.length = 0
    · obtain rfl : D = [] := List.eq_nil_of_length_eq_zero h0
      rw [dlt_end]
      intro x hx
      rcases List.mem_append.1 hx with hx | hx
      · exact hO x hx
      · exact chk_ok _ H hH x hx
    · by_cases hb : (bestK B D B.length).2 < 8
      · rw [dlt_hold B f D H O (by omega) hb]
        refine ih _ _ _ (fun x hx => hD x (List.mem_of_mem_drop hx)) (fun x hx => ?_) hO
        rcases List.mem_append.1 hx with hx | hx
        · exact hH x hx
        · simp at hx; subst hx; exact hD.get 0
      · rw [dlt_copy B f D H O (by omega) hb]
        refine ih _ _ _ (fun x hx => hD x (List.mem_of_mem_drop hx)) (fun x hx => by simp at hx) (fun x hx => ?_)
        rcases List.mem_append.1 hx with hx | hx
        · rcases List.mem_append.1 hx with hx | hx
          · exact hO x hx
          · exact chk_ok _ H hH x hx
        · have h1 := bestK_ok B D B.length (Nat.le_refl _)
          have h2 := mat_le 255 (B.drop (bestK B D B.length).1) D
          simp only [List.mem_cons, List.not_mem_nil, or_false] at hx
          rcases hx with rfl | rfl | rfl | rfl <;> omega
/-- DeltaOf -/
def deltaR (B D : List Int) : List Int × Int := if 1024 < B.length ∨ 1024 < D.length then ([], 3) else if 1024 < (dltL B D).length then ([], 3) else (dltL B D, 0)
end Go.Proofs.Yteegnbdgfedajaa
/- A row of bytes of one's own that begins within its block: append, cut. No condition. -/
namespace Go.Proofs.Yteegnbdgfedajaa
open Go.RowKit
set_option linter.unusedVariables false
set_option linter.unusedSimpArgs false

/-- v is a slice of bytes in a block from base on, not nil -/
def OwnT (w : World) (base : Nat) (v : Value) (xs : List Int) : Prop :=
  ∃ g o cap cur, v = .slice (some ⟨g, o, none⟩) xs.length cap ∧ base ≤ g ∧ Blk w g 5 cur ∧ xs.length ≤ cap ∧ cap ≤ maxLen ∧ o + cap ≤ cur.size ∧ (cur.toList.drop o).take xs.length = nums .u8 xs ∧ B8 xs
theorem OwnT.empty (w : World) (base : Nat) (hb : base ≤ w.heap.size) : OwnT (w.alloc (.cells #[] 5)) base (.slice (some ⟨w.heap.size, 0, none⟩) 0 0) [] :=
  ⟨_, 0, 0, _, rfl, hb, Blk.new _ _ _, Nat.le_refl _, by decide, by simp, by simp [nums], fun x h => by simp at h⟩
theorem OwnT.ext {w w' : World} {base : Nat} {v : Value} {xs : List Int} (h : OwnT w base v xs) (k : Ext w w') : OwnT w' base v xs := by
  obtain ⟨g, o, cap, cur, e, h1, h2, h3⟩ := h
  exact ⟨g, o, cap, cur, e, h1, h2.ext k, h3⟩
theorem OwnT.grown {w w' : World} {base : Nat} {v : Value} {xs : List Int} (h : OwnT w base v xs) {row : Option Nat} (k : w.grownBy w' row) (hr : v.ownBlock ≠ row) : OwnT w' base v xs := by
  obtain ⟨g, o, cap, cur, rfl, h1, h2, h3⟩ := h
  exact ⟨g, o, cap, cur, rfl, h1, h2.grown k hr, h3⟩
theorem OwnT.block {w : World} {base : Nat} {v : Value} {xs : List Int} (h : OwnT w base v xs) : ∃ g, v.ownBlock = some g ∧ base ≤ g ∧ g < w.heap.size ∧ ∃ cur, Blk w g 5 cur := by
  obtain ⟨g, o, cap, cur, rfl, h1, h2, _⟩ := h
  exact ⟨g, rfl, h1, h2.lt, _, h2⟩
theorem OwnT.shape {w : World} {base : Nat} {v : Value} {xs : List Int} (h : OwnT w base v xs) : ∃ g o cap, v = .slice (some ⟨g, o, none⟩) xs.length cap := by
  obtain ⟨g, o, cap, _, e, _⟩ := h
  exact ⟨g, o, cap, e⟩
theorem OwnT.rd {w : World} {base : Nat} {g o n cap : Nat} {xs : List Int} (h : OwnT w base (.slice (some ⟨g, o, none⟩) n cap) xs) : n = xs.length ∧ xs.length ≤ cap ∧ base ≤ g ∧ B8 xs ∧ Rd w (fun k => k = g) 1 (some ⟨g, o, none⟩) xs.length (nums .u8 xs) := by
  obtain ⟨g', o', cap', cur, e, h1, h2, h3, h4, h5, h6, h7⟩ := h
  injection e with e1 e2 e3
  injection e1 with e1
  injection e1 with e1 e4
  subst e1 e2 e3 e4
  refine ⟨rfl, h3, h1, h7, by rw [nums_length]; omega, fun hn => ⟨_, _, rfl, rfl, fun j u hu => ?_⟩⟩
  rw [h2.cell]
  rw [← h6, List.getElem?_take] at hu
  split at hu
  · simpa using hu
  · cases hu
theorem OwnT.cut {w : World} {base : Nat} {g o n cap : Nat} {xs : List Int} (h : OwnT w base (.slice (some ⟨g, o, none⟩) n cap) xs) (k : Nat) (hk : k ≤ xs.length) :
    OwnT w base (.slice (if cap = k then some ⟨g, o, none⟩ else some ⟨g, o + k, none⟩) (n - k) (cap - k)) (xs.drop k) := by
  obtain ⟨g', o', cap', cur, e, h1, h2, h3, h4, h5, h6, h7⟩ := h
  injection e with e1 e2 e3
  injection e1 with e1
  injection e1 with e1 e4
  subst e1 e2 e3 e4
  have hB : B8 (xs.drop k) := fun x hx => h7 x (List.mem_of_mem_drop hx)
  by_cases hc : cap = k
  · rw [if_pos hc]
    refine ⟨g, o, cap - k, cur, by rw [List.length_drop], h1, h2, by rw [List.length_drop]; omega, by omega, by omega, ?_, hB⟩
    obtain e : xs.drop k = [] := List.drop_eq_nil_of_le (by omega)
    rw [e]; simp [nums]
  · rw [if_neg hc]
    refine ⟨g, o + k, cap - k, cur, by rw [List.length_drop], h1, h2, by rw [List.length_drop]; omega, by omega, by omega, ?_, hB⟩
    have : nums .u8 (xs.drop k) = (nums .u8 xs).drop k := by simp [nums]
    rw [this, ← h6, List.drop_take, List.drop_drop, List.length_drop]
/-- one byte is appended -/
theorem run_appendT {w : World} {base : Nat} {v : Value} {xs : List Int} (h : OwnT w base v xs) (ty : TypeId) (x : Int) (hx : 0 ≤ x ∧ x ≤ 255) {ad : Addr} (hc : w.cell? ad = some (.int .u8 x)) (hl : xs.length + 1 ≤ 140737488355328) (hb : base ≤ w.heap.size) :
    ∃ v' w', (Builtin.append_ #[22, 22] ty #[v, .slice (some ad) 1 1]).run Try.prog w = .ok v' w' ∧ OwnT w' base v' (xs ++ [x]) ∧ w.grownBy w' v.ownBlock ∧ (v'.ownBlock = v.ownBlock ∨ v'.ownBlock = some w.heap.size) := by
  obtain ⟨g, o, cap, cur, rfl, h1, h2, h3, h4, h5, h6, h7⟩ := h
  obtain ⟨i, z, hi, hz, hs, hby, hzs⟩ := rowByte.info
  have hs1 : i.size = 1 := hs
  have hcells : ∀ j u, [Value.int .u8 x][j]? = some u → w.cell? (ad.add j) = some u := by
    intro j u hu
    match j, hu with
    | 0, hu =>
      simp at hu
      subst hu
      have : ad.add 0 = ad := by unfold Addr.add; split <;> simp_all
      rw [this]; exact hc
  have hB : B8 (xs ++ [x]) := by
    intro y hy
    rcases List.mem_append.1 hy with hy | hy
    · exact h7 y hy
    · simp at hy; subst hy; exact hx
  by_cases hroom : xs.length + 1 ≤ cap
  · have hst := run_storeCells_at Try.prog g (o + xs.length) 5 [.int .u8 x] 0 cur w h2 (by simp; omega) (by simp [Value.oneCell'])
    have hf := run_firstCells_some (P := Try.prog) w i.size 1 ad 1 1 [.int .u8 x] (by simp [hs1]) hcells
    simp only [Nat.add_zero] at hst
    refine ⟨.slice (some ⟨g, o, none⟩) (xs.length + 1) cap, w.setRow g (cur.toList.take (o + xs.length) ++ [Value.int .u8 x] ++ cur.toList.drop (o + xs.length + [Value.int .u8 x].length)).toArray, ?_, ⟨g, o, cap, (cur.toList.take (o + xs.length) ++ [Value.int .u8 x] ++ cur.toList.drop (o + xs.length + [Value.int .u8 x].length)).toArray, by rw [List.length_append]; rfl, h1, setRow_heap w g cur _ _ _ h2, by simp; omega, h4, by simp; omega, ?_, hB⟩, ⟨rfl, rfl, rfl, by simp, fun k _ hk => setRow_other w g k _ (fun e => hk (by simp [Value.ownBlock, e]))⟩, .inl rfl⟩
    · rw [hs1] at hf
      simp [Builtin.append_, run_underlying rowByte.ht, sizeOf, typeInfo, hi, Builtin.lenOf, hroom, hf, hs1, Addr.add_lit, hst]
    · have hz : (cur.toList.take (o + xs.length)).length = o + xs.length := by simp; omega
      simp only [List.append_assoc]
      rw [List.drop_append_of_le_length (by omega), List.drop_take]
      rw [show o + xs.length - o = xs.length by omega, h6, nums_append, List.length_append]
      rw [← List.append_assoc]
      rw [List.take_append_of_le_length (by simp [nums_length])]
      rw [List.take_of_length_le (by simp [nums_length])]
      rfl
  · have holds : ∀ j u, (nums .u8 xs)[j]? = some u → w.cell? ((⟨g, o, none⟩ : Addr).add j) = some u := by
      intro j u hu
      rw [Addr.add_lit, h2.cell]
      rw [← h6, List.getElem?_take] at hu
      split at hu
      · simpa using hu
      · cases hu
    have hr := run_append_grow (P := Try.prog) w 22 ty 5 i z rowByte.ht hi hz ⟨g, o, none⟩ xs.length cap (nums .u8 xs) (by rw [nums_length, hs1, Nat.mul_one]) holds ad 1 1 [.int .u8 x] (by simp [hs1]) hcells (by omega) (by omega) (growslice_fits (by omega) (by rw [hby]; omega))
    have hge := grownCap_ge w (xs.length + 1) cap 5
    have hcm : grownCap w (xs.length + 1) cap 5 ≤ maxLen := grownCap_le_maxLen w (xs.length + 1) cap 5 (by simp only [maxLen]; omega)
    refine ⟨_, _, hr, ⟨w.heap.size, 0, _, _, by rw [List.length_append]; rfl, hb, heap_alloc_new w.drew _, by rw [List.length_append]; exact hge, hcm, ?_, ?_, hB⟩, ⟨rfl, rfl, rfl, by simp, fun k hk _ => heap_alloc_old w.drew _ hk⟩, .inr rfl⟩
    · simp only [Array.size_append, List.size_toArray, size_zeroCells, hzs, nums_length]
      show 0 + _ ≤ xs.length + 1 + (_ - (xs.length + 1)) * 1
      omega
    · simp only [Array.toList_append, List.append_assoc, List.drop_zero]
      rw [nums_append, ← List.append_assoc, show (xs ++ [x]).length = (nums .u8 xs ++ [Value.int .u8 x]).length by simp [nums_length]]
      exact List.take_left
theorem wpl_appendT {ops : Array Oper} {rest : List Oper} {o : Oper} {a : Act} {w : World} {Q : Exit → Act → World → Prop} (hgd : o.guard = none) (s y : Operand)
    (hop : o.op = .call { callee := .builtin .append, args := #[s, y], argTypes := #[22, 22] })
    {base : Nat} {v : Value} {xs : List Int} (hs : a.eval s = v) (ho : OwnT w base v xs) (x : Int) (hx : 0 ≤ x ∧ x ≤ 255) {ad : Addr} (hy : a.eval y = .slice (some ad) 1 1) (hc : w.cell? ad = some (.int .u8 x)) (hl : xs.length + 1 ≤ 140737488355328) (hb : base ≤ w.heap.size)
    (h : ∀ v' w', OwnT w' base v' (xs ++ [x]) → w.grownBy w' v.ownBlock → (v'.ownBlock = v.ownBlock ∨ v'.ownBlock = some w.heap.size) → wpList Try.prog ops Q rest (a.put o.dst v') w') : wpList Try.prog ops Q (o :: rest) a w := by
  obtain ⟨v', w', hrun, h1, h2, h3⟩ := run_appendT ho o.type x hx hc hl hb
  refine wpList_plain hgd fun K hK => ?_
  unfold Oper.wp execOp
  simp only [hop, resolve, invoke, builtin, Sem.run_bind, Sem.run_pure, Result.andThen_ok, List.map_toArray, List.map_cons, List.map_nil, hs, hy, hrun]
  exact hK _ _ (h v' w' h1 h2 h3)
end Go.Proofs.Yteegnbdgfedajaa
/- The program of a delta: the reference's parts. No condition. -/
namespace Go.Proofs.Yteegnbdgfedajaa
open Go.RowKit
set_option linter.unusedVariables false
set_option linter.unusedSimpArgs false

set_option maxHeartbeats 1000000 in
set_option maxRecDepth 100000 in
theorem l06Match_any (v u : Value) (a b : List Int) (w : World) (S S' : Nat → Prop) (h : RdL tByte w S v a) (h' : RdL tByte w S' u b) :
    Calls Try.prog 77 #[v, u] w fun e w' => e = .returned (.int .i64 (mat 255 a b : Nat)) ∧ Drawn w w' := by
  obtain ⟨A, cap, rfl, hcap, hlen, hrd, hok⟩ := h
  obtain ⟨A', cap', rfl, hcap', hlen', hrd', hok'⟩ := h'
  have Hrd := Lib.hid (show Rd w S 1 A a.length (nums .u8 a) by rw [← flat_bytes]; exact hrd)
  have Hrd' := Lib.hid (show Rd w S' 1 A' b.length (nums .u8 b) by rw [← flat_bytes]; exact hrd')
  clear hrd hrd'
  go_enter Try.func77, Try.ntmps77
  go_wp2
  go_loopw [5] (fun i wr => ∃ k : Nat, k ≤ 255 ∧ k ≤ a.length ∧ k ≤ b.length ∧ i = .int .i64 k ∧ (∀ j, j < k → gI a j = gI b j) ∧ Drawn w wr) (fun i _ => 255 - (intOf i).toNat)
  case atStart => exact ⟨0, by omega, by omega, by omega, rfl, fun j hj => by omega, Drawn.refl _⟩
  case round =>
    obtain ⟨k, hk, hka, hkb, rfl, hm, hD⟩ := hrel
    have HM := Lib.hid hm
    have HD := Lib.hid hD
    clear hm hD
    have HE := Lib.hid (fun h => mat_is 255 a b k hk hka hkb HM.out h)
    by_cases h1 : k < a.length
    rotate_left
    · have h1' : ¬ (k : Int) < (a.length : Int) := by omega
      have HR := Lib.hid (HE.out (.inr (.inl (by omega))))
      go_wp2
      go_quiet (fail)
      go_wp2
      go_ret
      exact ⟨by rw [HR.out]; rfl, HD.out.drewN _⟩
    by_cases h2 : k < b.length
    rotate_left
    · have h2' : ¬ (k : Int) < (b.length : Int) := by omega
      have HR := Lib.hid (HE.out (.inr (.inr (.inl (by omega)))))
      go_wp2
      go_quiet (fail)
      go_wp2
      go_ret
      exact ⟨by rw [HR.out]; rfl, HD.out.drewN _⟩
    by_cases h3 : k < 255
    rotate_left
    · have h3' : decide ((k : Int) < 255) = false := by rw [decide_eq_false_iff_not]; omega
      have HR := Lib.hid (HE.out (.inl (by omega)))
      go_wp2
      go_quiet (fail)
      go_wp2
      go_ret
      exact ⟨by rw [HR.out]; rfl, HD.out.drewN _⟩
    have h3' : decide ((k : Int) < 255) = true := by rw [decide_eq_true_iff]; omega
    obtain ⟨g, o, rfl, hs, hc⟩ := (Hrd.out).byte k h1
    obtain ⟨g', o', rfl, hs', hc'⟩ := (Hrd'.out).byte k h2
    have hd := HD.out.ext.cell hc
    have hd' := HD.out.ext.cell hc'
    clear hc hc'
    have hi : (0 : Int) ≤ (k : Int) := by omega
    by_cases he : gI a k = gI b k
    · have He := Lib.hid he
      have heq : (gI a k == gI b k) = true := by simpa using he
      clear he HE
      go_wp2
      go_quiet (fail)
      go_wp2
      go_roundw
      case rel => exact ⟨k + 1, by omega, by omega, by omega, by go_num, fun j hj => by
        by_cases e : j = k
        · subst e; exact He.out
        · exact HM.out j (by omega), HD.out.drewN _⟩
      case measure => simp [intOf]; omega
    · have heq : (gI a k == gI b k) = false := by simpa using he
      have HR := Lib.hid (HE.out (.inr (.inr (.inr he))))
      clear he HE
      go_wp2
      go_quiet (fail)
      go_wp2
      go_ret
      exact ⟨by rw [HR.out]; rfl, HD.out.drewN _⟩
/-- a row of one's own has been appended to -/
structure Go1 (w w' : World) (v v' : Value) : Prop where
  g : w.grownBy w' v.ownBlock
  at_ : v'.ownBlock = v.ownBlock ∨ ∃ k, v'.ownBlock = some k ∧ w.heap.size ≤ k
theorem Go1.refl (w : World) (v : Value) : Go1 w w v v := ⟨grown_refl _ _, .inl rfl⟩
theorem Go1.trans {a b c : World} {u v z : Value} (h : Go1 a b u v) (k : Go1 b c v z) : Go1 a c u z := by
  refine ⟨⟨k.g.os.trans h.g.os, k.g.tape.trans h.g.tape, k.g.output.trans h.g.output, Nat.le_trans h.g.size k.g.size, fun i hi hn => (k.g.block i (Nat.lt_of_lt_of_le hi h.g.size) ?_).trans (h.g.block i hi hn)⟩, ?_⟩
  · rcases h.at_ with e | ⟨q, e, hq⟩
    · rw [e]; exact hn
    · rw [e]; intro e2; injection e2 with e2; omega
  · rcases k.at_ with e | ⟨q, e, hq⟩
    · rw [e]; exact h.at_
    · exact .inr ⟨q, e, Nat.le_trans h.g.size hq⟩
theorem Go1.ext {a b : World} {u v : Value} (h : Ext a b) (e : v = u) : Go1 a b u v := by subst e; exact ⟨ext_grown _ h, .inl rfl⟩
theorem Go1.app {a b : World} {u v : Value} (h : a.grownBy b u.ownBlock) (e : v.ownBlock = u.ownBlock ∨ v.ownBlock = some a.heap.size) : Go1 a b u v := ⟨h, by
  rcases e with e | e
  · exact .inl e
  · exact .inr ⟨_, e, Nat.le_refl _⟩⟩
theorem rd_two (w : World) (x y : Int) (t : TypeId) : Rd (w.alloc (.cells #[.int .u8 x, .int .u8 y] t)) (fun _ => True) tByte.sz (some ⟨w.heap.size, 0, none⟩) [x, y].length ([x, y].flatMap tByte.enc) := by
  refine ⟨rfl, fun _ => ⟨_, 0, rfl, trivial, fun j u hu => ?_⟩⟩
  rw [Nat.zero_add, (Blk.new w t _).cell]
  have e : ([x, y].flatMap tByte.enc) = [.int .u8 x, .int .u8 y] := rfl
  rw [e] at hu
  simpa using hu
theorem ok2 {x y : Int} (hx : 0 ≤ x ∧ x ≤ 255) (hy : 0 ≤ y ∧ y ≤ 255) : ∀ z ∈ [x, y], tByte.ok z := by
  intro z hz
  simp at hz
  rcases hz with rfl | rfl <;> assumption
theorem Rd.head8 {w : World} {S : Nat → Prop} {A : Option Addr} {n : Nat} {q : List Int} (h : Rd w S 1 A n (nums .u8 q)) (k : Nat) (hk : k ≤ q.length) : Rd w S tByte.sz A (q.take k).length ((q.take k).flatMap tByte.enc) := by
  have hn : q.length = n := by have := h.1; rw [nums_length] at this; omega
  have h1 := h.head (k := k) (by omega)
  have e : (nums .u8 q).take (k * 1) = nums .u8 (q.take k) := by simp [nums]
  rw [e] at h1
  rw [flat_bytes, show (q.take k).length = k by simp; omega]
  exact h1
set_option maxHeartbeats 4000000 in
set_option maxRecDepth 100000 in
theorem l06Plain_any (v u : Value) (out H : List Int) (w : World) (b : Nat) (S : Nat → Prop) (ho : Own tByte 5 w b v out) (hh : RdL tByte w S u H) (hS : ∀ g, S g → some g ≠ v.ownBlock ∧ g < w.heap.size) (hb : b ≤ w.heap.size) (hl : out.length ≤ 100000) (hHl : H.length ≤ 100000) :
    Calls Try.prog 78 #[v, u] w fun e w' => ∃ v', e = .returned v' ∧ Own tByte 5 w' b v' (out ++ chk H.length H) ∧ Go1 w w' v v' := by
  obtain ⟨A, cap, rfl, hcap, hlen, hrd, hok⟩ := hh
  obtain ⟨B, bn, bc, rfl⟩ := ho.shape3
  have HO := Lib.hid ho
  have Hrd := Lib.hid (show Rd w S 1 A H.length (nums .u8 H) by rw [← flat_bytes]; exact hrd)
  have Hok := Lib.hid (show B8 H from hok)
  have HS := Lib.hid hS
  clear hrd hok ho hS
  go_enter Try.func78, Try.ntmps78
  go_wp2_with fail
  go_loopw [0, 1] (fun o i wr => ∃ (q out' : List Int) (A1 : Option Addr) (c1 : Nat), q.length ≤ H.length ∧ i = .slice A1 q.length c1 ∧ q.length ≤ c1 ∧ out ++ chk H.length H = out' ++ chk q.length q ∧ out'.length + 3 * q.length ≤ out.length + 3 * H.length ∧ B8 q ∧ Rd w S 1 A1 q.length (nums .u8 q) ∧ Own tByte 5 wr b o out' ∧ Go1 w wr (.slice B bn bc) o)
    (fun _ i _ => lenV i)
  case atStart => exact ⟨H, out, A, cap, by omega, rfl, hcap, rfl, by omega, Hok.out, Hrd.out, HO.out, Go1.refl _ _⟩
  case round =>
    obtain ⟨q, out', A1, c1, hqp, rfl, hqc, hF, hol, hBq, hRq, hO, hG⟩ := hrel
    have HF := Lib.hid hF
    have HO2 := Lib.hid hO
    have HG := Lib.hid hG
    have HBq := Lib.hid hBq
    have HRq := Lib.hid hRq
    obtain ⟨C, cn, cc, rfl⟩ := hO.shape3
    clear hF hO hG hBq hRq HO
    by_cases hq : q.length = 0
    · obtain rfl : q = [] := List.eq_nil_of_length_eq_zero hq
      go_wp2_with fail
      go_ret
      refine ⟨_, rfl, ?_, HG.out⟩
      rw [HF.out, chk_nil, List.append_nil]
      exact HO2.out
    obtain ⟨g, o, rfl, hs, hcq⟩ := HRq.out.2 (by omega)
    have HST := Lib.hid (HS.out g hs)
    have HRw := Lib.hid (show ∀ W, w.grownBy W (Value.slice B bn bc).ownBlock → Rd W S 1 (some ⟨g, o, none⟩) q.length (nums .u8 q) from fun W hW => HRq.out.keep fun g' hg' => hW.block g' (HS.out g' hg').2 (HS.out g' hg').1)
    clear hcq
    have hbw : b ≤ wr.heap.size := Nat.le_trans hb HG.out.g.size
    by_cases hbig : 255 < q.length
    · have hbigI : (255 : Int) < (q.length : Int) := by omega
      have hN : min 255 q.length = 255 := by omega
      have HSTEP := Lib.hid (chk_step q 255 (by omega) hN)
      have HCut := Lib.hid (HRq.out.cut8 255 c1 (by omega) hqc)
      clear hN
      by_cases hcn : c1 = 255
      · exact absurd hcn (by omega)
      · have HC := Lib.hid (show Rd w S 1 (some ⟨g, o + 255, none⟩) (q.drop 255).length (nums .u8 (q.drop 255)) by have := HCut.out; rwa [if_neg hcn] at this)
        clear HCut
        go_wp2_with (first
            | (at_builtin; refine wpl_append rowByte rfl _ _ rfl (v := .slice C cn cc) rfl (HO2.out.alloc _) _ _ rfl (A := some ⟨wr.heap.size, 0, none⟩) (ys := [0, 255]) rfl (rd_two wr 0 255 _) (ok2 (by omega) (by omega)) (by simp; omega) (by simp; omega) ?_; intro v1 w1 ho1 hg1 hat1; have HO1 := Lib.hid ho1; have HG1 := Lib.hid (HG.out.trans ((Go1.ext (ext_alloc _ _) rfl).trans (Go1.app hg1 hat1))); obtain ⟨C1, cn1, cc1, rfl⟩ := ho1.shape3; clear ho1 hg1 hat1)
            | (at_builtin; refine wpl_append rowByte rfl _ _ rfl (v := .slice C1 cn1 cc1) rfl HO1.out _ _ rfl (ys := q.take 255) (S := S) (by simp only [List.length_take]; omega) ((HRw.out _ HG1.out.g).head8 _ (by omega)) (fun x hx => HBq.out x (List.mem_of_mem_take hx)) (by simp only [List.length_append, List.length_take, List.length_cons, List.length_nil]; omega) (Nat.le_trans hb HG1.out.g.size) ?_; intro v2 w2 ho2 hg2 hat2; have HO3 := Lib.hid ho2; have HG2 := Lib.hid (HG1.out.trans (Go1.app hg2 hat2)); obtain ⟨C2, cn2, cc2, rfl⟩ := ho2.shape3; clear ho2 hg2 hat2))
        go_roundw
        case rel => exact ⟨q.drop 255, _, some ⟨g, o + 255, none⟩, c1 - 255, by rw [List.length_drop]; omega, by simp, by rw [List.length_drop]; omega, by rw [HF.out, HSTEP.out]; (try simp only [List.append_assoc]); (try rfl), by simp only [List.length_append, List.length_take, List.length_drop, List.length_cons, List.length_nil]; omega, HBq.out.drop _, HC.out, HO3.out, HG2.out⟩
        case measure => simp [lenV] <;> omega
    · have hbigI : ¬ (255 : Int) < (q.length : Int) := by omega
      have hW : IntKind.u8.wrap (q.length : Int) = (q.length : Int) := by simp [IntKind.wrap, IntKind.min, IntKind.max, IntKind.bits, IntKind.signed]; omega
      have hN : min 255 q.length = q.length := by omega
      have HSTEP := Lib.hid (chk_step q q.length (by omega) hN)
      have HCut := Lib.hid (HRq.out.cut8 q.length c1 (by omega) hqc)
      clear hN
      by_cases hcn : c1 = q.length
      · have HC := Lib.hid (show Rd w S 1 (some ⟨g, o, none⟩) (q.drop q.length).length (nums .u8 (q.drop q.length)) by have := HCut.out; rwa [if_pos hcn] at this)
        subst hcn
        clear HCut
        go_wp2_with (first
            | (at_builtin; refine wpl_append rowByte rfl _ _ rfl (v := .slice C cn cc) rfl (HO2.out.alloc _) _ _ rfl (A := some ⟨wr.heap.size, 0, none⟩) (ys := [0, (q.length : Int)]) rfl (rd_two wr 0 (q.length : Int) _) (ok2 (by omega) (by omega)) (by simp; omega) (by simp; omega) ?_; intro v1 w1 ho1 hg1 hat1; have HO1 := Lib.hid ho1; have HG1 := Lib.hid (HG.out.trans ((Go1.ext (ext_alloc _ _) rfl).trans (Go1.app hg1 hat1))); obtain ⟨C1, cn1, cc1, rfl⟩ := ho1.shape3; clear ho1 hg1 hat1)
            | (at_builtin; refine wpl_append rowByte rfl _ _ rfl (v := .slice C1 cn1 cc1) rfl HO1.out _ _ rfl (ys := q.take q.length) (S := S) (by simp only [List.length_take]; omega) ((HRw.out _ HG1.out.g).head8 _ (by omega)) (fun x hx => HBq.out x (List.mem_of_mem_take hx)) (by simp only [List.length_append, List.length_take, List.length_cons, List.length_nil]; omega) (Nat.le_trans hb HG1.out.g.size) ?_; intro v2 w2 ho2 hg2 hat2; have HO3 := Lib.hid ho2; have HG2 := Lib.hid (HG1.out.trans (Go1.app hg2 hat2)); obtain ⟨C2, cn2, cc2, rfl⟩ := ho2.shape3; clear ho2 hg2 hat2))
        go_roundw
        case rel => exact ⟨q.drop q.length, _, some ⟨g, o, none⟩, q.length - q.length, by rw [List.length_drop]; omega, by simp, by rw [List.length_drop]; omega, by rw [HF.out, HSTEP.out]; (try simp only [List.append_assoc]); (try rfl), by simp only [List.length_append, List.length_take, List.length_drop, List.length_cons, List.length_nil]; omega, HBq.out.drop _, HC.out, HO3.out, HG2.out⟩
        case measure => simp [lenV] <;> omega
      · have HC := Lib.hid (show Rd w S 1 (some ⟨g, o + q.length, none⟩) (q.drop q.length).length (nums .u8 (q.drop q.length)) by have := HCut.out; rwa [if_neg hcn] at this)
        clear HCut
        go_wp2_with (first
            | (at_builtin; refine wpl_append rowByte rfl _ _ rfl (v := .slice C cn cc) rfl (HO2.out.alloc _) _ _ rfl (A := some ⟨wr.heap.size, 0, none⟩) (ys := [0, (q.length : Int)]) rfl (rd_two wr 0 (q.length : Int) _) (ok2 (by omega) (by omega)) (by simp; omega) (by simp; omega) ?_; intro v1 w1 ho1 hg1 hat1; have HO1 := Lib.hid ho1; have HG1 := Lib.hid (HG.out.trans ((Go1.ext (ext_alloc _ _) rfl).trans (Go1.app hg1 hat1))); obtain ⟨C1, cn1, cc1, rfl⟩ := ho1.shape3; clear ho1 hg1 hat1)
            | (at_builtin; refine wpl_append rowByte rfl _ _ rfl (v := .slice C1 cn1 cc1) rfl HO1.out _ _ rfl (ys := q.take q.length) (S := S) (by simp only [List.length_take]; omega) ((HRw.out _ HG1.out.g).head8 _ (by omega)) (fun x hx => HBq.out x (List.mem_of_mem_take hx)) (by simp only [List.length_append, List.length_take, List.length_cons, List.length_nil]; omega) (Nat.le_trans hb HG1.out.g.size) ?_; intro v2 w2 ho2 hg2 hat2; have HO3 := Lib.hid ho2; have HG2 := Lib.hid (HG1.out.trans (Go1.app hg2 hat2)); obtain ⟨C2, cn2, cc2, rfl⟩ := ho2.shape3; clear ho2 hg2 hat2))
        go_roundw
        case rel => exact ⟨q.drop q.length, _, some ⟨g, o + q.length, none⟩, c1 - q.length, by rw [List.length_drop]; omega, by simp, by rw [List.length_drop]; omega, by rw [HF.out, HSTEP.out]; (try simp only [List.append_assoc]); (try rfl), by simp only [List.length_append, List.length_take, List.length_drop, List.length_cons, List.length_nil]; omega, HBq.out.drop _, HC.out, HO3.out, HG2.out⟩
        case measure => simp [lenV] <;> omega
end Go.Proofs.Yteegnbdgfedajaa
