/- What the walk of the law FnExactSameBook needs, part 4 of 4. No condition. -/
import Derived.Test.YteegnbdgfedajaaPFnExactSameBook3
/- Equal commits, wherever they lie. No condition. -/
namespace Go.Proofs.Yteegnbdgfedajaa
open Go.RowKit
set_option linter.unusedVariables false
set_option linter.unusedSimpArgs false

set_option maxHeartbeats 1000000 in
set_option maxRecDepth 100000 in
theorem l07Same_at (cs cs' : Array Value) (x y : Cm) (w : World) (S S' : Nat → Prop) (h : RCommit w S cs x) (h' : RCommit w S' cs' y) (g o g2 o2 : Nat) (hb : ∀ j u, cs[j]? = some u → w.cell? ⟨g, o + j, none⟩ = some u) (hb' : ∀ j u, cs'[j]? = some u → w.cell? ⟨g2, o2 + j, none⟩ = some u) :
    Calls Try.prog 62 #[.pointer (some ⟨g, o, none⟩), .pointer (some ⟨g2, o2, none⟩)] w fun e w' => e = .returned (.bool (sameCm x y)) ∧ Ext w w' := by
  obtain ⟨v, rfl, hr, hroot, hnum, hnote⟩ := h
  obtain ⟨v', rfl, hr', hroot', hnum', hnote'⟩ := h'
  obtain ⟨A, cap, rfl, _⟩ := id hr
  obtain ⟨A', cap', rfl, _⟩ := id hr'
  have H := Lib.hid hr
  have H' := Lib.hid hr'
  have HL := Lib.hid (sizeN (k := .u8) hroot.1)
  have HL' := Lib.hid (sizeN (k := .u8) hroot'.1)
  have HB := Lib.hid hb
  have HB' := Lib.hid hb'
  have HAT := Lib.hid (Cm.at_ hroot (.slice A x.par.length cap))
  have HAT' := Lib.hid (Cm.at_ hroot' (.slice A' y.par.length cap'))
  have HE := Lib.hid (sameCm_eq x y)
  have HN := Lib.hid (show (nums .u8 x.root).length = 32 by rw [nums_length, hroot.1])
  have HN' := Lib.hid (show (nums .u8 y.root).length = 32 by rw [nums_length, hroot'.1])
  have HD := Lib.hid (show ∀ j u, (nums .u8 x.root)[j]? = some u → w.cell? ⟨g, o + j, none⟩ = some u from fun j u hu => HB.out j u (by have := Cm.root_at (x := x) (.slice A x.par.length cap) j u (by simpa [numsA] using hu); rwa [Nat.zero_add] at this))
  have HD' := Lib.hid (show ∀ j u, (nums .u8 y.root)[j]? = some u → w.cell? ⟨g2, o2 + j, none⟩ = some u from fun j u hu => HB'.out j u (by have := Cm.root_at (x := y) (.slice A' y.par.length cap') j u (by simpa [numsA] using hu); rwa [Nat.zero_add] at this))
  have heq := run_eqKey x.root y.root hroot hroot'
  clear hr hr' hb hb' hroot hroot'
  have hls := fun W (h1 : RdL tKey W S (.slice A x.par.length cap) x.par) (h2 : RdL tKey W S' (.slice A' y.par.length cap') y.par) => l03Lists_any _ _ x.par y.par W S S' h1 h2
  have c0 : ∀ W, Ext w W → W.cell? ⟨g, o + 32, none⟩ = some (.slice A x.par.length cap) := fun W hW => hW.cell (HB.out 32 _ HAT.out.1)
  have c1 : ∀ W, Ext w W → W.cell? ⟨g2, o2 + 32, none⟩ = some (.slice A' y.par.length cap') := fun W hW => hW.cell (HB'.out 32 _ HAT'.out.1)
  have c2 : ∀ W, Ext w W → W.cell? ⟨g, o + 33, none⟩ = some (.int .i64 x.num) := fun W hW => hW.cell (HB.out 33 _ HAT.out.2.1)
  have c3 : ∀ W, Ext w W → W.cell? ⟨g2, o2 + 33, none⟩ = some (.int .i64 y.num) := fun W hW => hW.cell (HB'.out 33 _ HAT'.out.2.1)
  have c4 : ∀ W, Ext w W → W.cell? ⟨g, o + 34, none⟩ = some (.string x.note) := fun W hW => hW.cell (HB.out 34 _ HAT.out.2.2)
  have c5 : ∀ W, Ext w W → W.cell? ⟨g2, o2 + 34, none⟩ = some (.string y.note) := fun W hW => hW.cell (HB'.out 34 _ HAT'.out.2.2)
  have R := Ext.refl w
  by_cases e1 : x.root = y.root
  rotate_left
  · have E1 := Lib.hid e1
    simp only [decide_eq_false e1] at heq
    clear e1
    go_enter Try.func62, Try.ntmps62
    go_wp2_with fail
    refine wp_region_held_drew (S := fun W => Ext w W) (by kernel_rfl) (Ext.refl _).drew (fun hHeld => ?_)
    refine wpAnyH_take (i := 0) (oi := ?oiz209) (v := ?vz209) ?hiz209 (by kernel_rfl) (by kernel_rfl) (by kernel_rfl) ?hQz209 ?hyz209 (by assumption) ?restz209
    case hiz209 => simp only [List.getElem?_toArray, List.getElem?_cons_zero, List.getElem?_cons_succ]; rfl
    case hQz209 => exact fun _ _ _ h => h
    case hyz209 => exact Or.inl ⟨by rfl, by intro w hSw; (try dsimp only at hSw); go_simp; with_reducible rfl⟩
    try simp only [Act.put, List.setIfInBounds_toArray, List.set_cons_zero, List.set_cons_succ]
    refine wpAnyH_take (i := 1) (oi := ?oiz210) (v := ?vz210) ?hiz210 (by kernel_rfl) (by kernel_rfl) (by kernel_rfl) ?hQz210 ?hyz210 (by assumption) ?restz210
    case hiz210 => simp only [List.getElem?_toArray, List.getElem?_cons_zero, List.getElem?_cons_succ]; rfl
    case hQz210 => exact fun _ _ _ h => h
    case hyz210 => exact Or.inl ⟨by rfl, by intro w hSw; (try dsimp only at hSw); go_simp; with_reducible rfl⟩
    try simp only [Act.put, List.setIfInBounds_toArray, List.set_cons_zero, List.set_cons_succ]
    refine wpAnyH_take (i := 2) (oi := ?oiz211) (v := ?vz211) ?hiz211 (by kernel_rfl) (by kernel_rfl) (by kernel_rfl) ?hQz211 ?hyz211 (by assumption) ?restz211
    case hiz211 => simp only [List.getElem?_toArray, List.getElem?_cons_zero, List.getElem?_cons_succ]; rfl
    case hQz211 => exact fun _ _ _ h => h
    case hyz211 => exact Or.inl ⟨by rfl, by intro w hSw; (try dsimp only at hSw); go_simp; with_reducible rfl⟩
    try simp only [Act.put, List.setIfInBounds_toArray, List.set_cons_zero, List.set_cons_succ]
    refine wpAnyH_take (i := 3) (oi := ?oiz212) (v := (.agg (numsA .u8 x.root))) ?hiz212 (by kernel_rfl) (by kernel_rfl) (by kernel_rfl) ?hQz212 ?hyz212 (by assumption) ?restz212
    case hiz212 => simp only [List.getElem?_toArray, List.getElem?_cons_zero, List.getElem?_cons_succ]; rfl
    case hQz212 => exact fun _ _ _ h => h
    case hyz212 => refine yields_loadR g o (nums .u8 x.root) (by rw [HN.out]; exact aggKey) HD.out ?_ _ rfl rfl; rfl
    try simp only [Act.put, List.setIfInBounds_toArray, List.set_cons_zero, List.set_cons_succ]
    refine wpAnyH_take (i := 4) (oi := ?oiz213) (v := ?vz213) ?hiz213 (by kernel_rfl) (by kernel_rfl) (by kernel_rfl) ?hQz213 ?hyz213 (by assumption) ?restz213
    case hiz213 => simp only [List.getElem?_toArray, List.getElem?_cons_zero, List.getElem?_cons_succ]; rfl
    case hQz213 => exact fun _ _ _ h => h
    case hyz213 => exact Or.inl ⟨by rfl, by intro w hSw; (try dsimp only at hSw); go_simp; with_reducible rfl⟩
    try simp only [Act.put, List.setIfInBounds_toArray, List.set_cons_zero, List.set_cons_succ]
    refine wpAnyH_take (i := 5) (oi := ?oiz214) (v := ?vz214) ?hiz214 (by kernel_rfl) (by kernel_rfl) (by kernel_rfl) ?hQz214 ?hyz214 (by assumption) ?restz214
    case hiz214 => simp only [List.getElem?_toArray, List.getElem?_cons_zero, List.getElem?_cons_succ]; rfl
    case hQz214 => exact fun _ _ _ h => h
    case hyz214 => exact Or.inl ⟨by rfl, by intro w hSw; (try dsimp only at hSw); go_simp; with_reducible rfl⟩
    try simp only [Act.put, List.setIfInBounds_toArray, List.set_cons_zero, List.set_cons_succ]
    refine wpAnyH_take (i := 6) (oi := ?oiz215) (v := ?vz215) ?hiz215 (by kernel_rfl) (by kernel_rfl) (by kernel_rfl) ?hQz215 ?hyz215 (by assumption) ?restz215
    case hiz215 => simp only [List.getElem?_toArray, List.getElem?_cons_zero, List.getElem?_cons_succ]; rfl
    case hQz215 => exact fun _ _ _ h => h
    case hyz215 => exact Or.inl ⟨by rfl, by intro w hSw; (try dsimp only at hSw); go_simp; with_reducible rfl⟩
    try simp only [Act.put, List.setIfInBounds_toArray, List.set_cons_zero, List.set_cons_succ]
    refine wpAnyH_take (i := 7) (oi := ?oiz216) (v := (.agg (numsA .u8 y.root))) ?hiz216 (by kernel_rfl) (by kernel_rfl) (by kernel_rfl) ?hQz216 ?hyz216 (by assumption) ?restz216
    case hiz216 => simp only [List.getElem?_toArray, List.getElem?_cons_zero, List.getElem?_cons_succ]; rfl
    case hQz216 => exact fun _ _ _ h => h
    case hyz216 => refine yields_loadR g2 o2 (nums .u8 y.root) (by rw [HN'.out]; exact aggKey) HD'.out ?_ _ rfl rfl; rfl
    try simp only [Act.put, List.setIfInBounds_toArray, List.set_cons_zero, List.set_cons_succ]
    refine wpAnyH_take (i := 8) (oi := ?oiz217) (v := ?vz217) ?hiz217 (by kernel_rfl) (by kernel_rfl) (by kernel_rfl) ?hQz217 ?hyz217 (by assumption) ?restz217
    case hiz217 => simp only [List.getElem?_toArray, List.getElem?_cons_zero, List.getElem?_cons_succ]; rfl
    case hQz217 => exact fun _ _ _ h => h
    case hyz217 => exact Or.inl ⟨by rfl, by intro w hSw; (try dsimp only at hSw); go_simp; with_reducible rfl⟩
    try simp only [Act.put, List.setIfInBounds_toArray, List.set_cons_zero, List.set_cons_succ]
    refine wpAnyH_take (i := 9) (oi := ?oiz218) (v := ?vz218) ?hiz218 (by kernel_rfl) (by kernel_rfl) (by kernel_rfl) ?hQz218 ?hyz218 (by assumption) ?restz218
    case hiz218 => simp only [List.getElem?_toArray, List.getElem?_cons_zero, List.getElem?_cons_succ]; rfl
    case hQz218 => exact fun _ _ _ h => h
    case hyz218 => exact Or.inl ⟨by rfl, by intro w hSw; (try dsimp only at hSw); go_simp; with_reducible rfl⟩
    try simp only [Act.put, List.setIfInBounds_toArray, List.set_cons_zero, List.set_cons_succ]
    refine wpAnyH_take (i := 10) (oi := ?oiz219) (v := undef) ?hiz219 (by kernel_rfl) (by kernel_rfl) (by kernel_rfl) ?hQz219 ?hyz219 (by assumption) ?restz219
    case hiz219 => simp only [List.getElem?_toArray, List.getElem?_cons_zero, List.getElem?_cons_succ]; rfl
    case hQz219 => exact fun _ _ _ h => h
    case hyz219 => exact Or.inr ⟨by rfl, rfl⟩
    try simp only [Act.put, List.setIfInBounds_toArray, List.set_cons_zero, List.set_cons_succ]
    refine wpAnyH_take (i := 11) (oi := ?oiz220) (v := undef) ?hiz220 (by kernel_rfl) (by kernel_rfl) (by kernel_rfl) ?hQz220 ?hyz220 (by assumption) ?restz220
    case hiz220 => simp only [List.getElem?_toArray, List.getElem?_cons_zero, List.getElem?_cons_succ]; rfl
    case hQz220 => exact fun _ _ _ h => h
    case hyz220 => exact Or.inr ⟨by rfl, rfl⟩
    try simp only [Act.put, List.setIfInBounds_toArray, List.set_cons_zero, List.set_cons_succ]
    refine wpAnyH_take (i := 12) (oi := ?oiz221) (v := undef) ?hiz221 (by kernel_rfl) (by kernel_rfl) (by kernel_rfl) ?hQz221 ?hyz221 (by assumption) ?restz221
    case hiz221 => simp only [List.getElem?_toArray, List.getElem?_cons_zero, List.getElem?_cons_succ]; rfl
    case hQz221 => exact fun _ _ _ h => h
    case hyz221 => exact Or.inr ⟨by rfl, rfl⟩
    try simp only [Act.put, List.setIfInBounds_toArray, List.set_cons_zero, List.set_cons_succ]
    refine wpAnyH_take (i := 13) (oi := ?oiz222) (v := undef) ?hiz222 (by kernel_rfl) (by kernel_rfl) (by kernel_rfl) ?hQz222 ?hyz222 (by assumption) ?restz222
    case hiz222 => simp only [List.getElem?_toArray, List.getElem?_cons_zero, List.getElem?_cons_succ]; rfl
    case hQz222 => exact fun _ _ _ h => h
    case hyz222 => exact Or.inr ⟨by rfl, rfl⟩
    try simp only [Act.put, List.setIfInBounds_toArray, List.set_cons_zero, List.set_cons_succ]
    refine wpAnyH_take (i := 14) (oi := ?oiz223) (v := undef) ?hiz223 (by kernel_rfl) (by kernel_rfl) (by kernel_rfl) ?hQz223 ?hyz223 (by assumption) ?restz223
    case hiz223 => simp only [List.getElem?_toArray, List.getElem?_cons_zero, List.getElem?_cons_succ]; rfl
    case hQz223 => exact fun _ _ _ h => h
    case hyz223 => exact Or.inr ⟨by rfl, rfl⟩
    try simp only [Act.put, List.setIfInBounds_toArray, List.set_cons_zero, List.set_cons_succ]
    refine wpAnyH_take (i := 15) (oi := ?oiz224) (v := undef) ?hiz224 (by kernel_rfl) (by kernel_rfl) (by kernel_rfl) ?hQz224 ?hyz224 (by assumption) ?restz224
    case hiz224 => simp only [List.getElem?_toArray, List.getElem?_cons_zero, List.getElem?_cons_succ]; rfl
    case hQz224 => exact fun _ _ _ h => h
    case hyz224 => exact Or.inr ⟨by rfl, rfl⟩
    try simp only [Act.put, List.setIfInBounds_toArray, List.set_cons_zero, List.set_cons_succ]
    refine wpAnyH_take (i := 16) (oi := ?oiz225) (v := undef) ?hiz225 (by kernel_rfl) (by kernel_rfl) (by kernel_rfl) ?hQz225 ?hyz225 (by assumption) ?restz225
    case hiz225 => simp only [List.getElem?_toArray, List.getElem?_cons_zero, List.getElem?_cons_succ]; rfl
    case hQz225 => exact fun _ _ _ h => h
    case hyz225 => exact Or.inr ⟨by rfl, rfl⟩
    try simp only [Act.put, List.setIfInBounds_toArray, List.set_cons_zero, List.set_cons_succ]
    refine wpAnyH_take (i := 17) (oi := ?oiz226) (v := undef) ?hiz226 (by kernel_rfl) (by kernel_rfl) (by kernel_rfl) ?hQz226 ?hyz226 (by assumption) ?restz226
    case hiz226 => simp only [List.getElem?_toArray, List.getElem?_cons_zero, List.getElem?_cons_succ]; rfl
    case hQz226 => exact fun _ _ _ h => h
    case hyz226 => exact Or.inr ⟨by rfl, rfl⟩
    try simp only [Act.put, List.setIfInBounds_toArray, List.set_cons_zero, List.set_cons_succ]
    refine wpAnyH_take (i := 18) (oi := ?oiz227) (v := undef) ?hiz227 (by kernel_rfl) (by kernel_rfl) (by kernel_rfl) ?hQz227 ?hyz227 (by assumption) ?restz227
    case hiz227 => simp only [List.getElem?_toArray, List.getElem?_cons_zero, List.getElem?_cons_succ]; rfl
    case hQz227 => exact fun _ _ _ h => h
    case hyz227 => exact Or.inr ⟨by rfl, rfl⟩
    try simp only [Act.put, List.setIfInBounds_toArray, List.set_cons_zero, List.set_cons_succ]
    refine wpAnyH_take (i := 19) (oi := ?oiz228) (v := ?vz228) ?hiz228 (by kernel_rfl) (by kernel_rfl) (by kernel_rfl) ?hQz228 ?hyz228 (by assumption) ?restz228
    case hiz228 => simp only [List.getElem?_toArray, List.getElem?_cons_zero, List.getElem?_cons_succ]; rfl
    case hQz228 => exact fun _ _ _ h => h
    case hyz228 => exact Or.inl ⟨by rfl, by intro w hSw; (try dsimp only at hSw); go_simp; with_reducible rfl⟩
    try simp only [Act.put, List.setIfInBounds_toArray, List.set_cons_zero, List.set_cons_succ]
    refine wpAnyH_take (i := 20) (oi := ?oiz229) (v := ?vz229) ?hiz229 (by kernel_rfl) (by kernel_rfl) (by kernel_rfl) ?hQz229 ?hyz229 (by assumption) ?restz229
    case hiz229 => simp only [List.getElem?_toArray, List.getElem?_cons_zero, List.getElem?_cons_succ]; rfl
    case hQz229 => exact fun _ _ _ h => h
    case hyz229 => exact Or.inl ⟨by rfl, by intro w hSw; (try dsimp only at hSw); go_simp; with_reducible rfl⟩
    try simp only [Act.put, List.setIfInBounds_toArray, List.set_cons_zero, List.set_cons_succ]
    refine wpAnyH_take (i := 21) (oi := ?oiz230) (v := undef) ?hiz230 (by kernel_rfl) (by kernel_rfl) (by kernel_rfl) ?hQz230 ?hyz230 (by assumption) ?restz230
    case hiz230 => simp only [List.getElem?_toArray, List.getElem?_cons_zero, List.getElem?_cons_succ]; rfl
    case hQz230 => exact fun _ _ _ h => h
    case hyz230 => exact Or.inr ⟨by rfl, rfl⟩
    try simp only [Act.put, List.setIfInBounds_toArray, List.set_cons_zero, List.set_cons_succ]
    refine wpAnyH_take (i := 22) (oi := ?oiz231) (v := undef) ?hiz231 (by kernel_rfl) (by kernel_rfl) (by kernel_rfl) ?hQz231 ?hyz231 (by assumption) ?restz231
    case hiz231 => simp only [List.getElem?_toArray, List.getElem?_cons_zero, List.getElem?_cons_succ]; rfl
    case hQz231 => exact fun _ _ _ h => h
    case hyz231 => exact Or.inr ⟨by rfl, rfl⟩
    try simp only [Act.put, List.setIfInBounds_toArray, List.set_cons_zero, List.set_cons_succ]
    refine wpAnyH_take (i := 23) (oi := ?oiz232) (v := undef) ?hiz232 (by kernel_rfl) (by kernel_rfl) (by kernel_rfl) ?hQz232 ?hyz232 (by assumption) ?restz232
    case hiz232 => simp only [List.getElem?_toArray, List.getElem?_cons_zero, List.getElem?_cons_succ]; rfl
    case hQz232 => exact fun _ _ _ h => h
    case hyz232 => exact Or.inr ⟨by rfl, rfl⟩
    try simp only [Act.put, List.setIfInBounds_toArray, List.set_cons_zero, List.set_cons_succ]
    refine wpAnyH_take (i := 24) (oi := ?oiz233) (v := undef) ?hiz233 (by kernel_rfl) (by kernel_rfl) (by kernel_rfl) ?hQz233 ?hyz233 (by assumption) ?restz233
    case hiz233 => simp only [List.getElem?_toArray, List.getElem?_cons_zero, List.getElem?_cons_succ]; rfl
    case hQz233 => exact fun _ _ _ h => h
    case hyz233 => exact Or.inr ⟨by rfl, rfl⟩
    try simp only [Act.put, List.setIfInBounds_toArray, List.set_cons_zero, List.set_cons_succ]
    refine wpAnyH_take (i := 25) (oi := ?oiz234) (v := undef) ?hiz234 (by kernel_rfl) (by kernel_rfl) (by kernel_rfl) ?hQz234 ?hyz234 (by assumption) ?restz234
    case hiz234 => simp only [List.getElem?_toArray, List.getElem?_cons_zero, List.getElem?_cons_succ]; rfl
    case hQz234 => exact fun _ _ _ h => h
    case hyz234 => exact Or.inr ⟨by rfl, rfl⟩
    try simp only [Act.put, List.setIfInBounds_toArray, List.set_cons_zero, List.set_cons_succ]
    refine wpAnyH_take (i := 26) (oi := ?oiz235) (v := undef) ?hiz235 (by kernel_rfl) (by kernel_rfl) (by kernel_rfl) ?hQz235 ?hyz235 (by assumption) ?restz235
    case hiz235 => simp only [List.getElem?_toArray, List.getElem?_cons_zero, List.getElem?_cons_succ]; rfl
    case hQz235 => exact fun _ _ _ h => h
    case hyz235 => exact Or.inr ⟨by rfl, rfl⟩
    try simp only [Act.put, List.setIfInBounds_toArray, List.set_cons_zero, List.set_cons_succ]
    refine wpAnyH_take (i := 27) (oi := ?oiz236) (v := undef) ?hiz236 (by kernel_rfl) (by kernel_rfl) (by kernel_rfl) ?hQz236 ?hyz236 (by assumption) ?restz236
    case hiz236 => simp only [List.getElem?_toArray, List.getElem?_cons_zero, List.getElem?_cons_succ]; rfl
    case hQz236 => exact fun _ _ _ h => h
    case hyz236 => exact Or.inr ⟨by rfl, rfl⟩
    try simp only [Act.put, List.setIfInBounds_toArray, List.set_cons_zero, List.set_cons_succ]
    refine wpAnyH_take (i := 28) (oi := ?oiz237) (v := undef) ?hiz237 (by kernel_rfl) (by kernel_rfl) (by kernel_rfl) ?hQz237 ?hyz237 (by assumption) ?restz237
    case hiz237 => simp only [List.getElem?_toArray, List.getElem?_cons_zero, List.getElem?_cons_succ]; rfl
    case hQz237 => exact fun _ _ _ h => h
    case hyz237 => exact Or.inr ⟨by rfl, rfl⟩
    try simp only [Act.put, List.setIfInBounds_toArray, List.set_cons_zero, List.set_cons_succ]
    refine wpAnyH_take (i := 29) (oi := ?oiz238) (v := undef) ?hiz238 (by kernel_rfl) (by kernel_rfl) (by kernel_rfl) ?hQz238 ?hyz238 (by assumption) ?restz238
    case hiz238 => simp only [List.getElem?_toArray, List.getElem?_cons_zero, List.getElem?_cons_succ]; rfl
    case hQz238 => exact fun _ _ _ h => h
    case hyz238 => exact Or.inr ⟨by rfl, rfl⟩
    try simp only [Act.put, List.setIfInBounds_toArray, List.set_cons_zero, List.set_cons_succ]
    refine wpAnyH_take (i := 30) (oi := ?oiz239) (v := ?vz239) ?hiz239 (by kernel_rfl) (by kernel_rfl) (by kernel_rfl) ?hQz239 ?hyz239 (by assumption) ?restz239
    case hiz239 => simp only [List.getElem?_toArray, List.getElem?_cons_zero, List.getElem?_cons_succ]; rfl
    case hQz239 => exact fun _ _ _ h => h
    case hyz239 => exact Or.inl ⟨by rfl, by intro w hSw; (try dsimp only at hSw); go_simp; with_reducible rfl⟩
    try simp only [Act.put, List.setIfInBounds_toArray, List.set_cons_zero, List.set_cons_succ]
    refine wpAnyH_take (i := 31) (oi := ?oiz240) (v := ?vz240) ?hiz240 (by kernel_rfl) (by kernel_rfl) (by kernel_rfl) ?hQz240 ?hyz240 (by assumption) ?restz240
    case hiz240 => simp only [List.getElem?_toArray, List.getElem?_cons_zero, List.getElem?_cons_succ]; rfl
    case hQz240 => exact fun _ _ _ h => h
    case hyz240 => exact Or.inl ⟨by rfl, by intro w hSw; (try dsimp only at hSw); go_simp; with_reducible rfl⟩
    try simp only [Act.put, List.setIfInBounds_toArray, List.set_cons_zero, List.set_cons_succ]
    refine wpAnyH_take (i := 32) (oi := ?oiz241) (v := undef) ?hiz241 (by kernel_rfl) (by kernel_rfl) (by kernel_rfl) ?hQz241 ?hyz241 (by assumption) ?restz241
    case hiz241 => simp only [List.getElem?_toArray, List.getElem?_cons_zero, List.getElem?_cons_succ]; rfl
    case hQz241 => exact fun _ _ _ h => h
    case hyz241 => exact Or.inr ⟨by rfl, rfl⟩
    try simp only [Act.put, List.setIfInBounds_toArray, List.set_cons_zero, List.set_cons_succ]
    refine wpAnyH_take (i := 33) (oi := ?oiz242) (v := undef) ?hiz242 (by kernel_rfl) (by kernel_rfl) (by kernel_rfl) ?hQz242 ?hyz242 (by assumption) ?restz242
    case hiz242 => simp only [List.getElem?_toArray, List.getElem?_cons_zero, List.getElem?_cons_succ]; rfl
    case hQz242 => exact fun _ _ _ h => h
    case hyz242 => exact Or.inr ⟨by rfl, rfl⟩
    try simp only [Act.put, List.setIfInBounds_toArray, List.set_cons_zero, List.set_cons_succ]
    refine wpAnyH_take (i := 34) (oi := ?oiz243) (v := undef) ?hiz243 (by kernel_rfl) (by kernel_rfl) (by kernel_rfl) ?hQz243 ?hyz243 (by assumption) ?restz243
    case hiz243 => simp only [List.getElem?_toArray, List.getElem?_cons_zero, List.getElem?_cons_succ]; rfl
    case hQz243 => exact fun _ _ _ h => h
    case hyz243 => exact Or.inr ⟨by rfl, rfl⟩
    try simp only [Act.put, List.setIfInBounds_toArray, List.set_cons_zero, List.set_cons_succ]
    refine wpAnyH_take (i := 35) (oi := ?oiz244) (v := undef) ?hiz244 (by kernel_rfl) (by kernel_rfl) (by kernel_rfl) ?hQz244 ?hyz244 (by assumption) ?restz244
    case hiz244 => simp only [List.getElem?_toArray, List.getElem?_cons_zero, List.getElem?_cons_succ]; rfl
    case hQz244 => exact fun _ _ _ h => h
    case hyz244 => exact Or.inr ⟨by rfl, rfl⟩
    try simp only [Act.put, List.setIfInBounds_toArray, List.set_cons_zero, List.set_cons_succ]
    refine wpAnyH_take (i := 36) (oi := ?oiz245) (v := undef) ?hiz245 (by kernel_rfl) (by kernel_rfl) (by kernel_rfl) ?hQz245 ?hyz245 (by assumption) ?restz245
    case hiz245 => simp only [List.getElem?_toArray, List.getElem?_cons_zero, List.getElem?_cons_succ]; rfl
    case hQz245 => exact fun _ _ _ h => h
    case hyz245 => exact Or.inr ⟨by rfl, rfl⟩
    try simp only [Act.put, List.setIfInBounds_toArray, List.set_cons_zero, List.set_cons_succ]
    refine wpAnyH_take (i := 37) (oi := ?oiz246) (v := undef) ?hiz246 (by kernel_rfl) (by kernel_rfl) (by kernel_rfl) ?hQz246 ?hyz246 (by assumption) ?restz246
    case hiz246 => simp only [List.getElem?_toArray, List.getElem?_cons_zero, List.getElem?_cons_succ]; rfl
    case hQz246 => exact fun _ _ _ h => h
    case hyz246 => exact Or.inr ⟨by rfl, rfl⟩
    try simp only [Act.put, List.setIfInBounds_toArray, List.set_cons_zero, List.set_cons_succ]
    refine wpAnyH_take (i := 38) (oi := ?oiz247) (v := undef) ?hiz247 (by kernel_rfl) (by kernel_rfl) (by kernel_rfl) ?hQz247 ?hyz247 (by assumption) ?restz247
    case hiz247 => simp only [List.getElem?_toArray, List.getElem?_cons_zero, List.getElem?_cons_succ]; rfl
    case hQz247 => exact fun _ _ _ h => h
    case hyz247 => exact Or.inr ⟨by rfl, rfl⟩
    try simp only [Act.put, List.setIfInBounds_toArray, List.set_cons_zero, List.set_cons_succ]
    refine wpAnyH_take (i := 39) (oi := ?oiz248) (v := undef) ?hiz248 (by kernel_rfl) (by kernel_rfl) (by kernel_rfl) ?hQz248 ?hyz248 (by assumption) ?restz248
    case hiz248 => simp only [List.getElem?_toArray, List.getElem?_cons_zero, List.getElem?_cons_succ]; rfl
    case hQz248 => exact fun _ _ _ h => h
    case hyz248 => exact Or.inr ⟨by rfl, rfl⟩
    try simp only [Act.put, List.setIfInBounds_toArray, List.set_cons_zero, List.set_cons_succ]
    refine wpAnyH_take (i := 40) (oi := ?oiz249) (v := undef) ?hiz249 (by kernel_rfl) (by kernel_rfl) (by kernel_rfl) ?hQz249 ?hyz249 (by assumption) ?restz249
    case hiz249 => simp only [List.getElem?_toArray, List.getElem?_cons_zero, List.getElem?_cons_succ]; rfl
    case hQz249 => exact fun _ _ _ h => h
    case hyz249 => exact Or.inr ⟨by rfl, rfl⟩
    try simp only [Act.put, List.setIfInBounds_toArray, List.set_cons_zero, List.set_cons_succ]
    refine wpAnyH_take (i := 41) (oi := ?oiz250) (v := ?vz250) ?hiz250 (by kernel_rfl) (by kernel_rfl) (by kernel_rfl) ?hQz250 ?hyz250 (by assumption) ?restz250
    case hiz250 => simp only [List.getElem?_toArray, List.getElem?_cons_zero, List.getElem?_cons_succ]; rfl
    case hQz250 => exact fun _ _ _ h => h
    case hyz250 => exact Or.inl ⟨by rfl, by intro w hSw; (try dsimp only at hSw); go_simp; with_reducible rfl⟩
    try simp only [Act.put, List.setIfInBounds_toArray, List.set_cons_zero, List.set_cons_succ]
    refine wpAnyH_take (i := 42) (oi := ?oiz251) (v := ?vz251) ?hiz251 (by kernel_rfl) (by kernel_rfl) (by kernel_rfl) ?hQz251 ?hyz251 (by assumption) ?restz251
    case hiz251 => simp only [List.getElem?_toArray, List.getElem?_cons_zero, List.getElem?_cons_succ]; rfl
    case hQz251 => exact fun _ _ _ h => h
    case hyz251 => exact Or.inl ⟨by rfl, by intro w hSw; (try dsimp only at hSw); go_simp; with_reducible rfl⟩
    try simp only [Act.put, List.setIfInBounds_toArray, List.set_cons_zero, List.set_cons_succ]
    refine wpAnyH_done (by kernel_rfl) ?_ _
    have XW := Lib.hid hHeld
    clear hHeld
    go_wp2
    go_ret
    exact ⟨by rw [HE.out, decide_eq_false E1.out]; rfl, XW.out⟩
  have E1 := Lib.hid e1
  simp only [decide_eq_true e1] at heq
  clear e1
  by_cases e2 : x.par = y.par
  rotate_left
  · have E2 := Lib.hid e2
    simp only [decide_eq_false e2] at hls
    clear e2
    go_enter Try.func62, Try.ntmps62
    go_wp2_with fail
    refine wp_region_held_drew (S := fun W => Ext w W) (by kernel_rfl) (Ext.refl _).drew (fun hHeld => ?_)
    refine wpAnyH_take (i := 0) (oi := ?oiz252) (v := ?vz252) ?hiz252 (by kernel_rfl) (by kernel_rfl) (by kernel_rfl) ?hQz252 ?hyz252 (by assumption) ?restz252
    case hiz252 => simp only [List.getElem?_toArray, List.getElem?_cons_zero, List.getElem?_cons_succ]; rfl
    case hQz252 => exact fun _ _ _ h => h
    case hyz252 => exact Or.inl ⟨by rfl, by intro w hSw; (try dsimp only at hSw); go_simp; with_reducible rfl⟩
    try simp only [Act.put, List.setIfInBounds_toArray, List.set_cons_zero, List.set_cons_succ]
    refine wpAnyH_take (i := 1) (oi := ?oiz253) (v := ?vz253) ?hiz253 (by kernel_rfl) (by kernel_rfl) (by kernel_rfl) ?hQz253 ?hyz253 (by assumption) ?restz253
    case hiz253 => simp only [List.getElem?_toArray, List.getElem?_cons_zero, List.getElem?_cons_succ]; rfl
    case hQz253 => exact fun _ _ _ h => h
    case hyz253 => exact Or.inl ⟨by rfl, by intro w hSw; (try dsimp only at hSw); go_simp; with_reducible rfl⟩
    try simp only [Act.put, List.setIfInBounds_toArray, List.set_cons_zero, List.set_cons_succ]
    refine wpAnyH_take (i := 2) (oi := ?oiz254) (v := ?vz254) ?hiz254 (by kernel_rfl) (by kernel_rfl) (by kernel_rfl) ?hQz254 ?hyz254 (by assumption) ?restz254
    case hiz254 => simp only [List.getElem?_toArray, List.getElem?_cons_zero, List.getElem?_cons_succ]; rfl
    case hQz254 => exact fun _ _ _ h => h
    case hyz254 => exact Or.inl ⟨by rfl, by intro w hSw; (try dsimp only at hSw); go_simp; with_reducible rfl⟩
    try simp only [Act.put, List.setIfInBounds_toArray, List.set_cons_zero, List.set_cons_succ]
    refine wpAnyH_take (i := 3) (oi := ?oiz255) (v := (.agg (numsA .u8 x.root))) ?hiz255 (by kernel_rfl) (by kernel_rfl) (by kernel_rfl) ?hQz255 ?hyz255 (by assumption) ?restz255
    case hiz255 => simp only [List.getElem?_toArray, List.getElem?_cons_zero, List.getElem?_cons_succ]; rfl
    case hQz255 => exact fun _ _ _ h => h
    case hyz255 => refine yields_loadR g o (nums .u8 x.root) (by rw [HN.out]; exact aggKey) HD.out ?_ _ rfl rfl; rfl
    try simp only [Act.put, List.setIfInBounds_toArray, List.set_cons_zero, List.set_cons_succ]
    refine wpAnyH_take (i := 4) (oi := ?oiz256) (v := ?vz256) ?hiz256 (by kernel_rfl) (by kernel_rfl) (by kernel_rfl) ?hQz256 ?hyz256 (by assumption) ?restz256
    case hiz256 => simp only [List.getElem?_toArray, List.getElem?_cons_zero, List.getElem?_cons_succ]; rfl
    case hQz256 => exact fun _ _ _ h => h
    case hyz256 => exact Or.inl ⟨by rfl, by intro w hSw; (try dsimp only at hSw); go_simp; with_reducible rfl⟩
    try simp only [Act.put, List.setIfInBounds_toArray, List.set_cons_zero, List.set_cons_succ]
    refine wpAnyH_take (i := 5) (oi := ?oiz257) (v := ?vz257) ?hiz257 (by kernel_rfl) (by kernel_rfl) (by kernel_rfl) ?hQz257 ?hyz257 (by assumption) ?restz257
    case hiz257 => simp only [List.getElem?_toArray, List.getElem?_cons_zero, List.getElem?_cons_succ]; rfl
    case hQz257 => exact fun _ _ _ h => h
    case hyz257 => exact Or.inl ⟨by rfl, by intro w hSw; (try dsimp only at hSw); go_simp; with_reducible rfl⟩
    try simp only [Act.put, List.setIfInBounds_toArray, List.set_cons_zero, List.set_cons_succ]
    refine wpAnyH_take (i := 6) (oi := ?oiz258) (v := ?vz258) ?hiz258 (by kernel_rfl) (by kernel_rfl) (by kernel_rfl) ?hQz258 ?hyz258 (by assumption) ?restz258
    case hiz258 => simp only [List.getElem?_toArray, List.getElem?_cons_zero, List.getElem?_cons_succ]; rfl
    case hQz258 => exact fun _ _ _ h => h
    case hyz258 => exact Or.inl ⟨by rfl, by intro w hSw; (try dsimp only at hSw); go_simp; with_reducible rfl⟩
    try simp only [Act.put, List.setIfInBounds_toArray, List.set_cons_zero, List.set_cons_succ]
    refine wpAnyH_take (i := 7) (oi := ?oiz259) (v := (.agg (numsA .u8 y.root))) ?hiz259 (by kernel_rfl) (by kernel_rfl) (by kernel_rfl) ?hQz259 ?hyz259 (by assumption) ?restz259
    case hiz259 => simp only [List.getElem?_toArray, List.getElem?_cons_zero, List.getElem?_cons_succ]; rfl
    case hQz259 => exact fun _ _ _ h => h
    case hyz259 => refine yields_loadR g2 o2 (nums .u8 y.root) (by rw [HN'.out]; exact aggKey) HD'.out ?_ _ rfl rfl; rfl
    try simp only [Act.put, List.setIfInBounds_toArray, List.set_cons_zero, List.set_cons_succ]
    refine wpAnyH_take (i := 8) (oi := ?oiz260) (v := ?vz260) ?hiz260 (by kernel_rfl) (by kernel_rfl) (by kernel_rfl) ?hQz260 ?hyz260 (by assumption) ?restz260
    case hiz260 => simp only [List.getElem?_toArray, List.getElem?_cons_zero, List.getElem?_cons_succ]; rfl
    case hQz260 => exact fun _ _ _ h => h
    case hyz260 => exact Or.inl ⟨by rfl, by intro w hSw; (try dsimp only at hSw); go_simp; with_reducible rfl⟩
    try simp only [Act.put, List.setIfInBounds_toArray, List.set_cons_zero, List.set_cons_succ]
    refine wpAnyH_take (i := 9) (oi := ?oiz261) (v := ?vz261) ?hiz261 (by kernel_rfl) (by kernel_rfl) (by kernel_rfl) ?hQz261 ?hyz261 (by assumption) ?restz261
    case hiz261 => simp only [List.getElem?_toArray, List.getElem?_cons_zero, List.getElem?_cons_succ]; rfl
    case hQz261 => exact fun _ _ _ h => h
    case hyz261 => exact Or.inl ⟨by rfl, by intro w hSw; (try dsimp only at hSw); go_simp; with_reducible rfl⟩
    try simp only [Act.put, List.setIfInBounds_toArray, List.set_cons_zero, List.set_cons_succ]
    refine wpAnyH_take (i := 10) (oi := ?oiz262) (v := ?vz262) ?hiz262 (by kernel_rfl) (by kernel_rfl) (by kernel_rfl) ?hQz262 ?hyz262 (by assumption) ?restz262
    case hiz262 => simp only [List.getElem?_toArray, List.getElem?_cons_zero, List.getElem?_cons_succ]; rfl
    case hQz262 => exact fun _ _ _ h => h
    case hyz262 => exact Or.inl ⟨by rfl, by intro w hSw; (try dsimp only at hSw); go_simp; with_reducible rfl⟩
    try simp only [Act.put, List.setIfInBounds_toArray, List.set_cons_zero, List.set_cons_succ]
    refine wpAnyH_take (i := 11) (oi := ?oiz263) (v := ?vz263) ?hiz263 (by kernel_rfl) (by kernel_rfl) (by kernel_rfl) ?hQz263 ?hyz263 (by assumption) ?restz263
    case hiz263 => simp only [List.getElem?_toArray, List.getElem?_cons_zero, List.getElem?_cons_succ]; rfl
    case hQz263 => exact fun _ _ _ h => h
    case hyz263 => exact Or.inl ⟨by rfl, by intro w hSw; (try dsimp only at hSw); go_simp; with_reducible rfl⟩
    try simp only [Act.put, List.setIfInBounds_toArray, List.set_cons_zero, List.set_cons_succ]
    refine wpAnyH_take (i := 12) (oi := ?oiz264) (v := ?vz264) ?hiz264 (by kernel_rfl) (by kernel_rfl) (by kernel_rfl) ?hQz264 ?hyz264 (by assumption) ?restz264
    case hiz264 => simp only [List.getElem?_toArray, List.getElem?_cons_zero, List.getElem?_cons_succ]; rfl
    case hQz264 => exact fun _ _ _ h => h
    case hyz264 => exact Or.inl ⟨by rfl, by intro w hSw; (try dsimp only at hSw); go_simp; with_reducible rfl⟩
    try simp only [Act.put, List.setIfInBounds_toArray, List.set_cons_zero, List.set_cons_succ]
    refine wpAnyH_take (i := 13) (oi := ?oiz265) (v := ?vz265) ?hiz265 (by kernel_rfl) (by kernel_rfl) (by kernel_rfl) ?hQz265 ?hyz265 (by assumption) ?restz265
    case hiz265 => simp only [List.getElem?_toArray, List.getElem?_cons_zero, List.getElem?_cons_succ]; rfl
    case hQz265 => exact fun _ _ _ h => h
    case hyz265 => exact Or.inl ⟨by rfl, by intro w hSw; (try dsimp only at hSw); go_simp; with_reducible rfl⟩
    try simp only [Act.put, List.setIfInBounds_toArray, List.set_cons_zero, List.set_cons_succ]
    refine wpAnyH_take (i := 14) (oi := ?oiz266) (v := ?vz266) ?hiz266 (by kernel_rfl) (by kernel_rfl) (by kernel_rfl) ?hQz266 ?hyz266 (by assumption) ?restz266
    case hiz266 => simp only [List.getElem?_toArray, List.getElem?_cons_zero, List.getElem?_cons_succ]; rfl
    case hQz266 => exact fun _ _ _ h => h
    case hyz266 => exact Or.inl ⟨by rfl, by intro w hSw; (try dsimp only at hSw); go_simp; with_reducible rfl⟩
    try simp only [Act.put, List.setIfInBounds_toArray, List.set_cons_zero, List.set_cons_succ]
    refine wpAnyH_take (i := 15) (oi := ?oiz267) (v := ?vz267) ?hiz267 (by kernel_rfl) (by kernel_rfl) (by kernel_rfl) ?hQz267 ?hyz267 (by assumption) ?restz267
    case hiz267 => simp only [List.getElem?_toArray, List.getElem?_cons_zero, List.getElem?_cons_succ]; rfl
    case hQz267 => exact fun _ _ _ h => h
    case hyz267 => exact Or.inl ⟨by rfl, by intro w hSw; (try dsimp only at hSw); go_simp; with_reducible rfl⟩
    try simp only [Act.put, List.setIfInBounds_toArray, List.set_cons_zero, List.set_cons_succ]
    refine wpAnyH_take (i := 16) (oi := ?oiz268) (v := ?vz268) ?hiz268 (by kernel_rfl) (by kernel_rfl) (by kernel_rfl) ?hQz268 ?hyz268 (by assumption) ?restz268
    case hiz268 => simp only [List.getElem?_toArray, List.getElem?_cons_zero, List.getElem?_cons_succ]; rfl
    case hQz268 => exact fun _ _ _ h => h
    case hyz268 => exact Or.inl ⟨by rfl, by intro w hSw; (try dsimp only at hSw); go_simp; with_reducible rfl⟩
    try simp only [Act.put, List.setIfInBounds_toArray, List.set_cons_zero, List.set_cons_succ]
    refine wpAnyH_take (i := 17) (oi := ?oiz269) (v := ?vz269) ?hiz269 (by kernel_rfl) (by kernel_rfl) (by kernel_rfl) ?hQz269 ?hyz269 (by assumption) ?restz269
    case hiz269 => simp only [List.getElem?_toArray, List.getElem?_cons_zero, List.getElem?_cons_succ]; rfl
    case hQz269 => exact fun _ _ _ h => h
    case hyz269 => exact Or.inl ⟨by rfl, by intro w hSw; (try dsimp only at hSw); go_simp; with_reducible rfl⟩
    try simp only [Act.put, List.setIfInBounds_toArray, List.set_cons_zero, List.set_cons_succ]
    refine wpAnyH_ready (rs := [18]) (by kernel_rfl) (by simp) (AllReadyH.cons (o := ?oy27018) ?hy27018 (fun K hK => ?sy27018) AllReadyH.nil)
    case hy27018 => simp only [List.getElem?_toArray, List.getElem?_cons_zero, List.getElem?_cons_succ]; rfl
    go_simp
    refine (hls _ (H.out.ext (by decide) hHeld) (H'.out.ext (by decide) hHeld)).mono ?_
    rintro e w1 ⟨rfl, hx⟩
    have hH2 := hHeld.trans hx
    refine hK.out _ _ hH2 (fun _ => ?_)
    clear hHeld hK K
    have hHeld := hH2
    clear hH2
    try simp only [Act.put, List.setIfInBounds_toArray, List.set_cons_zero, List.set_cons_succ]
    refine wpAnyH_take (i := 19) (oi := ?oiz271) (v := ?vz271) ?hiz271 (by kernel_rfl) (by kernel_rfl) (by kernel_rfl) ?hQz271 ?hyz271 (by assumption) ?restz271
    case hiz271 => simp only [List.getElem?_toArray, List.getElem?_cons_zero, List.getElem?_cons_succ]; rfl
    case hQz271 => exact fun _ _ _ h => h
    case hyz271 => exact Or.inl ⟨by rfl, by intro w hSw; (try dsimp only at hSw); go_simp; with_reducible rfl⟩
    try simp only [Act.put, List.setIfInBounds_toArray, List.set_cons_zero, List.set_cons_succ]
    refine wpAnyH_take (i := 20) (oi := ?oiz272) (v := ?vz272) ?hiz272 (by kernel_rfl) (by kernel_rfl) (by kernel_rfl) ?hQz272 ?hyz272 (by assumption) ?restz272
    case hiz272 => simp only [List.getElem?_toArray, List.getElem?_cons_zero, List.getElem?_cons_succ]; rfl
    case hQz272 => exact fun _ _ _ h => h
    case hyz272 => exact Or.inl ⟨by rfl, by intro w hSw; (try dsimp only at hSw); go_simp; with_reducible rfl⟩
    try simp only [Act.put, List.setIfInBounds_toArray, List.set_cons_zero, List.set_cons_succ]
    refine wpAnyH_take (i := 21) (oi := ?oiz273) (v := undef) ?hiz273 (by kernel_rfl) (by kernel_rfl) (by kernel_rfl) ?hQz273 ?hyz273 (by assumption) ?restz273
    case hiz273 => simp only [List.getElem?_toArray, List.getElem?_cons_zero, List.getElem?_cons_succ]; rfl
    case hQz273 => exact fun _ _ _ h => h
    case hyz273 => exact Or.inr ⟨by rfl, rfl⟩
    try simp only [Act.put, List.setIfInBounds_toArray, List.set_cons_zero, List.set_cons_succ]
    refine wpAnyH_take (i := 22) (oi := ?oiz274) (v := undef) ?hiz274 (by kernel_rfl) (by kernel_rfl) (by kernel_rfl) ?hQz274 ?hyz274 (by assumption) ?restz274
    case hiz274 => simp only [List.getElem?_toArray, List.getElem?_cons_zero, List.getElem?_cons_succ]; rfl
    case hQz274 => exact fun _ _ _ h => h
    case hyz274 => exact Or.inr ⟨by rfl, rfl⟩
    try simp only [Act.put, List.setIfInBounds_toArray, List.set_cons_zero, List.set_cons_succ]
    refine wpAnyH_take (i := 23) (oi := ?oiz275) (v := undef) ?hiz275 (by kernel_rfl) (by kernel_rfl) (by kernel_rfl) ?hQz275 ?hyz275 (by assumption) ?restz275
    case hiz275 => simp only [List.getElem?_toArray, List.getElem?_cons_zero, List.getElem?_cons_succ]; rfl
    case hQz275 => exact fun _ _ _ h => h
    case hyz275 => exact Or.inr ⟨by rfl, rfl⟩
    try simp only [Act.put, List.setIfInBounds_toArray, List.set_cons_zero, List.set_cons_succ]
    refine wpAnyH_take (i := 24) (oi := ?oiz276) (v := undef) ?hiz276 (by kernel_rfl) (by kernel_rfl) (by kernel_rfl) ?hQz276 ?hyz276 (by assumption) ?restz276
    case hiz276 => simp only [List.getElem?_toArray, List.getElem?_cons_zero, List.getElem?_cons_succ]; rfl
    case hQz276 => exact fun _ _ _ h => h
    case hyz276 => exact Or.inr ⟨by rfl, rfl⟩
    try simp only [Act.put, List.setIfInBounds_toArray, List.set_cons_zero, List.set_cons_succ]
    refine wpAnyH_take (i := 25) (oi := ?oiz277) (v := undef) ?hiz277 (by kernel_rfl) (by kernel_rfl) (by kernel_rfl) ?hQz277 ?hyz277 (by assumption) ?restz277
    case hiz277 => simp only [List.getElem?_toArray, List.getElem?_cons_zero, List.getElem?_cons_succ]; rfl
    case hQz277 => exact fun _ _ _ h => h
    case hyz277 => exact Or.inr ⟨by rfl, rfl⟩
    try simp only [Act.put, List.setIfInBounds_toArray, List.set_cons_zero, List.set_cons_succ]
    refine wpAnyH_take (i := 26) (oi := ?oiz278) (v := undef) ?hiz278 (by kernel_rfl) (by kernel_rfl) (by kernel_rfl) ?hQz278 ?hyz278 (by assumption) ?restz278
    case hiz278 => simp only [List.getElem?_toArray, List.getElem?_cons_zero, List.getElem?_cons_succ]; rfl
    case hQz278 => exact fun _ _ _ h => h
    case hyz278 => exact Or.inr ⟨by rfl, rfl⟩
    try simp only [Act.put, List.setIfInBounds_toArray, List.set_cons_zero, List.set_cons_succ]
    refine wpAnyH_take (i := 27) (oi := ?oiz279) (v := undef) ?hiz279 (by kernel_rfl) (by kernel_rfl) (by kernel_rfl) ?hQz279 ?hyz279 (by assumption) ?restz279
    case hiz279 => simp only [List.getElem?_toArray, List.getElem?_cons_zero, List.getElem?_cons_succ]; rfl
    case hQz279 => exact fun _ _ _ h => h
    case hyz279 => exact Or.inr ⟨by rfl, rfl⟩
    try simp only [Act.put, List.setIfInBounds_toArray, List.set_cons_zero, List.set_cons_succ]
    refine wpAnyH_take (i := 28) (oi := ?oiz280) (v := undef) ?hiz280 (by kernel_rfl) (by kernel_rfl) (by kernel_rfl) ?hQz280 ?hyz280 (by assumption) ?restz280
    case hiz280 => simp only [List.getElem?_toArray, List.getElem?_cons_zero, List.getElem?_cons_succ]; rfl
    case hQz280 => exact fun _ _ _ h => h
    case hyz280 => exact Or.inr ⟨by rfl, rfl⟩
    try simp only [Act.put, List.setIfInBounds_toArray, List.set_cons_zero, List.set_cons_succ]
    refine wpAnyH_take (i := 29) (oi := ?oiz281) (v := undef) ?hiz281 (by kernel_rfl) (by kernel_rfl) (by kernel_rfl) ?hQz281 ?hyz281 (by assumption) ?restz281
    case hiz281 => simp only [List.getElem?_toArray, List.getElem?_cons_zero, List.getElem?_cons_succ]; rfl
    case hQz281 => exact fun _ _ _ h => h
    case hyz281 => exact Or.inr ⟨by rfl, rfl⟩
    try simp only [Act.put, List.setIfInBounds_toArray, List.set_cons_zero, List.set_cons_succ]
    refine wpAnyH_take (i := 30) (oi := ?oiz282) (v := ?vz282) ?hiz282 (by kernel_rfl) (by kernel_rfl) (by kernel_rfl) ?hQz282 ?hyz282 (by assumption) ?restz282
    case hiz282 => simp only [List.getElem?_toArray, List.getElem?_cons_zero, List.getElem?_cons_succ]; rfl
    case hQz282 => exact fun _ _ _ h => h
    case hyz282 => exact Or.inl ⟨by rfl, by intro w hSw; (try dsimp only at hSw); go_simp; with_reducible rfl⟩
    try simp only [Act.put, List.setIfInBounds_toArray, List.set_cons_zero, List.set_cons_succ]
    refine wpAnyH_take (i := 31) (oi := ?oiz283) (v := ?vz283) ?hiz283 (by kernel_rfl) (by kernel_rfl) (by kernel_rfl) ?hQz283 ?hyz283 (by assumption) ?restz283
    case hiz283 => simp only [List.getElem?_toArray, List.getElem?_cons_zero, List.getElem?_cons_succ]; rfl
    case hQz283 => exact fun _ _ _ h => h
    case hyz283 => exact Or.inl ⟨by rfl, by intro w hSw; (try dsimp only at hSw); go_simp; with_reducible rfl⟩
    try simp only [Act.put, List.setIfInBounds_toArray, List.set_cons_zero, List.set_cons_succ]
    refine wpAnyH_take (i := 32) (oi := ?oiz284) (v := undef) ?hiz284 (by kernel_rfl) (by kernel_rfl) (by kernel_rfl) ?hQz284 ?hyz284 (by assumption) ?restz284
    case hiz284 => simp only [List.getElem?_toArray, List.getElem?_cons_zero, List.getElem?_cons_succ]; rfl
    case hQz284 => exact fun _ _ _ h => h
    case hyz284 => exact Or.inr ⟨by rfl, rfl⟩
    try simp only [Act.put, List.setIfInBounds_toArray, List.set_cons_zero, List.set_cons_succ]
    refine wpAnyH_take (i := 33) (oi := ?oiz285) (v := undef) ?hiz285 (by kernel_rfl) (by kernel_rfl) (by kernel_rfl) ?hQz285 ?hyz285 (by assumption) ?restz285
    case hiz285 => simp only [List.getElem?_toArray, List.getElem?_cons_zero, List.getElem?_cons_succ]; rfl
    case hQz285 => exact fun _ _ _ h => h
    case hyz285 => exact Or.inr ⟨by rfl, rfl⟩
    try simp only [Act.put, List.setIfInBounds_toArray, List.set_cons_zero, List.set_cons_succ]
    refine wpAnyH_take (i := 34) (oi := ?oiz286) (v := undef) ?hiz286 (by kernel_rfl) (by kernel_rfl) (by kernel_rfl) ?hQz286 ?hyz286 (by assumption) ?restz286
    case hiz286 => simp only [List.getElem?_toArray, List.getElem?_cons_zero, List.getElem?_cons_succ]; rfl
    case hQz286 => exact fun _ _ _ h => h
    case hyz286 => exact Or.inr ⟨by rfl, rfl⟩
    try simp only [Act.put, List.setIfInBounds_toArray, List.set_cons_zero, List.set_cons_succ]
    refine wpAnyH_take (i := 35) (oi := ?oiz287) (v := undef) ?hiz287 (by kernel_rfl) (by kernel_rfl) (by kernel_rfl) ?hQz287 ?hyz287 (by assumption) ?restz287
    case hiz287 => simp only [List.getElem?_toArray, List.getElem?_cons_zero, List.getElem?_cons_succ]; rfl
    case hQz287 => exact fun _ _ _ h => h
    case hyz287 => exact Or.inr ⟨by rfl, rfl⟩
    try simp only [Act.put, List.setIfInBounds_toArray, List.set_cons_zero, List.set_cons_succ]
    refine wpAnyH_take (i := 36) (oi := ?oiz288) (v := undef) ?hiz288 (by kernel_rfl) (by kernel_rfl) (by kernel_rfl) ?hQz288 ?hyz288 (by assumption) ?restz288
    case hiz288 => simp only [List.getElem?_toArray, List.getElem?_cons_zero, List.getElem?_cons_succ]; rfl
    case hQz288 => exact fun _ _ _ h => h
    case hyz288 => exact Or.inr ⟨by rfl, rfl⟩
    try simp only [Act.put, List.setIfInBounds_toArray, List.set_cons_zero, List.set_cons_succ]
    refine wpAnyH_take (i := 37) (oi := ?oiz289) (v := undef) ?hiz289 (by kernel_rfl) (by kernel_rfl) (by kernel_rfl) ?hQz289 ?hyz289 (by assumption) ?restz289
    case hiz289 => simp only [List.getElem?_toArray, List.getElem?_cons_zero, List.getElem?_cons_succ]; rfl
    case hQz289 => exact fun _ _ _ h => h
    case hyz289 => exact Or.inr ⟨by rfl, rfl⟩
    try simp only [Act.put, List.setIfInBounds_toArray, List.set_cons_zero, List.set_cons_succ]
    refine wpAnyH_take (i := 38) (oi := ?oiz290) (v := undef) ?hiz290 (by kernel_rfl) (by kernel_rfl) (by kernel_rfl) ?hQz290 ?hyz290 (by assumption) ?restz290
    case hiz290 => simp only [List.getElem?_toArray, List.getElem?_cons_zero, List.getElem?_cons_succ]; rfl
    case hQz290 => exact fun _ _ _ h => h
    case hyz290 => exact Or.inr ⟨by rfl, rfl⟩
    try simp only [Act.put, List.setIfInBounds_toArray, List.set_cons_zero, List.set_cons_succ]
    refine wpAnyH_take (i := 39) (oi := ?oiz291) (v := undef) ?hiz291 (by kernel_rfl) (by kernel_rfl) (by kernel_rfl) ?hQz291 ?hyz291 (by assumption) ?restz291
    case hiz291 => simp only [List.getElem?_toArray, List.getElem?_cons_zero, List.getElem?_cons_succ]; rfl
    case hQz291 => exact fun _ _ _ h => h
    case hyz291 => exact Or.inr ⟨by rfl, rfl⟩
    try simp only [Act.put, List.setIfInBounds_toArray, List.set_cons_zero, List.set_cons_succ]
    refine wpAnyH_take (i := 40) (oi := ?oiz292) (v := undef) ?hiz292 (by kernel_rfl) (by kernel_rfl) (by kernel_rfl) ?hQz292 ?hyz292 (by assumption) ?restz292
    case hiz292 => simp only [List.getElem?_toArray, List.getElem?_cons_zero, List.getElem?_cons_succ]; rfl
    case hQz292 => exact fun _ _ _ h => h
    case hyz292 => exact Or.inr ⟨by rfl, rfl⟩
    try simp only [Act.put, List.setIfInBounds_toArray, List.set_cons_zero, List.set_cons_succ]
    refine wpAnyH_take (i := 41) (oi := ?oiz293) (v := ?vz293) ?hiz293 (by kernel_rfl) (by kernel_rfl) (by kernel_rfl) ?hQz293 ?hyz293 (by assumption) ?restz293
    case hiz293 => simp only [List.getElem?_toArray, List.getElem?_cons_zero, List.getElem?_cons_succ]; rfl
    case hQz293 => exact fun _ _ _ h => h
    case hyz293 => exact Or.inl ⟨by rfl, by intro w hSw; (try dsimp only at hSw); go_simp; with_reducible rfl⟩
    try simp only [Act.put, List.setIfInBounds_toArray, List.set_cons_zero, List.set_cons_succ]
    refine wpAnyH_take (i := 42) (oi := ?oiz294) (v := ?vz294) ?hiz294 (by kernel_rfl) (by kernel_rfl) (by kernel_rfl) ?hQz294 ?hyz294 (by assumption) ?restz294
    case hiz294 => simp only [List.getElem?_toArray, List.getElem?_cons_zero, List.getElem?_cons_succ]; rfl
    case hQz294 => exact fun _ _ _ h => h
    case hyz294 => exact Or.inl ⟨by rfl, by intro w hSw; (try dsimp only at hSw); go_simp; with_reducible rfl⟩
    try simp only [Act.put, List.setIfInBounds_toArray, List.set_cons_zero, List.set_cons_succ]
    refine wpAnyH_done (by kernel_rfl) ?_ _
    have XW := Lib.hid hHeld
    clear hHeld
    go_wp2
    go_ret
    exact ⟨by rw [HE.out, decide_eq_false E2.out, Bool.false_and, Bool.and_false]; rfl, XW.out⟩
  have E2 := Lib.hid e2
  simp only [decide_eq_true e2] at hls
  clear e2
  cases e3 : (x.num == y.num) with
  | false =>
    have E3 := Lib.hid e3
    go_enter Try.func62, Try.ntmps62
    go_wp2_with fail
    refine wp_region_held_drew (S := fun W => Ext w W) (by kernel_rfl) (Ext.refl _).drew (fun hHeld => ?_)
    refine wpAnyH_take (i := 0) (oi := ?oiz295) (v := ?vz295) ?hiz295 (by kernel_rfl) (by kernel_rfl) (by kernel_rfl) ?hQz295 ?hyz295 (by assumption) ?restz295
    case hiz295 => simp only [List.getElem?_toArray, List.getElem?_cons_zero, List.getElem?_cons_succ]; rfl
    case hQz295 => exact fun _ _ _ h => h
    case hyz295 => exact Or.inl ⟨by rfl, by intro w hSw; (try dsimp only at hSw); go_simp; with_reducible rfl⟩
    try simp only [Act.put, List.setIfInBounds_toArray, List.set_cons_zero, List.set_cons_succ]
    refine wpAnyH_take (i := 1) (oi := ?oiz296) (v := ?vz296) ?hiz296 (by kernel_rfl) (by kernel_rfl) (by kernel_rfl) ?hQz296 ?hyz296 (by assumption) ?restz296
    case hiz296 => simp only [List.getElem?_toArray, List.getElem?_cons_zero, List.getElem?_cons_succ]; rfl
    case hQz296 => exact fun _ _ _ h => h
    case hyz296 => exact Or.inl ⟨by rfl, by intro w hSw; (try dsimp only at hSw); go_simp; with_reducible rfl⟩
    try simp only [Act.put, List.setIfInBounds_toArray, List.set_cons_zero, List.set_cons_succ]
    refine wpAnyH_take (i := 2) (oi := ?oiz297) (v := ?vz297) ?hiz297 (by kernel_rfl) (by kernel_rfl) (by kernel_rfl) ?hQz297 ?hyz297 (by assumption) ?restz297
    case hiz297 => simp only [List.getElem?_toArray, List.getElem?_cons_zero, List.getElem?_cons_succ]; rfl
    case hQz297 => exact fun _ _ _ h => h
    case hyz297 => exact Or.inl ⟨by rfl, by intro w hSw; (try dsimp only at hSw); go_simp; with_reducible rfl⟩
    try simp only [Act.put, List.setIfInBounds_toArray, List.set_cons_zero, List.set_cons_succ]
    refine wpAnyH_take (i := 3) (oi := ?oiz298) (v := (.agg (numsA .u8 x.root))) ?hiz298 (by kernel_rfl) (by kernel_rfl) (by kernel_rfl) ?hQz298 ?hyz298 (by assumption) ?restz298
    case hiz298 => simp only [List.getElem?_toArray, List.getElem?_cons_zero, List.getElem?_cons_succ]; rfl
    case hQz298 => exact fun _ _ _ h => h
    case hyz298 => refine yields_loadR g o (nums .u8 x.root) (by rw [HN.out]; exact aggKey) HD.out ?_ _ rfl rfl; rfl
    try simp only [Act.put, List.setIfInBounds_toArray, List.set_cons_zero, List.set_cons_succ]
    refine wpAnyH_take (i := 4) (oi := ?oiz299) (v := ?vz299) ?hiz299 (by kernel_rfl) (by kernel_rfl) (by kernel_rfl) ?hQz299 ?hyz299 (by assumption) ?restz299
    case hiz299 => simp only [List.getElem?_toArray, List.getElem?_cons_zero, List.getElem?_cons_succ]; rfl
    case hQz299 => exact fun _ _ _ h => h
    case hyz299 => exact Or.inl ⟨by rfl, by intro w hSw; (try dsimp only at hSw); go_simp; with_reducible rfl⟩
    try simp only [Act.put, List.setIfInBounds_toArray, List.set_cons_zero, List.set_cons_succ]
    refine wpAnyH_take (i := 5) (oi := ?oiz300) (v := ?vz300) ?hiz300 (by kernel_rfl) (by kernel_rfl) (by kernel_rfl) ?hQz300 ?hyz300 (by assumption) ?restz300
    case hiz300 => simp only [List.getElem?_toArray, List.getElem?_cons_zero, List.getElem?_cons_succ]; rfl
    case hQz300 => exact fun _ _ _ h => h
    case hyz300 => exact Or.inl ⟨by rfl, by intro w hSw; (try dsimp only at hSw); go_simp; with_reducible rfl⟩
    try simp only [Act.put, List.setIfInBounds_toArray, List.set_cons_zero, List.set_cons_succ]
    refine wpAnyH_take (i := 6) (oi := ?oiz301) (v := ?vz301) ?hiz301 (by kernel_rfl) (by kernel_rfl) (by kernel_rfl) ?hQz301 ?hyz301 (by assumption) ?restz301
    case hiz301 => simp only [List.getElem?_toArray, List.getElem?_cons_zero, List.getElem?_cons_succ]; rfl
    case hQz301 => exact fun _ _ _ h => h
    case hyz301 => exact Or.inl ⟨by rfl, by intro w hSw; (try dsimp only at hSw); go_simp; with_reducible rfl⟩
    try simp only [Act.put, List.setIfInBounds_toArray, List.set_cons_zero, List.set_cons_succ]
    refine wpAnyH_take (i := 7) (oi := ?oiz302) (v := (.agg (numsA .u8 y.root))) ?hiz302 (by kernel_rfl) (by kernel_rfl) (by kernel_rfl) ?hQz302 ?hyz302 (by assumption) ?restz302
    case hiz302 => simp only [List.getElem?_toArray, List.getElem?_cons_zero, List.getElem?_cons_succ]; rfl
    case hQz302 => exact fun _ _ _ h => h
    case hyz302 => refine yields_loadR g2 o2 (nums .u8 y.root) (by rw [HN'.out]; exact aggKey) HD'.out ?_ _ rfl rfl; rfl
    try simp only [Act.put, List.setIfInBounds_toArray, List.set_cons_zero, List.set_cons_succ]
    refine wpAnyH_take (i := 8) (oi := ?oiz303) (v := ?vz303) ?hiz303 (by kernel_rfl) (by kernel_rfl) (by kernel_rfl) ?hQz303 ?hyz303 (by assumption) ?restz303
    case hiz303 => simp only [List.getElem?_toArray, List.getElem?_cons_zero, List.getElem?_cons_succ]; rfl
    case hQz303 => exact fun _ _ _ h => h
    case hyz303 => exact Or.inl ⟨by rfl, by intro w hSw; (try dsimp only at hSw); go_simp; with_reducible rfl⟩
    try simp only [Act.put, List.setIfInBounds_toArray, List.set_cons_zero, List.set_cons_succ]
    refine wpAnyH_take (i := 9) (oi := ?oiz304) (v := ?vz304) ?hiz304 (by kernel_rfl) (by kernel_rfl) (by kernel_rfl) ?hQz304 ?hyz304 (by assumption) ?restz304
    case hiz304 => simp only [List.getElem?_toArray, List.getElem?_cons_zero, List.getElem?_cons_succ]; rfl
    case hQz304 => exact fun _ _ _ h => h
    case hyz304 => exact Or.inl ⟨by rfl, by intro w hSw; (try dsimp only at hSw); go_simp; with_reducible rfl⟩
    try simp only [Act.put, List.setIfInBounds_toArray, List.set_cons_zero, List.set_cons_succ]
    refine wpAnyH_take (i := 10) (oi := ?oiz305) (v := ?vz305) ?hiz305 (by kernel_rfl) (by kernel_rfl) (by kernel_rfl) ?hQz305 ?hyz305 (by assumption) ?restz305
    case hiz305 => simp only [List.getElem?_toArray, List.getElem?_cons_zero, List.getElem?_cons_succ]; rfl
    case hQz305 => exact fun _ _ _ h => h
    case hyz305 => exact Or.inl ⟨by rfl, by intro w hSw; (try dsimp only at hSw); go_simp; with_reducible rfl⟩
    try simp only [Act.put, List.setIfInBounds_toArray, List.set_cons_zero, List.set_cons_succ]
    refine wpAnyH_take (i := 11) (oi := ?oiz306) (v := ?vz306) ?hiz306 (by kernel_rfl) (by kernel_rfl) (by kernel_rfl) ?hQz306 ?hyz306 (by assumption) ?restz306
    case hiz306 => simp only [List.getElem?_toArray, List.getElem?_cons_zero, List.getElem?_cons_succ]; rfl
    case hQz306 => exact fun _ _ _ h => h
    case hyz306 => exact Or.inl ⟨by rfl, by intro w hSw; (try dsimp only at hSw); go_simp; with_reducible rfl⟩
    try simp only [Act.put, List.setIfInBounds_toArray, List.set_cons_zero, List.set_cons_succ]
    refine wpAnyH_take (i := 12) (oi := ?oiz307) (v := ?vz307) ?hiz307 (by kernel_rfl) (by kernel_rfl) (by kernel_rfl) ?hQz307 ?hyz307 (by assumption) ?restz307
    case hiz307 => simp only [List.getElem?_toArray, List.getElem?_cons_zero, List.getElem?_cons_succ]; rfl
    case hQz307 => exact fun _ _ _ h => h
    case hyz307 => exact Or.inl ⟨by rfl, by intro w hSw; (try dsimp only at hSw); go_simp; with_reducible rfl⟩
    try simp only [Act.put, List.setIfInBounds_toArray, List.set_cons_zero, List.set_cons_succ]
    refine wpAnyH_take (i := 13) (oi := ?oiz308) (v := ?vz308) ?hiz308 (by kernel_rfl) (by kernel_rfl) (by kernel_rfl) ?hQz308 ?hyz308 (by assumption) ?restz308
    case hiz308 => simp only [List.getElem?_toArray, List.getElem?_cons_zero, List.getElem?_cons_succ]; rfl
    case hQz308 => exact fun _ _ _ h => h
    case hyz308 => exact Or.inl ⟨by rfl, by intro w hSw; (try dsimp only at hSw); go_simp; with_reducible rfl⟩
    try simp only [Act.put, List.setIfInBounds_toArray, List.set_cons_zero, List.set_cons_succ]
    refine wpAnyH_take (i := 14) (oi := ?oiz309) (v := ?vz309) ?hiz309 (by kernel_rfl) (by kernel_rfl) (by kernel_rfl) ?hQz309 ?hyz309 (by assumption) ?restz309
    case hiz309 => simp only [List.getElem?_toArray, List.getElem?_cons_zero, List.getElem?_cons_succ]; rfl
    case hQz309 => exact fun _ _ _ h => h
    case hyz309 => exact Or.inl ⟨by rfl, by intro w hSw; (try dsimp only at hSw); go_simp; with_reducible rfl⟩
    try simp only [Act.put, List.setIfInBounds_toArray, List.set_cons_zero, List.set_cons_succ]
    refine wpAnyH_take (i := 15) (oi := ?oiz310) (v := ?vz310) ?hiz310 (by kernel_rfl) (by kernel_rfl) (by kernel_rfl) ?hQz310 ?hyz310 (by assumption) ?restz310
    case hiz310 => simp only [List.getElem?_toArray, List.getElem?_cons_zero, List.getElem?_cons_succ]; rfl
    case hQz310 => exact fun _ _ _ h => h
    case hyz310 => exact Or.inl ⟨by rfl, by intro w hSw; (try dsimp only at hSw); go_simp; with_reducible rfl⟩
    try simp only [Act.put, List.setIfInBounds_toArray, List.set_cons_zero, List.set_cons_succ]
    refine wpAnyH_take (i := 16) (oi := ?oiz311) (v := ?vz311) ?hiz311 (by kernel_rfl) (by kernel_rfl) (by kernel_rfl) ?hQz311 ?hyz311 (by assumption) ?restz311
    case hiz311 => simp only [List.getElem?_toArray, List.getElem?_cons_zero, List.getElem?_cons_succ]; rfl
    case hQz311 => exact fun _ _ _ h => h
    case hyz311 => exact Or.inl ⟨by rfl, by intro w hSw; (try dsimp only at hSw); go_simp; with_reducible rfl⟩
    try simp only [Act.put, List.setIfInBounds_toArray, List.set_cons_zero, List.set_cons_succ]
    refine wpAnyH_take (i := 17) (oi := ?oiz312) (v := ?vz312) ?hiz312 (by kernel_rfl) (by kernel_rfl) (by kernel_rfl) ?hQz312 ?hyz312 (by assumption) ?restz312
    case hiz312 => simp only [List.getElem?_toArray, List.getElem?_cons_zero, List.getElem?_cons_succ]; rfl
    case hQz312 => exact fun _ _ _ h => h
    case hyz312 => exact Or.inl ⟨by rfl, by intro w hSw; (try dsimp only at hSw); go_simp; with_reducible rfl⟩
    try simp only [Act.put, List.setIfInBounds_toArray, List.set_cons_zero, List.set_cons_succ]
    refine wpAnyH_ready (rs := [18]) (by kernel_rfl) (by simp) (AllReadyH.cons (o := ?oy31318) ?hy31318 (fun K hK => ?sy31318) AllReadyH.nil)
    case hy31318 => simp only [List.getElem?_toArray, List.getElem?_cons_zero, List.getElem?_cons_succ]; rfl
    go_simp
    refine (hls _ (H.out.ext (by decide) hHeld) (H'.out.ext (by decide) hHeld)).mono ?_
    rintro e w1 ⟨rfl, hx⟩
    have hH2 := hHeld.trans hx
    refine hK.out _ _ hH2 (fun _ => ?_)
    clear hHeld hK K
    have hHeld := hH2
    clear hH2
    try simp only [Act.put, List.setIfInBounds_toArray, List.set_cons_zero, List.set_cons_succ]
    refine wpAnyH_take (i := 19) (oi := ?oiz314) (v := ?vz314) ?hiz314 (by kernel_rfl) (by kernel_rfl) (by kernel_rfl) ?hQz314 ?hyz314 (by assumption) ?restz314
    case hiz314 => simp only [List.getElem?_toArray, List.getElem?_cons_zero, List.getElem?_cons_succ]; rfl
    case hQz314 => exact fun _ _ _ h => h
    case hyz314 => exact Or.inl ⟨by rfl, by intro w hSw; (try dsimp only at hSw); go_simp; with_reducible rfl⟩
    try simp only [Act.put, List.setIfInBounds_toArray, List.set_cons_zero, List.set_cons_succ]
    refine wpAnyH_take (i := 20) (oi := ?oiz315) (v := ?vz315) ?hiz315 (by kernel_rfl) (by kernel_rfl) (by kernel_rfl) ?hQz315 ?hyz315 (by assumption) ?restz315
    case hiz315 => simp only [List.getElem?_toArray, List.getElem?_cons_zero, List.getElem?_cons_succ]; rfl
    case hQz315 => exact fun _ _ _ h => h
    case hyz315 => exact Or.inl ⟨by rfl, by intro w hSw; (try dsimp only at hSw); go_simp; with_reducible rfl⟩
    try simp only [Act.put, List.setIfInBounds_toArray, List.set_cons_zero, List.set_cons_succ]
    refine wpAnyH_take (i := 21) (oi := ?oiz316) (v := ?vz316) ?hiz316 (by kernel_rfl) (by kernel_rfl) (by kernel_rfl) ?hQz316 ?hyz316 (by assumption) ?restz316
    case hiz316 => simp only [List.getElem?_toArray, List.getElem?_cons_zero, List.getElem?_cons_succ]; rfl
    case hQz316 => exact fun _ _ _ h => h
    case hyz316 => exact Or.inl ⟨by rfl, by intro w hSw; (try dsimp only at hSw); go_simp; with_reducible rfl⟩
    try simp only [Act.put, List.setIfInBounds_toArray, List.set_cons_zero, List.set_cons_succ]
    refine wpAnyH_take (i := 22) (oi := ?oiz317) (v := ?vz317) ?hiz317 (by kernel_rfl) (by kernel_rfl) (by kernel_rfl) ?hQz317 ?hyz317 (by assumption) ?restz317
    case hiz317 => simp only [List.getElem?_toArray, List.getElem?_cons_zero, List.getElem?_cons_succ]; rfl
    case hQz317 => exact fun _ _ _ h => h
    case hyz317 => exact Or.inl ⟨by rfl, by intro w hSw; (try dsimp only at hSw); go_simp; with_reducible rfl⟩
    try simp only [Act.put, List.setIfInBounds_toArray, List.set_cons_zero, List.set_cons_succ]
    refine wpAnyH_take (i := 23) (oi := ?oiz318) (v := ?vz318) ?hiz318 (by kernel_rfl) (by kernel_rfl) (by kernel_rfl) ?hQz318 ?hyz318 (by assumption) ?restz318
    case hiz318 => simp only [List.getElem?_toArray, List.getElem?_cons_zero, List.getElem?_cons_succ]; rfl
    case hQz318 => exact fun _ _ _ h => h
    case hyz318 => exact Or.inl ⟨by rfl, by intro w hSw; (try dsimp only at hSw); go_simp; with_reducible rfl⟩
    try simp only [Act.put, List.setIfInBounds_toArray, List.set_cons_zero, List.set_cons_succ]
    refine wpAnyH_take (i := 24) (oi := ?oiz319) (v := ?vz319) ?hiz319 (by kernel_rfl) (by kernel_rfl) (by kernel_rfl) ?hQz319 ?hyz319 (by assumption) ?restz319
    case hiz319 => simp only [List.getElem?_toArray, List.getElem?_cons_zero, List.getElem?_cons_succ]; rfl
    case hQz319 => exact fun _ _ _ h => h
    case hyz319 => exact Or.inl ⟨by rfl, by intro w hSw; (try dsimp only at hSw); go_simp; with_reducible rfl⟩
    try simp only [Act.put, List.setIfInBounds_toArray, List.set_cons_zero, List.set_cons_succ]
    refine wpAnyH_take (i := 25) (oi := ?oiz320) (v := ?vz320) ?hiz320 (by kernel_rfl) (by kernel_rfl) (by kernel_rfl) ?hQz320 ?hyz320 (by assumption) ?restz320
    case hiz320 => simp only [List.getElem?_toArray, List.getElem?_cons_zero, List.getElem?_cons_succ]; rfl
    case hQz320 => exact fun _ _ _ h => h
    case hyz320 => exact Or.inl ⟨by rfl, by intro w hSw; (try dsimp only at hSw); go_simp; with_reducible rfl⟩
    try simp only [Act.put, List.setIfInBounds_toArray, List.set_cons_zero, List.set_cons_succ]
    refine wpAnyH_take (i := 26) (oi := ?oiz321) (v := ?vz321) ?hiz321 (by kernel_rfl) (by kernel_rfl) (by kernel_rfl) ?hQz321 ?hyz321 (by assumption) ?restz321
    case hiz321 => simp only [List.getElem?_toArray, List.getElem?_cons_zero, List.getElem?_cons_succ]; rfl
    case hQz321 => exact fun _ _ _ h => h
    case hyz321 => exact Or.inl ⟨by rfl, by intro w hSw; (try dsimp only at hSw); go_simp; with_reducible rfl⟩
    try simp only [Act.put, List.setIfInBounds_toArray, List.set_cons_zero, List.set_cons_succ]
    refine wpAnyH_take (i := 27) (oi := ?oiz322) (v := ?vz322) ?hiz322 (by kernel_rfl) (by kernel_rfl) (by kernel_rfl) ?hQz322 ?hyz322 (by assumption) ?restz322
    case hiz322 => simp only [List.getElem?_toArray, List.getElem?_cons_zero, List.getElem?_cons_succ]; rfl
    case hQz322 => exact fun _ _ _ h => h
    case hyz322 => exact Or.inl ⟨by rfl, by intro w hSw; (try dsimp only at hSw); go_simp; with_reducible rfl⟩
    try simp only [Act.put, List.setIfInBounds_toArray, List.set_cons_zero, List.set_cons_succ]
    refine wpAnyH_take (i := 28) (oi := ?oiz323) (v := ?vz323) ?hiz323 (by kernel_rfl) (by kernel_rfl) (by kernel_rfl) ?hQz323 ?hyz323 (by assumption) ?restz323
    case hiz323 => simp only [List.getElem?_toArray, List.getElem?_cons_zero, List.getElem?_cons_succ]; rfl
    case hQz323 => exact fun _ _ _ h => h
    case hyz323 => exact Or.inl ⟨by rfl, by intro w hSw; (try dsimp only at hSw); go_simp; with_reducible rfl⟩
    try simp only [Act.put, List.setIfInBounds_toArray, List.set_cons_zero, List.set_cons_succ]
    refine wpAnyH_take (i := 29) (oi := ?oiz324) (v := ?vz324) ?hiz324 (by kernel_rfl) (by kernel_rfl) (by kernel_rfl) ?hQz324 ?hyz324 (by assumption) ?restz324
    case hiz324 => simp only [List.getElem?_toArray, List.getElem?_cons_zero, List.getElem?_cons_succ]; rfl
    case hQz324 => exact fun _ _ _ h => h
    case hyz324 => exact Or.inl ⟨by rfl, by intro w hSw; (try dsimp only at hSw); go_simp; with_reducible rfl⟩
    try simp only [Act.put, List.setIfInBounds_toArray, List.set_cons_zero, List.set_cons_succ]
    refine wpAnyH_take (i := 30) (oi := ?oiz325) (v := ?vz325) ?hiz325 (by kernel_rfl) (by kernel_rfl) (by kernel_rfl) ?hQz325 ?hyz325 (by assumption) ?restz325
    case hiz325 => simp only [List.getElem?_toArray, List.getElem?_cons_zero, List.getElem?_cons_succ]; rfl
    case hQz325 => exact fun _ _ _ h => h
    case hyz325 => exact Or.inl ⟨by rfl, by intro w hSw; (try dsimp only at hSw); go_simp; with_reducible rfl⟩
    try simp only [Act.put, List.setIfInBounds_toArray, List.set_cons_zero, List.set_cons_succ]
    refine wpAnyH_take (i := 31) (oi := ?oiz326) (v := ?vz326) ?hiz326 (by kernel_rfl) (by kernel_rfl) (by kernel_rfl) ?hQz326 ?hyz326 (by assumption) ?restz326
    case hiz326 => simp only [List.getElem?_toArray, List.getElem?_cons_zero, List.getElem?_cons_succ]; rfl
    case hQz326 => exact fun _ _ _ h => h
    case hyz326 => exact Or.inl ⟨by rfl, by intro w hSw; (try dsimp only at hSw); go_simp; with_reducible rfl⟩
    try simp only [Act.put, List.setIfInBounds_toArray, List.set_cons_zero, List.set_cons_succ]
    refine wpAnyH_take (i := 32) (oi := ?oiz327) (v := undef) ?hiz327 (by kernel_rfl) (by kernel_rfl) (by kernel_rfl) ?hQz327 ?hyz327 (by assumption) ?restz327
    case hiz327 => simp only [List.getElem?_toArray, List.getElem?_cons_zero, List.getElem?_cons_succ]; rfl
    case hQz327 => exact fun _ _ _ h => h
    case hyz327 => exact Or.inr ⟨by rfl, rfl⟩
    try simp only [Act.put, List.setIfInBounds_toArray, List.set_cons_zero, List.set_cons_succ]
    refine wpAnyH_take (i := 33) (oi := ?oiz328) (v := undef) ?hiz328 (by kernel_rfl) (by kernel_rfl) (by kernel_rfl) ?hQz328 ?hyz328 (by assumption) ?restz328
    case hiz328 => simp only [List.getElem?_toArray, List.getElem?_cons_zero, List.getElem?_cons_succ]; rfl
    case hQz328 => exact fun _ _ _ h => h
    case hyz328 => exact Or.inr ⟨by rfl, rfl⟩
    try simp only [Act.put, List.setIfInBounds_toArray, List.set_cons_zero, List.set_cons_succ]
    refine wpAnyH_take (i := 34) (oi := ?oiz329) (v := undef) ?hiz329 (by kernel_rfl) (by kernel_rfl) (by kernel_rfl) ?hQz329 ?hyz329 (by assumption) ?restz329
    case hiz329 => simp only [List.getElem?_toArray, List.getElem?_cons_zero, List.getElem?_cons_succ]; rfl
    case hQz329 => exact fun _ _ _ h => h
    case hyz329 => exact Or.inr ⟨by rfl, rfl⟩
    try simp only [Act.put, List.setIfInBounds_toArray, List.set_cons_zero, List.set_cons_succ]
    refine wpAnyH_take (i := 35) (oi := ?oiz330) (v := undef) ?hiz330 (by kernel_rfl) (by kernel_rfl) (by kernel_rfl) ?hQz330 ?hyz330 (by assumption) ?restz330
    case hiz330 => simp only [List.getElem?_toArray, List.getElem?_cons_zero, List.getElem?_cons_succ]; rfl
    case hQz330 => exact fun _ _ _ h => h
    case hyz330 => exact Or.inr ⟨by rfl, rfl⟩
    try simp only [Act.put, List.setIfInBounds_toArray, List.set_cons_zero, List.set_cons_succ]
    refine wpAnyH_take (i := 36) (oi := ?oiz331) (v := undef) ?hiz331 (by kernel_rfl) (by kernel_rfl) (by kernel_rfl) ?hQz331 ?hyz331 (by assumption) ?restz331
    case hiz331 => simp only [List.getElem?_toArray, List.getElem?_cons_zero, List.getElem?_cons_succ]; rfl
    case hQz331 => exact fun _ _ _ h => h
    case hyz331 => exact Or.inr ⟨by rfl, rfl⟩
    try simp only [Act.put, List.setIfInBounds_toArray, List.set_cons_zero, List.set_cons_succ]
    refine wpAnyH_take (i := 37) (oi := ?oiz332) (v := undef) ?hiz332 (by kernel_rfl) (by kernel_rfl) (by kernel_rfl) ?hQz332 ?hyz332 (by assumption) ?restz332
    case hiz332 => simp only [List.getElem?_toArray, List.getElem?_cons_zero, List.getElem?_cons_succ]; rfl
    case hQz332 => exact fun _ _ _ h => h
    case hyz332 => exact Or.inr ⟨by rfl, rfl⟩
    try simp only [Act.put, List.setIfInBounds_toArray, List.set_cons_zero, List.set_cons_succ]
    refine wpAnyH_take (i := 38) (oi := ?oiz333) (v := undef) ?hiz333 (by kernel_rfl) (by kernel_rfl) (by kernel_rfl) ?hQz333 ?hyz333 (by assumption) ?restz333
    case hiz333 => simp only [List.getElem?_toArray, List.getElem?_cons_zero, List.getElem?_cons_succ]; rfl
    case hQz333 => exact fun _ _ _ h => h
    case hyz333 => exact Or.inr ⟨by rfl, rfl⟩
    try simp only [Act.put, List.setIfInBounds_toArray, List.set_cons_zero, List.set_cons_succ]
    refine wpAnyH_take (i := 39) (oi := ?oiz334) (v := undef) ?hiz334 (by kernel_rfl) (by kernel_rfl) (by kernel_rfl) ?hQz334 ?hyz334 (by assumption) ?restz334
    case hiz334 => simp only [List.getElem?_toArray, List.getElem?_cons_zero, List.getElem?_cons_succ]; rfl
    case hQz334 => exact fun _ _ _ h => h
    case hyz334 => exact Or.inr ⟨by rfl, rfl⟩
    try simp only [Act.put, List.setIfInBounds_toArray, List.set_cons_zero, List.set_cons_succ]
    refine wpAnyH_take (i := 40) (oi := ?oiz335) (v := undef) ?hiz335 (by kernel_rfl) (by kernel_rfl) (by kernel_rfl) ?hQz335 ?hyz335 (by assumption) ?restz335
    case hiz335 => simp only [List.getElem?_toArray, List.getElem?_cons_zero, List.getElem?_cons_succ]; rfl
    case hQz335 => exact fun _ _ _ h => h
    case hyz335 => exact Or.inr ⟨by rfl, rfl⟩
    try simp only [Act.put, List.setIfInBounds_toArray, List.set_cons_zero, List.set_cons_succ]
    refine wpAnyH_take (i := 41) (oi := ?oiz336) (v := ?vz336) ?hiz336 (by kernel_rfl) (by kernel_rfl) (by kernel_rfl) ?hQz336 ?hyz336 (by assumption) ?restz336
    case hiz336 => simp only [List.getElem?_toArray, List.getElem?_cons_zero, List.getElem?_cons_succ]; rfl
    case hQz336 => exact fun _ _ _ h => h
    case hyz336 => exact Or.inl ⟨by rfl, by intro w hSw; (try dsimp only at hSw); go_simp; with_reducible rfl⟩
    try simp only [Act.put, List.setIfInBounds_toArray, List.set_cons_zero, List.set_cons_succ]
    refine wpAnyH_take (i := 42) (oi := ?oiz337) (v := ?vz337) ?hiz337 (by kernel_rfl) (by kernel_rfl) (by kernel_rfl) ?hQz337 ?hyz337 (by assumption) ?restz337
    case hiz337 => simp only [List.getElem?_toArray, List.getElem?_cons_zero, List.getElem?_cons_succ]; rfl
    case hQz337 => exact fun _ _ _ h => h
    case hyz337 => exact Or.inl ⟨by rfl, by intro w hSw; (try dsimp only at hSw); go_simp; with_reducible rfl⟩
    try simp only [Act.put, List.setIfInBounds_toArray, List.set_cons_zero, List.set_cons_succ]
    refine wpAnyH_done (by kernel_rfl) ?_ _
    have XW := Lib.hid hHeld
    clear hHeld
    go_wp2
    go_ret
    exact ⟨by rw [HE.out, E3.out, Bool.false_and, Bool.and_false, Bool.and_false]; rfl, XW.out⟩
  | true =>
    have E3 := Lib.hid e3
    go_enter Try.func62, Try.ntmps62
    go_wp2_with fail
    refine wp_region_held_drew (S := fun W => Ext w W) (by kernel_rfl) (Ext.refl _).drew (fun hHeld => ?_)
    refine wpAnyH_take (i := 0) (oi := ?oiz338) (v := ?vz338) ?hiz338 (by kernel_rfl) (by kernel_rfl) (by kernel_rfl) ?hQz338 ?hyz338 (by assumption) ?restz338
    case hiz338 => simp only [List.getElem?_toArray, List.getElem?_cons_zero, List.getElem?_cons_succ]; rfl
    case hQz338 => exact fun _ _ _ h => h
    case hyz338 => exact Or.inl ⟨by rfl, by intro w hSw; (try dsimp only at hSw); go_simp; with_reducible rfl⟩
    try simp only [Act.put, List.setIfInBounds_toArray, List.set_cons_zero, List.set_cons_succ]
    refine wpAnyH_take (i := 1) (oi := ?oiz339) (v := ?vz339) ?hiz339 (by kernel_rfl) (by kernel_rfl) (by kernel_rfl) ?hQz339 ?hyz339 (by assumption) ?restz339
    case hiz339 => simp only [List.getElem?_toArray, List.getElem?_cons_zero, List.getElem?_cons_succ]; rfl
    case hQz339 => exact fun _ _ _ h => h
    case hyz339 => exact Or.inl ⟨by rfl, by intro w hSw; (try dsimp only at hSw); go_simp; with_reducible rfl⟩
    try simp only [Act.put, List.setIfInBounds_toArray, List.set_cons_zero, List.set_cons_succ]
    refine wpAnyH_take (i := 2) (oi := ?oiz340) (v := ?vz340) ?hiz340 (by kernel_rfl) (by kernel_rfl) (by kernel_rfl) ?hQz340 ?hyz340 (by assumption) ?restz340
    case hiz340 => simp only [List.getElem?_toArray, List.getElem?_cons_zero, List.getElem?_cons_succ]; rfl
    case hQz340 => exact fun _ _ _ h => h
    case hyz340 => exact Or.inl ⟨by rfl, by intro w hSw; (try dsimp only at hSw); go_simp; with_reducible rfl⟩
    try simp only [Act.put, List.setIfInBounds_toArray, List.set_cons_zero, List.set_cons_succ]
    refine wpAnyH_take (i := 3) (oi := ?oiz341) (v := (.agg (numsA .u8 x.root))) ?hiz341 (by kernel_rfl) (by kernel_rfl) (by kernel_rfl) ?hQz341 ?hyz341 (by assumption) ?restz341
    case hiz341 => simp only [List.getElem?_toArray, List.getElem?_cons_zero, List.getElem?_cons_succ]; rfl
    case hQz341 => exact fun _ _ _ h => h
    case hyz341 => refine yields_loadR g o (nums .u8 x.root) (by rw [HN.out]; exact aggKey) HD.out ?_ _ rfl rfl; rfl
    try simp only [Act.put, List.setIfInBounds_toArray, List.set_cons_zero, List.set_cons_succ]
    refine wpAnyH_take (i := 4) (oi := ?oiz342) (v := ?vz342) ?hiz342 (by kernel_rfl) (by kernel_rfl) (by kernel_rfl) ?hQz342 ?hyz342 (by assumption) ?restz342
    case hiz342 => simp only [List.getElem?_toArray, List.getElem?_cons_zero, List.getElem?_cons_succ]; rfl
    case hQz342 => exact fun _ _ _ h => h
    case hyz342 => exact Or.inl ⟨by rfl, by intro w hSw; (try dsimp only at hSw); go_simp; with_reducible rfl⟩
    try simp only [Act.put, List.setIfInBounds_toArray, List.set_cons_zero, List.set_cons_succ]
    refine wpAnyH_take (i := 5) (oi := ?oiz343) (v := ?vz343) ?hiz343 (by kernel_rfl) (by kernel_rfl) (by kernel_rfl) ?hQz343 ?hyz343 (by assumption) ?restz343
    case hiz343 => simp only [List.getElem?_toArray, List.getElem?_cons_zero, List.getElem?_cons_succ]; rfl
    case hQz343 => exact fun _ _ _ h => h
    case hyz343 => exact Or.inl ⟨by rfl, by intro w hSw; (try dsimp only at hSw); go_simp; with_reducible rfl⟩
    try simp only [Act.put, List.setIfInBounds_toArray, List.set_cons_zero, List.set_cons_succ]
    refine wpAnyH_take (i := 6) (oi := ?oiz344) (v := ?vz344) ?hiz344 (by kernel_rfl) (by kernel_rfl) (by kernel_rfl) ?hQz344 ?hyz344 (by assumption) ?restz344
    case hiz344 => simp only [List.getElem?_toArray, List.getElem?_cons_zero, List.getElem?_cons_succ]; rfl
    case hQz344 => exact fun _ _ _ h => h
    case hyz344 => exact Or.inl ⟨by rfl, by intro w hSw; (try dsimp only at hSw); go_simp; with_reducible rfl⟩
    try simp only [Act.put, List.setIfInBounds_toArray, List.set_cons_zero, List.set_cons_succ]
    refine wpAnyH_take (i := 7) (oi := ?oiz345) (v := (.agg (numsA .u8 y.root))) ?hiz345 (by kernel_rfl) (by kernel_rfl) (by kernel_rfl) ?hQz345 ?hyz345 (by assumption) ?restz345
    case hiz345 => simp only [List.getElem?_toArray, List.getElem?_cons_zero, List.getElem?_cons_succ]; rfl
    case hQz345 => exact fun _ _ _ h => h
    case hyz345 => refine yields_loadR g2 o2 (nums .u8 y.root) (by rw [HN'.out]; exact aggKey) HD'.out ?_ _ rfl rfl; rfl
    try simp only [Act.put, List.setIfInBounds_toArray, List.set_cons_zero, List.set_cons_succ]
    refine wpAnyH_take (i := 8) (oi := ?oiz346) (v := ?vz346) ?hiz346 (by kernel_rfl) (by kernel_rfl) (by kernel_rfl) ?hQz346 ?hyz346 (by assumption) ?restz346
    case hiz346 => simp only [List.getElem?_toArray, List.getElem?_cons_zero, List.getElem?_cons_succ]; rfl
    case hQz346 => exact fun _ _ _ h => h
    case hyz346 => exact Or.inl ⟨by rfl, by intro w hSw; (try dsimp only at hSw); go_simp; with_reducible rfl⟩
    try simp only [Act.put, List.setIfInBounds_toArray, List.set_cons_zero, List.set_cons_succ]
    refine wpAnyH_take (i := 9) (oi := ?oiz347) (v := ?vz347) ?hiz347 (by kernel_rfl) (by kernel_rfl) (by kernel_rfl) ?hQz347 ?hyz347 (by assumption) ?restz347
    case hiz347 => simp only [List.getElem?_toArray, List.getElem?_cons_zero, List.getElem?_cons_succ]; rfl
    case hQz347 => exact fun _ _ _ h => h
    case hyz347 => exact Or.inl ⟨by rfl, by intro w hSw; (try dsimp only at hSw); go_simp; with_reducible rfl⟩
    try simp only [Act.put, List.setIfInBounds_toArray, List.set_cons_zero, List.set_cons_succ]
    refine wpAnyH_take (i := 10) (oi := ?oiz348) (v := ?vz348) ?hiz348 (by kernel_rfl) (by kernel_rfl) (by kernel_rfl) ?hQz348 ?hyz348 (by assumption) ?restz348
    case hiz348 => simp only [List.getElem?_toArray, List.getElem?_cons_zero, List.getElem?_cons_succ]; rfl
    case hQz348 => exact fun _ _ _ h => h
    case hyz348 => exact Or.inl ⟨by rfl, by intro w hSw; (try dsimp only at hSw); go_simp; with_reducible rfl⟩
    try simp only [Act.put, List.setIfInBounds_toArray, List.set_cons_zero, List.set_cons_succ]
    refine wpAnyH_take (i := 11) (oi := ?oiz349) (v := ?vz349) ?hiz349 (by kernel_rfl) (by kernel_rfl) (by kernel_rfl) ?hQz349 ?hyz349 (by assumption) ?restz349
    case hiz349 => simp only [List.getElem?_toArray, List.getElem?_cons_zero, List.getElem?_cons_succ]; rfl
    case hQz349 => exact fun _ _ _ h => h
    case hyz349 => exact Or.inl ⟨by rfl, by intro w hSw; (try dsimp only at hSw); go_simp; with_reducible rfl⟩
    try simp only [Act.put, List.setIfInBounds_toArray, List.set_cons_zero, List.set_cons_succ]
    refine wpAnyH_take (i := 12) (oi := ?oiz350) (v := ?vz350) ?hiz350 (by kernel_rfl) (by kernel_rfl) (by kernel_rfl) ?hQz350 ?hyz350 (by assumption) ?restz350
    case hiz350 => simp only [List.getElem?_toArray, List.getElem?_cons_zero, List.getElem?_cons_succ]; rfl
    case hQz350 => exact fun _ _ _ h => h
    case hyz350 => exact Or.inl ⟨by rfl, by intro w hSw; (try dsimp only at hSw); go_simp; with_reducible rfl⟩
    try simp only [Act.put, List.setIfInBounds_toArray, List.set_cons_zero, List.set_cons_succ]
    refine wpAnyH_take (i := 13) (oi := ?oiz351) (v := ?vz351) ?hiz351 (by kernel_rfl) (by kernel_rfl) (by kernel_rfl) ?hQz351 ?hyz351 (by assumption) ?restz351
    case hiz351 => simp only [List.getElem?_toArray, List.getElem?_cons_zero, List.getElem?_cons_succ]; rfl
    case hQz351 => exact fun _ _ _ h => h
    case hyz351 => exact Or.inl ⟨by rfl, by intro w hSw; (try dsimp only at hSw); go_simp; with_reducible rfl⟩
    try simp only [Act.put, List.setIfInBounds_toArray, List.set_cons_zero, List.set_cons_succ]
    refine wpAnyH_take (i := 14) (oi := ?oiz352) (v := ?vz352) ?hiz352 (by kernel_rfl) (by kernel_rfl) (by kernel_rfl) ?hQz352 ?hyz352 (by assumption) ?restz352
    case hiz352 => simp only [List.getElem?_toArray, List.getElem?_cons_zero, List.getElem?_cons_succ]; rfl
    case hQz352 => exact fun _ _ _ h => h
    case hyz352 => exact Or.inl ⟨by rfl, by intro w hSw; (try dsimp only at hSw); go_simp; with_reducible rfl⟩
    try simp only [Act.put, List.setIfInBounds_toArray, List.set_cons_zero, List.set_cons_succ]
    refine wpAnyH_take (i := 15) (oi := ?oiz353) (v := ?vz353) ?hiz353 (by kernel_rfl) (by kernel_rfl) (by kernel_rfl) ?hQz353 ?hyz353 (by assumption) ?restz353
    case hiz353 => simp only [List.getElem?_toArray, List.getElem?_cons_zero, List.getElem?_cons_succ]; rfl
    case hQz353 => exact fun _ _ _ h => h
    case hyz353 => exact Or.inl ⟨by rfl, by intro w hSw; (try dsimp only at hSw); go_simp; with_reducible rfl⟩
    try simp only [Act.put, List.setIfInBounds_toArray, List.set_cons_zero, List.set_cons_succ]
    refine wpAnyH_take (i := 16) (oi := ?oiz354) (v := ?vz354) ?hiz354 (by kernel_rfl) (by kernel_rfl) (by kernel_rfl) ?hQz354 ?hyz354 (by assumption) ?restz354
    case hiz354 => simp only [List.getElem?_toArray, List.getElem?_cons_zero, List.getElem?_cons_succ]; rfl
    case hQz354 => exact fun _ _ _ h => h
    case hyz354 => exact Or.inl ⟨by rfl, by intro w hSw; (try dsimp only at hSw); go_simp; with_reducible rfl⟩
    try simp only [Act.put, List.setIfInBounds_toArray, List.set_cons_zero, List.set_cons_succ]
    refine wpAnyH_take (i := 17) (oi := ?oiz355) (v := ?vz355) ?hiz355 (by kernel_rfl) (by kernel_rfl) (by kernel_rfl) ?hQz355 ?hyz355 (by assumption) ?restz355
    case hiz355 => simp only [List.getElem?_toArray, List.getElem?_cons_zero, List.getElem?_cons_succ]; rfl
    case hQz355 => exact fun _ _ _ h => h
    case hyz355 => exact Or.inl ⟨by rfl, by intro w hSw; (try dsimp only at hSw); go_simp; with_reducible rfl⟩
    try simp only [Act.put, List.setIfInBounds_toArray, List.set_cons_zero, List.set_cons_succ]
    refine wpAnyH_ready (rs := [18]) (by kernel_rfl) (by simp) (AllReadyH.cons (o := ?oy35618) ?hy35618 (fun K hK => ?sy35618) AllReadyH.nil)
    case hy35618 => simp only [List.getElem?_toArray, List.getElem?_cons_zero, List.getElem?_cons_succ]; rfl
    go_simp
    refine (hls _ (H.out.ext (by decide) hHeld) (H'.out.ext (by decide) hHeld)).mono ?_
    rintro e w1 ⟨rfl, hx⟩
    have hH2 := hHeld.trans hx
    refine hK.out _ _ hH2 (fun _ => ?_)
    clear hHeld hK K
    have hHeld := hH2
    clear hH2
    try simp only [Act.put, List.setIfInBounds_toArray, List.set_cons_zero, List.set_cons_succ]
    refine wpAnyH_take (i := 19) (oi := ?oiz357) (v := ?vz357) ?hiz357 (by kernel_rfl) (by kernel_rfl) (by kernel_rfl) ?hQz357 ?hyz357 (by assumption) ?restz357
    case hiz357 => simp only [List.getElem?_toArray, List.getElem?_cons_zero, List.getElem?_cons_succ]; rfl
    case hQz357 => exact fun _ _ _ h => h
    case hyz357 => exact Or.inl ⟨by rfl, by intro w hSw; (try dsimp only at hSw); go_simp; with_reducible rfl⟩
    try simp only [Act.put, List.setIfInBounds_toArray, List.set_cons_zero, List.set_cons_succ]
    refine wpAnyH_take (i := 20) (oi := ?oiz358) (v := ?vz358) ?hiz358 (by kernel_rfl) (by kernel_rfl) (by kernel_rfl) ?hQz358 ?hyz358 (by assumption) ?restz358
    case hiz358 => simp only [List.getElem?_toArray, List.getElem?_cons_zero, List.getElem?_cons_succ]; rfl
    case hQz358 => exact fun _ _ _ h => h
    case hyz358 => exact Or.inl ⟨by rfl, by intro w hSw; (try dsimp only at hSw); go_simp; with_reducible rfl⟩
    try simp only [Act.put, List.setIfInBounds_toArray, List.set_cons_zero, List.set_cons_succ]
    refine wpAnyH_take (i := 21) (oi := ?oiz359) (v := ?vz359) ?hiz359 (by kernel_rfl) (by kernel_rfl) (by kernel_rfl) ?hQz359 ?hyz359 (by assumption) ?restz359
    case hiz359 => simp only [List.getElem?_toArray, List.getElem?_cons_zero, List.getElem?_cons_succ]; rfl
    case hQz359 => exact fun _ _ _ h => h
    case hyz359 => exact Or.inl ⟨by rfl, by intro w hSw; (try dsimp only at hSw); go_simp; with_reducible rfl⟩
    try simp only [Act.put, List.setIfInBounds_toArray, List.set_cons_zero, List.set_cons_succ]
    refine wpAnyH_take (i := 22) (oi := ?oiz360) (v := ?vz360) ?hiz360 (by kernel_rfl) (by kernel_rfl) (by kernel_rfl) ?hQz360 ?hyz360 (by assumption) ?restz360
    case hiz360 => simp only [List.getElem?_toArray, List.getElem?_cons_zero, List.getElem?_cons_succ]; rfl
    case hQz360 => exact fun _ _ _ h => h
    case hyz360 => exact Or.inl ⟨by rfl, by intro w hSw; (try dsimp only at hSw); go_simp; with_reducible rfl⟩
    try simp only [Act.put, List.setIfInBounds_toArray, List.set_cons_zero, List.set_cons_succ]
    refine wpAnyH_take (i := 23) (oi := ?oiz361) (v := ?vz361) ?hiz361 (by kernel_rfl) (by kernel_rfl) (by kernel_rfl) ?hQz361 ?hyz361 (by assumption) ?restz361
    case hiz361 => simp only [List.getElem?_toArray, List.getElem?_cons_zero, List.getElem?_cons_succ]; rfl
    case hQz361 => exact fun _ _ _ h => h
    case hyz361 => exact Or.inl ⟨by rfl, by intro w hSw; (try dsimp only at hSw); go_simp; with_reducible rfl⟩
    try simp only [Act.put, List.setIfInBounds_toArray, List.set_cons_zero, List.set_cons_succ]
    refine wpAnyH_take (i := 24) (oi := ?oiz362) (v := ?vz362) ?hiz362 (by kernel_rfl) (by kernel_rfl) (by kernel_rfl) ?hQz362 ?hyz362 (by assumption) ?restz362
    case hiz362 => simp only [List.getElem?_toArray, List.getElem?_cons_zero, List.getElem?_cons_succ]; rfl
    case hQz362 => exact fun _ _ _ h => h
    case hyz362 => exact Or.inl ⟨by rfl, by intro w hSw; (try dsimp only at hSw); go_simp; with_reducible rfl⟩
    try simp only [Act.put, List.setIfInBounds_toArray, List.set_cons_zero, List.set_cons_succ]
    refine wpAnyH_take (i := 25) (oi := ?oiz363) (v := ?vz363) ?hiz363 (by kernel_rfl) (by kernel_rfl) (by kernel_rfl) ?hQz363 ?hyz363 (by assumption) ?restz363
    case hiz363 => simp only [List.getElem?_toArray, List.getElem?_cons_zero, List.getElem?_cons_succ]; rfl
    case hQz363 => exact fun _ _ _ h => h
    case hyz363 => exact Or.inl ⟨by rfl, by intro w hSw; (try dsimp only at hSw); go_simp; with_reducible rfl⟩
    try simp only [Act.put, List.setIfInBounds_toArray, List.set_cons_zero, List.set_cons_succ]
    refine wpAnyH_take (i := 26) (oi := ?oiz364) (v := ?vz364) ?hiz364 (by kernel_rfl) (by kernel_rfl) (by kernel_rfl) ?hQz364 ?hyz364 (by assumption) ?restz364
    case hiz364 => simp only [List.getElem?_toArray, List.getElem?_cons_zero, List.getElem?_cons_succ]; rfl
    case hQz364 => exact fun _ _ _ h => h
    case hyz364 => exact Or.inl ⟨by rfl, by intro w hSw; (try dsimp only at hSw); go_simp; with_reducible rfl⟩
    try simp only [Act.put, List.setIfInBounds_toArray, List.set_cons_zero, List.set_cons_succ]
    refine wpAnyH_take (i := 27) (oi := ?oiz365) (v := ?vz365) ?hiz365 (by kernel_rfl) (by kernel_rfl) (by kernel_rfl) ?hQz365 ?hyz365 (by assumption) ?restz365
    case hiz365 => simp only [List.getElem?_toArray, List.getElem?_cons_zero, List.getElem?_cons_succ]; rfl
    case hQz365 => exact fun _ _ _ h => h
    case hyz365 => exact Or.inl ⟨by rfl, by intro w hSw; (try dsimp only at hSw); go_simp; with_reducible rfl⟩
    try simp only [Act.put, List.setIfInBounds_toArray, List.set_cons_zero, List.set_cons_succ]
    refine wpAnyH_take (i := 28) (oi := ?oiz366) (v := ?vz366) ?hiz366 (by kernel_rfl) (by kernel_rfl) (by kernel_rfl) ?hQz366 ?hyz366 (by assumption) ?restz366
    case hiz366 => simp only [List.getElem?_toArray, List.getElem?_cons_zero, List.getElem?_cons_succ]; rfl
    case hQz366 => exact fun _ _ _ h => h
    case hyz366 => exact Or.inl ⟨by rfl, by intro w hSw; (try dsimp only at hSw); go_simp; with_reducible rfl⟩
    try simp only [Act.put, List.setIfInBounds_toArray, List.set_cons_zero, List.set_cons_succ]
    refine wpAnyH_take (i := 29) (oi := ?oiz367) (v := ?vz367) ?hiz367 (by kernel_rfl) (by kernel_rfl) (by kernel_rfl) ?hQz367 ?hyz367 (by assumption) ?restz367
    case hiz367 => simp only [List.getElem?_toArray, List.getElem?_cons_zero, List.getElem?_cons_succ]; rfl
    case hQz367 => exact fun _ _ _ h => h
    case hyz367 => exact Or.inl ⟨by rfl, by intro w hSw; (try dsimp only at hSw); go_simp; with_reducible rfl⟩
    try simp only [Act.put, List.setIfInBounds_toArray, List.set_cons_zero, List.set_cons_succ]
    refine wpAnyH_take (i := 30) (oi := ?oiz368) (v := ?vz368) ?hiz368 (by kernel_rfl) (by kernel_rfl) (by kernel_rfl) ?hQz368 ?hyz368 (by assumption) ?restz368
    case hiz368 => simp only [List.getElem?_toArray, List.getElem?_cons_zero, List.getElem?_cons_succ]; rfl
    case hQz368 => exact fun _ _ _ h => h
    case hyz368 => exact Or.inl ⟨by rfl, by intro w hSw; (try dsimp only at hSw); go_simp; with_reducible rfl⟩
    try simp only [Act.put, List.setIfInBounds_toArray, List.set_cons_zero, List.set_cons_succ]
    refine wpAnyH_take (i := 31) (oi := ?oiz369) (v := ?vz369) ?hiz369 (by kernel_rfl) (by kernel_rfl) (by kernel_rfl) ?hQz369 ?hyz369 (by assumption) ?restz369
    case hiz369 => simp only [List.getElem?_toArray, List.getElem?_cons_zero, List.getElem?_cons_succ]; rfl
    case hQz369 => exact fun _ _ _ h => h
    case hyz369 => exact Or.inl ⟨by rfl, by intro w hSw; (try dsimp only at hSw); go_simp; with_reducible rfl⟩
    try simp only [Act.put, List.setIfInBounds_toArray, List.set_cons_zero, List.set_cons_succ]
    refine wpAnyH_take (i := 32) (oi := ?oiz370) (v := ?vz370) ?hiz370 (by kernel_rfl) (by kernel_rfl) (by kernel_rfl) ?hQz370 ?hyz370 (by assumption) ?restz370
    case hiz370 => simp only [List.getElem?_toArray, List.getElem?_cons_zero, List.getElem?_cons_succ]; rfl
    case hQz370 => exact fun _ _ _ h => h
    case hyz370 => exact Or.inl ⟨by rfl, by intro w hSw; (try dsimp only at hSw); go_simp; with_reducible rfl⟩
    try simp only [Act.put, List.setIfInBounds_toArray, List.set_cons_zero, List.set_cons_succ]
    refine wpAnyH_take (i := 33) (oi := ?oiz371) (v := ?vz371) ?hiz371 (by kernel_rfl) (by kernel_rfl) (by kernel_rfl) ?hQz371 ?hyz371 (by assumption) ?restz371
    case hiz371 => simp only [List.getElem?_toArray, List.getElem?_cons_zero, List.getElem?_cons_succ]; rfl
    case hQz371 => exact fun _ _ _ h => h
    case hyz371 => exact Or.inl ⟨by rfl, by intro w hSw; (try dsimp only at hSw); go_simp; with_reducible rfl⟩
    try simp only [Act.put, List.setIfInBounds_toArray, List.set_cons_zero, List.set_cons_succ]
    refine wpAnyH_take (i := 34) (oi := ?oiz372) (v := ?vz372) ?hiz372 (by kernel_rfl) (by kernel_rfl) (by kernel_rfl) ?hQz372 ?hyz372 (by assumption) ?restz372
    case hiz372 => simp only [List.getElem?_toArray, List.getElem?_cons_zero, List.getElem?_cons_succ]; rfl
    case hQz372 => exact fun _ _ _ h => h
    case hyz372 => exact Or.inl ⟨by rfl, by intro w hSw; (try dsimp only at hSw); go_simp; with_reducible rfl⟩
    try simp only [Act.put, List.setIfInBounds_toArray, List.set_cons_zero, List.set_cons_succ]
    refine wpAnyH_take (i := 35) (oi := ?oiz373) (v := ?vz373) ?hiz373 (by kernel_rfl) (by kernel_rfl) (by kernel_rfl) ?hQz373 ?hyz373 (by assumption) ?restz373
    case hiz373 => simp only [List.getElem?_toArray, List.getElem?_cons_zero, List.getElem?_cons_succ]; rfl
    case hQz373 => exact fun _ _ _ h => h
    case hyz373 => exact Or.inl ⟨by rfl, by intro w hSw; (try dsimp only at hSw); go_simp; with_reducible rfl⟩
    try simp only [Act.put, List.setIfInBounds_toArray, List.set_cons_zero, List.set_cons_succ]
    refine wpAnyH_take (i := 36) (oi := ?oiz374) (v := ?vz374) ?hiz374 (by kernel_rfl) (by kernel_rfl) (by kernel_rfl) ?hQz374 ?hyz374 (by assumption) ?restz374
    case hiz374 => simp only [List.getElem?_toArray, List.getElem?_cons_zero, List.getElem?_cons_succ]; rfl
    case hQz374 => exact fun _ _ _ h => h
    case hyz374 => exact Or.inl ⟨by rfl, by intro w hSw; (try dsimp only at hSw); go_simp; with_reducible rfl⟩
    try simp only [Act.put, List.setIfInBounds_toArray, List.set_cons_zero, List.set_cons_succ]
    refine wpAnyH_take (i := 37) (oi := ?oiz375) (v := ?vz375) ?hiz375 (by kernel_rfl) (by kernel_rfl) (by kernel_rfl) ?hQz375 ?hyz375 (by assumption) ?restz375
    case hiz375 => simp only [List.getElem?_toArray, List.getElem?_cons_zero, List.getElem?_cons_succ]; rfl
    case hQz375 => exact fun _ _ _ h => h
    case hyz375 => exact Or.inl ⟨by rfl, by intro w hSw; (try dsimp only at hSw); go_simp; with_reducible rfl⟩
    try simp only [Act.put, List.setIfInBounds_toArray, List.set_cons_zero, List.set_cons_succ]
    refine wpAnyH_take (i := 38) (oi := ?oiz376) (v := ?vz376) ?hiz376 (by kernel_rfl) (by kernel_rfl) (by kernel_rfl) ?hQz376 ?hyz376 (by assumption) ?restz376
    case hiz376 => simp only [List.getElem?_toArray, List.getElem?_cons_zero, List.getElem?_cons_succ]; rfl
    case hQz376 => exact fun _ _ _ h => h
    case hyz376 => exact Or.inl ⟨by rfl, by intro w hSw; (try dsimp only at hSw); go_simp; with_reducible rfl⟩
    try simp only [Act.put, List.setIfInBounds_toArray, List.set_cons_zero, List.set_cons_succ]
    refine wpAnyH_take (i := 39) (oi := ?oiz377) (v := ?vz377) ?hiz377 (by kernel_rfl) (by kernel_rfl) (by kernel_rfl) ?hQz377 ?hyz377 (by assumption) ?restz377
    case hiz377 => simp only [List.getElem?_toArray, List.getElem?_cons_zero, List.getElem?_cons_succ]; rfl
    case hQz377 => exact fun _ _ _ h => h
    case hyz377 => exact Or.inl ⟨by rfl, by intro w hSw; (try dsimp only at hSw); go_simp; with_reducible rfl⟩
    try simp only [Act.put, List.setIfInBounds_toArray, List.set_cons_zero, List.set_cons_succ]
    refine wpAnyH_take (i := 40) (oi := ?oiz378) (v := ?vz378) ?hiz378 (by kernel_rfl) (by kernel_rfl) (by kernel_rfl) ?hQz378 ?hyz378 (by assumption) ?restz378
    case hiz378 => simp only [List.getElem?_toArray, List.getElem?_cons_zero, List.getElem?_cons_succ]; rfl
    case hQz378 => exact fun _ _ _ h => h
    case hyz378 => exact Or.inl ⟨by rfl, by intro w hSw; (try dsimp only at hSw); go_simp; with_reducible rfl⟩
    try simp only [Act.put, List.setIfInBounds_toArray, List.set_cons_zero, List.set_cons_succ]
    refine wpAnyH_take (i := 41) (oi := ?oiz379) (v := ?vz379) ?hiz379 (by kernel_rfl) (by kernel_rfl) (by kernel_rfl) ?hQz379 ?hyz379 (by assumption) ?restz379
    case hiz379 => simp only [List.getElem?_toArray, List.getElem?_cons_zero, List.getElem?_cons_succ]; rfl
    case hQz379 => exact fun _ _ _ h => h
    case hyz379 => exact Or.inl ⟨by rfl, by intro w hSw; (try dsimp only at hSw); go_simp; with_reducible rfl⟩
    try simp only [Act.put, List.setIfInBounds_toArray, List.set_cons_zero, List.set_cons_succ]
    refine wpAnyH_take (i := 42) (oi := ?oiz380) (v := ?vz380) ?hiz380 (by kernel_rfl) (by kernel_rfl) (by kernel_rfl) ?hQz380 ?hyz380 (by assumption) ?restz380
    case hiz380 => simp only [List.getElem?_toArray, List.getElem?_cons_zero, List.getElem?_cons_succ]; rfl
    case hQz380 => exact fun _ _ _ h => h
    case hyz380 => exact Or.inl ⟨by rfl, by intro w hSw; (try dsimp only at hSw); go_simp; with_reducible rfl⟩
    try simp only [Act.put, List.setIfInBounds_toArray, List.set_cons_zero, List.set_cons_succ]
    refine wpAnyH_done (by kernel_rfl) ?_ _
    have XW := Lib.hid hHeld
    clear hHeld
    go_wp2
    go_ret
    exact ⟨by rw [HE.out, decide_eq_true E1.out, decide_eq_true E2.out, E3.out, Bool.true_and, Bool.true_and, Bool.true_and]; rfl, XW.out⟩
end Go.Proofs.Yteegnbdgfedajaa
/- Equal books: the reference and the program. No condition. -/
namespace Go.Proofs.Yteegnbdgfedajaa
open Go.RowKit
set_option linter.unusedVariables false
set_option linter.unusedSimpArgs false

@[irreducible] def sameBk (x y : Bk) : Bool := allSame sameCm x.1 y.1 && allSame sameEns x.2 y.2
theorem sameBk_eq (x y : Bk) : sameBk x y = (allSame sameCm x.1 y.1 && allSame sameEns x.2 y.2) := by rw [sameBk]
set_option maxHeartbeats 1000000 in
set_option maxRecDepth 100000 in
theorem implSameBook_u (cs cs' : Array Value) (x y : Bk) (w : World) (S S' : Nat → Prop) (h : RBook w S cs x) (h' : RBook w S' cs' y) :
    Calls Try.prog 32 #[.agg cs, .agg cs'] w fun e w' => e = .returned (.bool (sameBk x y)) ∧ Ext w w' := by
  rw [sameBk_eq]
  obtain ⟨v1, v2, rfl, hr, hr2⟩ := h
  obtain ⟨u1, u2, rfl, hr', hr2'⟩ := h'
  have HC := fun W hW => eqFuncCommit v1 u1 x.1 y.1 W S S' (hr.ext hW) (hr'.ext hW)
  have HC2 := Lib.hid (fun W hW => eqFuncEnts v2 u2 x.2 y.2 W S S' (hr2.ext hW) (hr2'.ext hW))
  obtain ⟨A, cap, rfl, _⟩ := hr.shape
  obtain ⟨A2, cap2, rfl, _⟩ := hr2.shape
  obtain ⟨B, bap, rfl, _⟩ := hr'.shape
  obtain ⟨B2, bap2, rfl, _⟩ := hr2'.shape
  clear hr hr2 hr' hr2'
  have B0 := Lib.hid ((Blk.new w 57 #[.slice A x.1.length cap, .slice A2 x.2.length cap2]).alloc (.cells #[.slice B y.1.length bap, .slice B2 y.2.length bap2] 57))
  have B1 := Lib.hid (Blk.new' (g := w.heap.size + 1) (w := w.alloc (.cells #[.slice A x.1.length cap, .slice A2 x.2.length cap2] 57)) (by simp) 57 #[.slice B y.1.length bap, .slice B2 y.2.length bap2])
  cases hq : allSame sameCm x.1 y.1 with
  | false =>
    rw [hq] at HC
    have HC := Lib.hid HC
    clear hq
    go_enter Try.func32, Try.ntmps32
    go_wp2_with fail
    refine (HC.out _ ((ext_alloc _ _).alloc _)).mono ?_
    rintro e w1 ⟨rfl, hx⟩
    have XW := Lib.hid (((ext_alloc w _).alloc _).trans hx)
    clear hx
    go_wp2_with fail
    go_ret
    exact ⟨rfl, XW.out⟩
  | true =>
    rw [hq] at HC
    have HC := Lib.hid HC
    clear hq
    go_enter Try.func32, Try.ntmps32
    go_wp2_with fail
    refine (HC.out _ ((ext_alloc _ _).alloc _)).mono ?_
    rintro e w1 ⟨rfl, hx⟩
    have XW := Lib.hid (((ext_alloc w _).alloc _).trans hx)
    have d0 := (B0.out.ext hx).at_ 1 rfl
    have d1 := (B1.out.ext hx).at_ 1 rfl
    clear hx
    go_wp2_with fail
    refine (HC2.out _ XW.out).mono ?_
    rintro e w2 ⟨rfl, hx⟩
    have XW2 := Lib.hid (XW.out.trans hx)
    clear hx d0 d1
    go_wp2_with fail
    go_ret
    exact ⟨rfl, XW2.out⟩
set_option maxHeartbeats 4000000 in
set_option maxRecDepth 100000 in
theorem l07Same9 (v u : Value) (xs ys : Ens) (w : World) (S S' : Nat → Prop) (h : RdL tEnt w S v xs) (h' : RdL tEnt w S' u ys) :
    Calls Try.prog 63 #[v, u] w fun e w' => e = .returned (.bool (sameEns xs ys)) ∧ Ext w w' := l07SameMaps_any v u xs ys w S S' h h'
set_option maxHeartbeats 4000000 in
set_option maxRecDepth 100000 in
theorem specSameBook_u (cs cs' : Array Value) (x y : Bk) (w : World) (S S' : Nat → Prop) (h : RBook w S cs x) (h' : RBook w S' cs' y) :
    Calls Try.prog 30 #[.agg cs, .agg cs'] w fun e w' => e = .returned (.bool (sameBk x y)) ∧ Ext w w' := by
  obtain ⟨v1, v2, rfl, hr, hr2⟩ := h
  obtain ⟨u1, u2, rfl, hr', hr2'⟩ := h'
  obtain ⟨A, cap, rfl, hcap, hlen⟩ := hr.shape
  obtain ⟨A2, cap2, rfl, hcap2, hlen2⟩ := hr2.shape
  obtain ⟨B, bap, rfl, hbap, hblen⟩ := hr'.shape
  obtain ⟨B2, bap2, rfl, hbap2, hblen2⟩ := hr2'.shape
  have H := Lib.hid hr
  have H' := Lib.hid hr'
  have J := Lib.hid hr2
  have J' := Lib.hid hr2'
  clear hr hr' hr2 hr2'
  obtain ⟨R, hR⟩ : ∃ R, sameBk x y = R := ⟨_, rfl⟩
  rw [hR]
  rw [sameBk_eq] at hR
  have HRR := Lib.hid hR
  clear hR
  obtain ⟨x1, x2⟩ := x
  obtain ⟨y1, y2⟩ := y
  dsimp only at hlen hcap hlen2 hcap2 hblen hbap hblen2 hbap2 H H' J J' HRR ⊢
  by_cases hl : x1.length = y1.length
  rotate_left
  · have hl1 : ((x1.length : Int) != (y1.length : Int)) = true := by rw [bne_iff_ne]; omega
    have HN := Lib.hid (allSame_len (f := sameCm) hl)
    clear hl
    go_enter Try.func30, Try.ntmps30
    go_wp2
    go_ret
    exact ⟨by rw [← HRR.out, HN.out]; rfl, (ext_alloc _ _).alloc _⟩
  have hl1 : ((x1.length : Int) != (y1.length : Int)) = false := by simp [hl]
  have HL := Lib.hid hl
  clear hl
  by_cases hl : x2.length = y2.length
  rotate_left
  · have hl2 : ((x2.length : Int) != (y2.length : Int)) = true := by rw [bne_iff_ne]; omega
    have HN := Lib.hid (allSame_len (f := sameEns) hl)
    clear hl
    go_enter Try.func30, Try.ntmps30
    go_wp2
    go_ret
    exact ⟨by rw [← HRR.out, HN.out, Bool.and_false]; rfl, (ext_alloc _ _).alloc _⟩
  have hl2 : ((x2.length : Int) != (y2.length : Int)) = false := by simp [hl]
  have HL2 := Lib.hid hl
  clear hl
  go_enter Try.func30, Try.ntmps30
  go_wp2
  have B0 := Lib.hid ((Blk.new w 57 #[.slice A x1.length cap, .slice A2 x2.length cap2]).alloc (.cells #[.slice B y1.length bap, .slice B2 y2.length bap2] 57))
  have B1 := Lib.hid (Blk.new' (g := w.heap.size + 1) (w := w.alloc (.cells #[.slice A x1.length cap, .slice A2 x2.length cap2] 57)) (by simp) 57 #[.slice B y1.length bap, .slice B2 y2.length bap2])
  have X0 := Lib.hid ((ext_alloc w (.cells #[.slice A x1.length cap, .slice A2 x2.length cap2] 57)).alloc (.cells #[.slice B y1.length bap, .slice B2 y2.length bap2] 57))
  generalize (w.alloc (.cells #[.slice A x1.length cap, .slice A2 x2.length cap2] 57)).alloc (.cells #[.slice B y1.length bap, .slice B2 y2.length bap2] 57) = w0 at B0 B1 X0 ⊢

  go_loopw [5] (fun i wr => ∃ k : Nat, k ≤ x1.length ∧ i = .int .i64 k ∧ (∀ p (hp : p < x1.length) (hp' : p < y1.length), p < k → sameCm x1[p] y1[p] = true) ∧ Ext w0 wr) (fun i _ => x1.length - (intOf i).toNat)
  case atStart => exact ⟨0, by omega, rfl, fun p hp hp' h => by omega, Ext.refl _⟩
  case round =>
    obtain ⟨k, hk, rfl, hm, hx⟩ := hrel
    have HX := Lib.hid hx
    have HM := Lib.hid hm
    have d0 := (B0.out.ext hx).at_ 0 rfl
    have d1 := (B1.out.ext hx).at_ 0 rfl
    clear hx hm hl1 hl2
    by_cases hlt : k < x1.length
    · have hlt' : k < y1.length := by have := HL.out; omega
      obtain ⟨g, o, rfl, hs, es, hes, hc, hR⟩ := H.out.elem k hlt
      obtain ⟨g2, o2, rfl, hs2, es2, hes2, hc2, hR2⟩ := H'.out.elem k hlt'
      have HXT := Lib.hid (X0.out.trans HX.out)
      have hd0 : ∀ W, Ext wr W → W.cell? ⟨w.heap.size, 0, none⟩ = some (.slice (some ⟨g, o, none⟩) x1.length cap) := fun W hW => hW.cell d0
      have hd1 : ∀ W, Ext wr W → W.cell? ⟨w.heap.size + 1, 0, none⟩ = some (.slice (some ⟨g2, o2, none⟩) y1.length bap) := fun W hW => hW.cell d1
      have hi : (0 : Int) ≤ (k : Int) := by omega
      have hi2 : (k : Int) < (x1.length : Int) := by omega
      have hi3 : (k : Int) < (y1.length : Int) := by omega
      have HC := Lib.hid (show ∀ W, Ext wr W → ∀ j u, es.toArray[j]? = some u → W.cell? ⟨g, o + k * 35 + j, none⟩ = some u from fun W hW j u hu => (HXT.out.trans hW).cell (hc j u (by simpa using hu)))
      have HC2 := Lib.hid (show ∀ W, Ext wr W → ∀ j u, es2.toArray[j]? = some u → W.cell? ⟨g2, o2 + k * 35 + j, none⟩ = some u from fun W hW j u hu => (HXT.out.trans hW).cell (hc2 j u (by simpa using hu)))
      have HV := Lib.hid (hR.ext HXT.out)
      have HV2 := Lib.hid (hR2.ext HXT.out)
      have hct := fun W hW => l07Same_at es.toArray es2.toArray x1[k] y1[k] W S S' (HV.out.ext hW) (HV2.out.ext hW) g (o + k * 35) g2 (o2 + k * 35) (HC.out W hW) (HC2.out W hW)
      clear hc hc2 hR hR2 hes hes2
      cases hq : sameCm x1[k] y1[k] with
      | true =>
        rw [hq] at hct
        have HQ := Lib.hid hq
        have HCT := Lib.hid hct
        clear hq hct
        go_wp2_with fail
        refine wp_region_held_drew (S := fun W => Ext wr W) (by kernel_rfl) (Ext.refl _).drew (fun hHeld => ?_)
        refine wpAnyH_take (i := 0) (oi := ?oiz1) (v := ?vz1) ?hiz1 (by kernel_rfl) (by kernel_rfl) (by kernel_rfl) ?hQz1 ?hyz1 (by assumption) ?restz1
        case hiz1 => simp only [List.getElem?_toArray, List.getElem?_cons_zero, List.getElem?_cons_succ]; rfl
        case hQz1 => exact fun _ _ _ h => h
        case hyz1 => exact Or.inl ⟨by rfl, by intro w hSw; (try dsimp only at hSw); go_simp; with_reducible rfl⟩
        try simp only [Act.put, List.setIfInBounds_toArray, List.set_cons_zero, List.set_cons_succ]
        refine wpAnyH_take (i := 1) (oi := ?oiz2) (v := ?vz2) ?hiz2 (by kernel_rfl) (by kernel_rfl) (by kernel_rfl) ?hQz2 ?hyz2 (by assumption) ?restz2
        case hiz2 => simp only [List.getElem?_toArray, List.getElem?_cons_zero, List.getElem?_cons_succ]; rfl
        case hQz2 => exact fun _ _ _ h => h
        case hyz2 => exact Or.inl ⟨by rfl, by intro w hSw; (try dsimp only at hSw); have q0 := hd0 _ hSw; have q1 := hd1 _ hSw; go_simp; with_reducible rfl⟩
        try simp only [Act.put, List.setIfInBounds_toArray, List.set_cons_zero, List.set_cons_succ]
        refine wpAnyH_take (i := 2) (oi := ?oiz3) (v := ?vz3) ?hiz3 (by kernel_rfl) (by kernel_rfl) (by kernel_rfl) ?hQz3 ?hyz3 (by assumption) ?restz3
        case hiz3 => simp only [List.getElem?_toArray, List.getElem?_cons_zero, List.getElem?_cons_succ]; rfl
        case hQz3 => exact fun _ _ _ h => h
        case hyz3 => exact Or.inl ⟨by rfl, by intro w hSw; (try dsimp only at hSw); go_simp; with_reducible rfl⟩
        try simp only [Act.put, List.setIfInBounds_toArray, List.set_cons_zero, List.set_cons_succ]
        refine wpAnyH_take (i := 3) (oi := ?oiz4) (v := ?vz4) ?hiz4 (by kernel_rfl) (by kernel_rfl) (by kernel_rfl) ?hQz4 ?hyz4 (by assumption) ?restz4
        case hiz4 => simp only [List.getElem?_toArray, List.getElem?_cons_zero, List.getElem?_cons_succ]; rfl
        case hQz4 => exact fun _ _ _ h => h
        case hyz4 => exact Or.inl ⟨by rfl, by intro w hSw; (try dsimp only at hSw); go_simp; with_reducible rfl⟩
        try simp only [Act.put, List.setIfInBounds_toArray, List.set_cons_zero, List.set_cons_succ]
        refine wpAnyH_take (i := 4) (oi := ?oiz5) (v := ?vz5) ?hiz5 (by kernel_rfl) (by kernel_rfl) (by kernel_rfl) ?hQz5 ?hyz5 (by assumption) ?restz5
        case hiz5 => simp only [List.getElem?_toArray, List.getElem?_cons_zero, List.getElem?_cons_succ]; rfl
        case hQz5 => exact fun _ _ _ h => h
        case hyz5 => exact Or.inl ⟨by rfl, by intro w hSw; (try dsimp only at hSw); go_simp; with_reducible rfl⟩
        try simp only [Act.put, List.setIfInBounds_toArray, List.set_cons_zero, List.set_cons_succ]
        refine wpAnyH_take (i := 5) (oi := ?oiz6) (v := ?vz6) ?hiz6 (by kernel_rfl) (by kernel_rfl) (by kernel_rfl) ?hQz6 ?hyz6 (by assumption) ?restz6
        case hiz6 => simp only [List.getElem?_toArray, List.getElem?_cons_zero, List.getElem?_cons_succ]; rfl
        case hQz6 => exact fun _ _ _ h => h
        case hyz6 => exact Or.inl ⟨by rfl, by intro w hSw; (try dsimp only at hSw); have q0 := hd0 _ hSw; have q1 := hd1 _ hSw; go_simp; with_reducible rfl⟩
        try simp only [Act.put, List.setIfInBounds_toArray, List.set_cons_zero, List.set_cons_succ]
        refine wpAnyH_take (i := 6) (oi := ?oiz7) (v := ?vz7) ?hiz7 (by kernel_rfl) (by kernel_rfl) (by kernel_rfl) ?hQz7 ?hyz7 (by assumption) ?restz7
        case hiz7 => simp only [List.getElem?_toArray, List.getElem?_cons_zero, List.getElem?_cons_succ]; rfl
        case hQz7 => exact fun _ _ _ h => h
        case hyz7 => exact Or.inl ⟨by rfl, by intro w hSw; (try dsimp only at hSw); go_simp; with_reducible rfl⟩
        try simp only [Act.put, List.setIfInBounds_toArray, List.set_cons_zero, List.set_cons_succ]
        refine wpAnyH_take (i := 7) (oi := ?oiz8) (v := ?vz8) ?hiz8 (by kernel_rfl) (by kernel_rfl) (by kernel_rfl) ?hQz8 ?hyz8 (by assumption) ?restz8
        case hiz8 => simp only [List.getElem?_toArray, List.getElem?_cons_zero, List.getElem?_cons_succ]; rfl
        case hQz8 => exact fun _ _ _ h => h
        case hyz8 => exact Or.inl ⟨by rfl, by intro w hSw; (try dsimp only at hSw); go_simp; with_reducible rfl⟩
        try simp only [Act.put, List.setIfInBounds_toArray, List.set_cons_zero, List.set_cons_succ]
        refine wpAnyH_ready (rs := [8]) (by kernel_rfl) (by simp) (AllReadyH.cons (o := ?oy98) ?hy98 (fun K hK => ?sy98) AllReadyH.nil)
        case hy98 => simp only [List.getElem?_toArray, List.getElem?_cons_zero, List.getElem?_cons_succ]; rfl
        go_simp
        refine (HCT.out _ hHeld).mono ?_
        rintro e w1 ⟨rfl, hx⟩
        have hH2 := hHeld.trans hx
        refine hK.out _ _ hH2 (fun _ => ?_)
        clear hHeld hK K
        have hHeld := hH2
        clear hH2
        try simp only [Act.put, List.setIfInBounds_toArray, List.set_cons_zero, List.set_cons_succ]
        refine wpAnyH_take (i := 9) (oi := ?oiz10) (v := ?vz10) ?hiz10 (by kernel_rfl) (by kernel_rfl) (by kernel_rfl) ?hQz10 ?hyz10 (by assumption) ?restz10
        case hiz10 => simp only [List.getElem?_toArray, List.getElem?_cons_zero, List.getElem?_cons_succ]; rfl
        case hQz10 => exact fun _ _ _ h => h
        case hyz10 => exact Or.inl ⟨by rfl, by intro w hSw; (try dsimp only at hSw); go_simp; with_reducible rfl⟩
        try simp only [Act.put, List.setIfInBounds_toArray, List.set_cons_zero, List.set_cons_succ]
        refine wpAnyH_done (by kernel_rfl) ?_ _
        have HX1 := Lib.hid (HX.out.trans hHeld)
        clear hHeld
        go_wp2
        go_roundw
        case rel => exact ⟨k + 1, by omega, by go_num, fun p hp hp' h => by
          by_cases e : p = k
          · subst e; exact HQ.out
          · exact HM.out p hp hp' (by omega), HX1.out⟩
        case measure => simp [intOf]; omega
      | false =>
        rw [hq] at hct
        have HQ := Lib.hid (allSame_no k hlt hlt' hq)
        have HCT := Lib.hid hct
        clear hq hct
        go_wp2_with fail
        refine wp_region_held_drew (S := fun W => Ext wr W) (by kernel_rfl) (Ext.refl _).drew (fun hHeld => ?_)
        refine wpAnyH_take (i := 0) (oi := ?oiz11) (v := ?vz11) ?hiz11 (by kernel_rfl) (by kernel_rfl) (by kernel_rfl) ?hQz11 ?hyz11 (by assumption) ?restz11
        case hiz11 => simp only [List.getElem?_toArray, List.getElem?_cons_zero, List.getElem?_cons_succ]; rfl
        case hQz11 => exact fun _ _ _ h => h
        case hyz11 => exact Or.inl ⟨by rfl, by intro w hSw; (try dsimp only at hSw); go_simp; with_reducible rfl⟩
        try simp only [Act.put, List.setIfInBounds_toArray, List.set_cons_zero, List.set_cons_succ]
        refine wpAnyH_take (i := 1) (oi := ?oiz12) (v := ?vz12) ?hiz12 (by kernel_rfl) (by kernel_rfl) (by kernel_rfl) ?hQz12 ?hyz12 (by assumption) ?restz12
        case hiz12 => simp only [List.getElem?_toArray, List.getElem?_cons_zero, List.getElem?_cons_succ]; rfl
        case hQz12 => exact fun _ _ _ h => h
        case hyz12 => exact Or.inl ⟨by rfl, by intro w hSw; (try dsimp only at hSw); have q0 := hd0 _ hSw; have q1 := hd1 _ hSw; go_simp; with_reducible rfl⟩
        try simp only [Act.put, List.setIfInBounds_toArray, List.set_cons_zero, List.set_cons_succ]
        refine wpAnyH_take (i := 2) (oi := ?oiz13) (v := ?vz13) ?hiz13 (by kernel_rfl) (by kernel_rfl) (by kernel_rfl) ?hQz13 ?hyz13 (by assumption) ?restz13
        case hiz13 => simp only [List.getElem?_toArray, List.getElem?_cons_zero, List.getElem?_cons_succ]; rfl
        case hQz13 => exact fun _ _ _ h => h
        case hyz13 => exact Or.inl ⟨by rfl, by intro w hSw; (try dsimp only at hSw); go_simp; with_reducible rfl⟩
        try simp only [Act.put, List.setIfInBounds_toArray, List.set_cons_zero, List.set_cons_succ]
        refine wpAnyH_take (i := 3) (oi := ?oiz14) (v := ?vz14) ?hiz14 (by kernel_rfl) (by kernel_rfl) (by kernel_rfl) ?hQz14 ?hyz14 (by assumption) ?restz14
        case hiz14 => simp only [List.getElem?_toArray, List.getElem?_cons_zero, List.getElem?_cons_succ]; rfl
        case hQz14 => exact fun _ _ _ h => h
        case hyz14 => exact Or.inl ⟨by rfl, by intro w hSw; (try dsimp only at hSw); go_simp; with_reducible rfl⟩
        try simp only [Act.put, List.setIfInBounds_toArray, List.set_cons_zero, List.set_cons_succ]
        refine wpAnyH_take (i := 4) (oi := ?oiz15) (v := ?vz15) ?hiz15 (by kernel_rfl) (by kernel_rfl) (by kernel_rfl) ?hQz15 ?hyz15 (by assumption) ?restz15
        case hiz15 => simp only [List.getElem?_toArray, List.getElem?_cons_zero, List.getElem?_cons_succ]; rfl
        case hQz15 => exact fun _ _ _ h => h
        case hyz15 => exact Or.inl ⟨by rfl, by intro w hSw; (try dsimp only at hSw); go_simp; with_reducible rfl⟩
        try simp only [Act.put, List.setIfInBounds_toArray, List.set_cons_zero, List.set_cons_succ]
        refine wpAnyH_take (i := 5) (oi := ?oiz16) (v := ?vz16) ?hiz16 (by kernel_rfl) (by kernel_rfl) (by kernel_rfl) ?hQz16 ?hyz16 (by assumption) ?restz16
        case hiz16 => simp only [List.getElem?_toArray, List.getElem?_cons_zero, List.getElem?_cons_succ]; rfl
        case hQz16 => exact fun _ _ _ h => h
        case hyz16 => exact Or.inl ⟨by rfl, by intro w hSw; (try dsimp only at hSw); have q0 := hd0 _ hSw; have q1 := hd1 _ hSw; go_simp; with_reducible rfl⟩
        try simp only [Act.put, List.setIfInBounds_toArray, List.set_cons_zero, List.set_cons_succ]
        refine wpAnyH_take (i := 6) (oi := ?oiz17) (v := ?vz17) ?hiz17 (by kernel_rfl) (by kernel_rfl) (by kernel_rfl) ?hQz17 ?hyz17 (by assumption) ?restz17
        case hiz17 => simp only [List.getElem?_toArray, List.getElem?_cons_zero, List.getElem?_cons_succ]; rfl
        case hQz17 => exact fun _ _ _ h => h
        case hyz17 => exact Or.inl ⟨by rfl, by intro w hSw; (try dsimp only at hSw); go_simp; with_reducible rfl⟩
        try simp only [Act.put, List.setIfInBounds_toArray, List.set_cons_zero, List.set_cons_succ]
        refine wpAnyH_take (i := 7) (oi := ?oiz18) (v := ?vz18) ?hiz18 (by kernel_rfl) (by kernel_rfl) (by kernel_rfl) ?hQz18 ?hyz18 (by assumption) ?restz18
        case hiz18 => simp only [List.getElem?_toArray, List.getElem?_cons_zero, List.getElem?_cons_succ]; rfl
        case hQz18 => exact fun _ _ _ h => h
        case hyz18 => exact Or.inl ⟨by rfl, by intro w hSw; (try dsimp only at hSw); go_simp; with_reducible rfl⟩
        try simp only [Act.put, List.setIfInBounds_toArray, List.set_cons_zero, List.set_cons_succ]
        refine wpAnyH_ready (rs := [8]) (by kernel_rfl) (by simp) (AllReadyH.cons (o := ?oy198) ?hy198 (fun K hK => ?sy198) AllReadyH.nil)
        case hy198 => simp only [List.getElem?_toArray, List.getElem?_cons_zero, List.getElem?_cons_succ]; rfl
        go_simp
        refine (HCT.out _ hHeld).mono ?_
        rintro e w1 ⟨rfl, hx⟩
        have hH2 := hHeld.trans hx
        refine hK.out _ _ hH2 (fun _ => ?_)
        clear hHeld hK K
        have hHeld := hH2
        clear hH2
        try simp only [Act.put, List.setIfInBounds_toArray, List.set_cons_zero, List.set_cons_succ]
        refine wpAnyH_take (i := 9) (oi := ?oiz20) (v := ?vz20) ?hiz20 (by kernel_rfl) (by kernel_rfl) (by kernel_rfl) ?hQz20 ?hyz20 (by assumption) ?restz20
        case hiz20 => simp only [List.getElem?_toArray, List.getElem?_cons_zero, List.getElem?_cons_succ]; rfl
        case hQz20 => exact fun _ _ _ h => h
        case hyz20 => exact Or.inl ⟨by rfl, by intro w hSw; (try dsimp only at hSw); go_simp; with_reducible rfl⟩
        try simp only [Act.put, List.setIfInBounds_toArray, List.set_cons_zero, List.set_cons_succ]
        refine wpAnyH_done (by kernel_rfl) ?_ _
        have HX1 := Lib.hid (HX.out.trans hHeld)
        clear hHeld
        go_wp2
        go_ret
        exact ⟨by rw [← HRR.out, HQ.out]; rfl, X0.out.trans HX1.out⟩
    · obtain rfl : k = x1.length := by omega
      have HQ1 := Lib.hid (allSame_yes (f := sameCm) HL.out fun p hp hp' => HM.out p hp hp' hp)
      have X1 := Lib.hid (X0.out.trans HX.out)
      have C0 := Lib.hid (B0.out.ext HX.out)
      have C1 := Lib.hid (B1.out.ext HX.out)
      clear B0 B1 HX HM
      have B0 := C0
      have B1 := C1
      clear C0 C1
      go_wp2
      clear d0 d1
      generalize wr = W1 at X1 B0 B1 ⊢
      go_loopw [6] (fun i wr => ∃ k : Nat, k ≤ x2.length ∧ i = .int .i64 k ∧ (∀ p (hp : p < x2.length) (hp' : p < y2.length), p < k → sameEns x2[p] y2[p] = true) ∧ Ext W1 wr) (fun i _ => x2.length - (intOf i).toNat)
      case atStart => exact ⟨0, by omega, rfl, fun p hp hp' h => by omega, Ext.refl _⟩
      case round =>
        obtain ⟨k, hk, rfl, hm, hx⟩ := hrel
        have HX := Lib.hid hx
        have HM := Lib.hid hm
        have d0 := (B0.out.ext hx).at_ 1 rfl
        have d1 := (B1.out.ext hx).at_ 1 rfl
        clear hx hm
        by_cases hlt : k < x2.length
        · have hlt' : k < y2.length := by have := HL2.out; omega
          obtain ⟨g, o, rfl, hs, es, hes, hc, hR⟩ := J.out.elem k hlt
          obtain ⟨g2, o2, rfl, hs2, es2, hes2, hc2, hR2⟩ := J'.out.elem k hlt'
          have HXT := Lib.hid (X1.out.trans HX.out)
          have hd0 : ∀ W, Ext wr W → W.cell? ⟨w.heap.size, 1, none⟩ = some (.slice (some ⟨g, o, none⟩) x2.length cap2) := fun W hW => hW.cell d0
          have hd1 : ∀ W, Ext wr W → W.cell? ⟨w.heap.size + 1, 1, none⟩ = some (.slice (some ⟨g2, o2, none⟩) y2.length bap2) := fun W hW => hW.cell d1
          have hi : (0 : Int) ≤ (k : Int) := by omega
          have hi2 : (k : Int) < (x2.length : Int) := by omega
          have hi3 : (k : Int) < (y2.length : Int) := by omega
          obtain ⟨u1, hE, hU⟩ := hR
          obtain rfl : es = [u1] := by have := congrArg Array.toList hE; simpa using this
          obtain ⟨u2, hE2, hU2⟩ := hR2
          obtain rfl : es2 = [u2] := by have := congrArg Array.toList hE2; simpa using this
          have he0 : ∀ W, Ext wr W → W.cell? ⟨g, o + k, none⟩ = some u1 := fun W hW => (HXT.out.trans hW).cell (by have := hc 0 u1 rfl; simpa [show nrEnts.sz = 1 from rfl] using this)
          have he1 : ∀ W, Ext wr W → W.cell? ⟨g2, o2 + k, none⟩ = some u2 := fun W hW => (HXT.out.trans hW).cell (by have := hc2 0 u2 rfl; simpa [show nrEnts.sz = 1 from rfl] using this)
          obtain ⟨A5, c5, rfl, _⟩ := id hU
          obtain ⟨A6, c6, rfl, _⟩ := id hU2
          have HV := Lib.hid (hU.ext (by decide) HXT.out)
          have HV2 := Lib.hid (hU2.ext (by decide) HXT.out)
          have hct := fun W hW => l07Same9 _ _ x2[k] y2[k] W S S' (HV.out.ext (by decide) hW) (HV2.out.ext (by decide) hW)
          clear hc hc2 hE hE2 hU hU2 hes hes2
          cases hq : sameEns x2[k] y2[k] with
          | true =>
            rw [hq] at hct
            have HQ := Lib.hid hq
            have HCT := Lib.hid hct
            clear hq hct
            go_wp2_with fail
            refine wp_region_held_drew (S := fun W => Ext wr W) (by kernel_rfl) (Ext.refl _).drew (fun hHeld => ?_)
            refine wpAnyH_take (i := 0) (oi := ?oiz21) (v := ?vz21) ?hiz21 (by kernel_rfl) (by kernel_rfl) (by kernel_rfl) ?hQz21 ?hyz21 (by assumption) ?restz21
            case hiz21 => simp only [List.getElem?_toArray, List.getElem?_cons_zero, List.getElem?_cons_succ]; rfl
            case hQz21 => exact fun _ _ _ h => h
            case hyz21 => exact Or.inl ⟨by rfl, by intro w hSw; (try dsimp only at hSw); go_simp; with_reducible rfl⟩
            try simp only [Act.put, List.setIfInBounds_toArray, List.set_cons_zero, List.set_cons_succ]
            refine wpAnyH_take (i := 1) (oi := ?oiz22) (v := ?vz22) ?hiz22 (by kernel_rfl) (by kernel_rfl) (by kernel_rfl) ?hQz22 ?hyz22 (by assumption) ?restz22
            case hiz22 => simp only [List.getElem?_toArray, List.getElem?_cons_zero, List.getElem?_cons_succ]; rfl
            case hQz22 => exact fun _ _ _ h => h
            case hyz22 => exact Or.inl ⟨by rfl, by intro w hSw; (try dsimp only at hSw); have q0 := hd0 _ hSw; have q1 := hd1 _ hSw; go_simp; with_reducible rfl⟩
            try simp only [Act.put, List.setIfInBounds_toArray, List.set_cons_zero, List.set_cons_succ]
            refine wpAnyH_take (i := 2) (oi := ?oiz23) (v := ?vz23) ?hiz23 (by kernel_rfl) (by kernel_rfl) (by kernel_rfl) ?hQz23 ?hyz23 (by assumption) ?restz23
            case hiz23 => simp only [List.getElem?_toArray, List.getElem?_cons_zero, List.getElem?_cons_succ]; rfl
            case hQz23 => exact fun _ _ _ h => h
            case hyz23 => exact Or.inl ⟨by rfl, by intro w hSw; (try dsimp only at hSw); go_simp; with_reducible rfl⟩
            try simp only [Act.put, List.setIfInBounds_toArray, List.set_cons_zero, List.set_cons_succ]
            refine wpAnyH_take (i := 3) (oi := ?oiz24) (v := ?vz24) ?hiz24 (by kernel_rfl) (by kernel_rfl) (by kernel_rfl) ?hQz24 ?hyz24 (by assumption) ?restz24
            case hiz24 => simp only [List.getElem?_toArray, List.getElem?_cons_zero, List.getElem?_cons_succ]; rfl
            case hQz24 => exact fun _ _ _ h => h
            case hyz24 => exact Or.inl ⟨by rfl, by intro w hSw; (try dsimp only at hSw); go_simp; with_reducible rfl⟩
            try simp only [Act.put, List.setIfInBounds_toArray, List.set_cons_zero, List.set_cons_succ]
            refine wpAnyH_take (i := 4) (oi := ?oiz25) (v := ?vz25) ?hiz25 (by kernel_rfl) (by kernel_rfl) (by kernel_rfl) ?hQz25 ?hyz25 (by assumption) ?restz25
            case hiz25 => simp only [List.getElem?_toArray, List.getElem?_cons_zero, List.getElem?_cons_succ]; rfl
            case hQz25 => exact fun _ _ _ h => h
            case hyz25 => exact Or.inl ⟨by rfl, by intro w hSw; (try dsimp only at hSw); have q0 := he0 _ hSw; have q1 := he1 _ hSw; go_simp; with_reducible rfl⟩
            try simp only [Act.put, List.setIfInBounds_toArray, List.set_cons_zero, List.set_cons_succ]
            refine wpAnyH_take (i := 5) (oi := ?oiz26) (v := ?vz26) ?hiz26 (by kernel_rfl) (by kernel_rfl) (by kernel_rfl) ?hQz26 ?hyz26 (by assumption) ?restz26
            case hiz26 => simp only [List.getElem?_toArray, List.getElem?_cons_zero, List.getElem?_cons_succ]; rfl
            case hQz26 => exact fun _ _ _ h => h
            case hyz26 => exact Or.inl ⟨by rfl, by intro w hSw; (try dsimp only at hSw); go_simp; with_reducible rfl⟩
            try simp only [Act.put, List.setIfInBounds_toArray, List.set_cons_zero, List.set_cons_succ]
            refine wpAnyH_take (i := 6) (oi := ?oiz27) (v := ?vz27) ?hiz27 (by kernel_rfl) (by kernel_rfl) (by kernel_rfl) ?hQz27 ?hyz27 (by assumption) ?restz27
            case hiz27 => simp only [List.getElem?_toArray, List.getElem?_cons_zero, List.getElem?_cons_succ]; rfl
            case hQz27 => exact fun _ _ _ h => h
            case hyz27 => exact Or.inl ⟨by rfl, by intro w hSw; (try dsimp only at hSw); have q0 := hd0 _ hSw; have q1 := hd1 _ hSw; go_simp; with_reducible rfl⟩
            try simp only [Act.put, List.setIfInBounds_toArray, List.set_cons_zero, List.set_cons_succ]
            refine wpAnyH_take (i := 7) (oi := ?oiz28) (v := ?vz28) ?hiz28 (by kernel_rfl) (by kernel_rfl) (by kernel_rfl) ?hQz28 ?hyz28 (by assumption) ?restz28
            case hiz28 => simp only [List.getElem?_toArray, List.getElem?_cons_zero, List.getElem?_cons_succ]; rfl
            case hQz28 => exact fun _ _ _ h => h
            case hyz28 => exact Or.inl ⟨by rfl, by intro w hSw; (try dsimp only at hSw); go_simp; with_reducible rfl⟩
            try simp only [Act.put, List.setIfInBounds_toArray, List.set_cons_zero, List.set_cons_succ]
            refine wpAnyH_take (i := 8) (oi := ?oiz29) (v := ?vz29) ?hiz29 (by kernel_rfl) (by kernel_rfl) (by kernel_rfl) ?hQz29 ?hyz29 (by assumption) ?restz29
            case hiz29 => simp only [List.getElem?_toArray, List.getElem?_cons_zero, List.getElem?_cons_succ]; rfl
            case hQz29 => exact fun _ _ _ h => h
            case hyz29 => exact Or.inl ⟨by rfl, by intro w hSw; (try dsimp only at hSw); go_simp; with_reducible rfl⟩
            try simp only [Act.put, List.setIfInBounds_toArray, List.set_cons_zero, List.set_cons_succ]
            refine wpAnyH_take (i := 9) (oi := ?oiz30) (v := ?vz30) ?hiz30 (by kernel_rfl) (by kernel_rfl) (by kernel_rfl) ?hQz30 ?hyz30 (by assumption) ?restz30
            case hiz30 => simp only [List.getElem?_toArray, List.getElem?_cons_zero, List.getElem?_cons_succ]; rfl
            case hQz30 => exact fun _ _ _ h => h
            case hyz30 => exact Or.inl ⟨by rfl, by intro w hSw; (try dsimp only at hSw); have q0 := he0 _ hSw; have q1 := he1 _ hSw; go_simp; with_reducible rfl⟩
            try simp only [Act.put, List.setIfInBounds_toArray, List.set_cons_zero, List.set_cons_succ]
            refine wpAnyH_ready (rs := [10]) (by kernel_rfl) (by simp) (AllReadyH.cons (o := ?oy3110) ?hy3110 (fun K hK => ?sy3110) AllReadyH.nil)
            case hy3110 => simp only [List.getElem?_toArray, List.getElem?_cons_zero, List.getElem?_cons_succ]; rfl
            go_simp
            refine (HCT.out _ hHeld).mono ?_
            rintro e w1 ⟨rfl, hx⟩
            have hH2 := hHeld.trans hx
            refine hK.out _ _ hH2 (fun _ => ?_)
            clear hHeld hK K
            have hHeld := hH2
            clear hH2
            try simp only [Act.put, List.setIfInBounds_toArray, List.set_cons_zero, List.set_cons_succ]
            refine wpAnyH_take (i := 11) (oi := ?oiz32) (v := ?vz32) ?hiz32 (by kernel_rfl) (by kernel_rfl) (by kernel_rfl) ?hQz32 ?hyz32 (by assumption) ?restz32
            case hiz32 => simp only [List.getElem?_toArray, List.getElem?_cons_zero, List.getElem?_cons_succ]; rfl
            case hQz32 => exact fun _ _ _ h => h
            case hyz32 => exact Or.inl ⟨by rfl, by intro w hSw; (try dsimp only at hSw); go_simp; with_reducible rfl⟩
            try simp only [Act.put, List.setIfInBounds_toArray, List.set_cons_zero, List.set_cons_succ]
            refine wpAnyH_done (by kernel_rfl) ?_ _
            have HX1 := Lib.hid (HX.out.trans hHeld)
            clear hHeld
            go_wp2
            go_roundw
            case rel => exact ⟨k + 1, by omega, by go_num, fun p hp hp' h => by
              by_cases e : p = k
              · subst e; exact HQ.out
              · exact HM.out p hp hp' (by omega), HX1.out⟩
            case measure => simp [intOf]; omega
          | false =>
            rw [hq] at hct
            have HQ := Lib.hid (allSame_no k hlt hlt' hq)
            have HCT := Lib.hid hct
            clear hq hct
            go_wp2_with fail
            refine wp_region_held_drew (S := fun W => Ext wr W) (by kernel_rfl) (Ext.refl _).drew (fun hHeld => ?_)
            refine wpAnyH_take (i := 0) (oi := ?oiz33) (v := ?vz33) ?hiz33 (by kernel_rfl) (by kernel_rfl) (by kernel_rfl) ?hQz33 ?hyz33 (by assumption) ?restz33
            case hiz33 => simp only [List.getElem?_toArray, List.getElem?_cons_zero, List.getElem?_cons_succ]; rfl
            case hQz33 => exact fun _ _ _ h => h
            case hyz33 => exact Or.inl ⟨by rfl, by intro w hSw; (try dsimp only at hSw); go_simp; with_reducible rfl⟩
            try simp only [Act.put, List.setIfInBounds_toArray, List.set_cons_zero, List.set_cons_succ]
            refine wpAnyH_take (i := 1) (oi := ?oiz34) (v := ?vz34) ?hiz34 (by kernel_rfl) (by kernel_rfl) (by kernel_rfl) ?hQz34 ?hyz34 (by assumption) ?restz34
            case hiz34 => simp only [List.getElem?_toArray, List.getElem?_cons_zero, List.getElem?_cons_succ]; rfl
            case hQz34 => exact fun _ _ _ h => h
            case hyz34 => exact Or.inl ⟨by rfl, by intro w hSw; (try dsimp only at hSw); have q0 := hd0 _ hSw; have q1 := hd1 _ hSw; go_simp; with_reducible rfl⟩
            try simp only [Act.put, List.setIfInBounds_toArray, List.set_cons_zero, List.set_cons_succ]
            refine wpAnyH_take (i := 2) (oi := ?oiz35) (v := ?vz35) ?hiz35 (by kernel_rfl) (by kernel_rfl) (by kernel_rfl) ?hQz35 ?hyz35 (by assumption) ?restz35
            case hiz35 => simp only [List.getElem?_toArray, List.getElem?_cons_zero, List.getElem?_cons_succ]; rfl
            case hQz35 => exact fun _ _ _ h => h
            case hyz35 => exact Or.inl ⟨by rfl, by intro w hSw; (try dsimp only at hSw); go_simp; with_reducible rfl⟩
            try simp only [Act.put, List.setIfInBounds_toArray, List.set_cons_zero, List.set_cons_succ]
            refine wpAnyH_take (i := 3) (oi := ?oiz36) (v := ?vz36) ?hiz36 (by kernel_rfl) (by kernel_rfl) (by kernel_rfl) ?hQz36 ?hyz36 (by assumption) ?restz36
            case hiz36 => simp only [List.getElem?_toArray, List.getElem?_cons_zero, List.getElem?_cons_succ]; rfl
            case hQz36 => exact fun _ _ _ h => h
            case hyz36 => exact Or.inl ⟨by rfl, by intro w hSw; (try dsimp only at hSw); go_simp; with_reducible rfl⟩
            try simp only [Act.put, List.setIfInBounds_toArray, List.set_cons_zero, List.set_cons_succ]
            refine wpAnyH_take (i := 4) (oi := ?oiz37) (v := ?vz37) ?hiz37 (by kernel_rfl) (by kernel_rfl) (by kernel_rfl) ?hQz37 ?hyz37 (by assumption) ?restz37
            case hiz37 => simp only [List.getElem?_toArray, List.getElem?_cons_zero, List.getElem?_cons_succ]; rfl
            case hQz37 => exact fun _ _ _ h => h
            case hyz37 => exact Or.inl ⟨by rfl, by intro w hSw; (try dsimp only at hSw); have q0 := he0 _ hSw; have q1 := he1 _ hSw; go_simp; with_reducible rfl⟩
            try simp only [Act.put, List.setIfInBounds_toArray, List.set_cons_zero, List.set_cons_succ]
            refine wpAnyH_take (i := 5) (oi := ?oiz38) (v := ?vz38) ?hiz38 (by kernel_rfl) (by kernel_rfl) (by kernel_rfl) ?hQz38 ?hyz38 (by assumption) ?restz38
            case hiz38 => simp only [List.getElem?_toArray, List.getElem?_cons_zero, List.getElem?_cons_succ]; rfl
            case hQz38 => exact fun _ _ _ h => h
            case hyz38 => exact Or.inl ⟨by rfl, by intro w hSw; (try dsimp only at hSw); go_simp; with_reducible rfl⟩
            try simp only [Act.put, List.setIfInBounds_toArray, List.set_cons_zero, List.set_cons_succ]
            refine wpAnyH_take (i := 6) (oi := ?oiz39) (v := ?vz39) ?hiz39 (by kernel_rfl) (by kernel_rfl) (by kernel_rfl) ?hQz39 ?hyz39 (by assumption) ?restz39
            case hiz39 => simp only [List.getElem?_toArray, List.getElem?_cons_zero, List.getElem?_cons_succ]; rfl
            case hQz39 => exact fun _ _ _ h => h
            case hyz39 => exact Or.inl ⟨by rfl, by intro w hSw; (try dsimp only at hSw); have q0 := hd0 _ hSw; have q1 := hd1 _ hSw; go_simp; with_reducible rfl⟩
            try simp only [Act.put, List.setIfInBounds_toArray, List.set_cons_zero, List.set_cons_succ]
            refine wpAnyH_take (i := 7) (oi := ?oiz40) (v := ?vz40) ?hiz40 (by kernel_rfl) (by kernel_rfl) (by kernel_rfl) ?hQz40 ?hyz40 (by assumption) ?restz40
            case hiz40 => simp only [List.getElem?_toArray, List.getElem?_cons_zero, List.getElem?_cons_succ]; rfl
            case hQz40 => exact fun _ _ _ h => h
            case hyz40 => exact Or.inl ⟨by rfl, by intro w hSw; (try dsimp only at hSw); go_simp; with_reducible rfl⟩
            try simp only [Act.put, List.setIfInBounds_toArray, List.set_cons_zero, List.set_cons_succ]
            refine wpAnyH_take (i := 8) (oi := ?oiz41) (v := ?vz41) ?hiz41 (by kernel_rfl) (by kernel_rfl) (by kernel_rfl) ?hQz41 ?hyz41 (by assumption) ?restz41
            case hiz41 => simp only [List.getElem?_toArray, List.getElem?_cons_zero, List.getElem?_cons_succ]; rfl
            case hQz41 => exact fun _ _ _ h => h
            case hyz41 => exact Or.inl ⟨by rfl, by intro w hSw; (try dsimp only at hSw); go_simp; with_reducible rfl⟩
            try simp only [Act.put, List.setIfInBounds_toArray, List.set_cons_zero, List.set_cons_succ]
            refine wpAnyH_take (i := 9) (oi := ?oiz42) (v := ?vz42) ?hiz42 (by kernel_rfl) (by kernel_rfl) (by kernel_rfl) ?hQz42 ?hyz42 (by assumption) ?restz42
            case hiz42 => simp only [List.getElem?_toArray, List.getElem?_cons_zero, List.getElem?_cons_succ]; rfl
            case hQz42 => exact fun _ _ _ h => h
            case hyz42 => exact Or.inl ⟨by rfl, by intro w hSw; (try dsimp only at hSw); have q0 := he0 _ hSw; have q1 := he1 _ hSw; go_simp; with_reducible rfl⟩
            try simp only [Act.put, List.setIfInBounds_toArray, List.set_cons_zero, List.set_cons_succ]
            refine wpAnyH_ready (rs := [10]) (by kernel_rfl) (by simp) (AllReadyH.cons (o := ?oy4310) ?hy4310 (fun K hK => ?sy4310) AllReadyH.nil)
            case hy4310 => simp only [List.getElem?_toArray, List.getElem?_cons_zero, List.getElem?_cons_succ]; rfl
            go_simp
            refine (HCT.out _ hHeld).mono ?_
            rintro e w1 ⟨rfl, hx⟩
            have hH2 := hHeld.trans hx
            refine hK.out _ _ hH2 (fun _ => ?_)
            clear hHeld hK K
            have hHeld := hH2
            clear hH2
            try simp only [Act.put, List.setIfInBounds_toArray, List.set_cons_zero, List.set_cons_succ]
            refine wpAnyH_take (i := 11) (oi := ?oiz44) (v := ?vz44) ?hiz44 (by kernel_rfl) (by kernel_rfl) (by kernel_rfl) ?hQz44 ?hyz44 (by assumption) ?restz44
            case hiz44 => simp only [List.getElem?_toArray, List.getElem?_cons_zero, List.getElem?_cons_succ]; rfl
            case hQz44 => exact fun _ _ _ h => h
            case hyz44 => exact Or.inl ⟨by rfl, by intro w hSw; (try dsimp only at hSw); go_simp; with_reducible rfl⟩
            try simp only [Act.put, List.setIfInBounds_toArray, List.set_cons_zero, List.set_cons_succ]
            refine wpAnyH_done (by kernel_rfl) ?_ _
            have HX1 := Lib.hid (HX.out.trans hHeld)
            clear hHeld
            go_wp2
            go_ret
            exact ⟨by rw [← HRR.out, HQ.out, Bool.and_false]; rfl, X1.out.trans HX1.out⟩
        · obtain rfl : k = x2.length := by omega
          have HQ2 := Lib.hid (allSame_yes (f := sameEns) HL2.out fun p hp hp' => HM.out p hp hp' hp)
          go_wp2
          go_ret
          exact ⟨by rw [← HRR.out, HQ1.out, HQ2.out]; rfl, X1.out.trans HX.out⟩
end Go.Proofs.Yteegnbdgfedajaa
/- The walk of the law FnExactSameBook. No condition. -/
namespace Go.Proofs.Yteegnbdgfedajaa
open Go.RowKit
set_option linter.unusedVariables false
set_option linter.unusedSimpArgs false

set_option maxHeartbeats 1000000 in
set_option maxRecDepth 100000 in
theorem FnExactSameBook_any (w : World) (cs0 : Array Value) (x0 : Bk) (S0 : Nat → Prop) (h0 : RBook w S0 cs0 x0) (cs1 : Array Value) (x1 : Bk) (S1 : Nat → Prop) (h1 : RBook w S1 cs1 x1) :
    Calls Try.prog 7 #[.agg cs0, .agg cs1] w fun e w' => e = .returned (.bool true) ∧ Ext w w' := by
  have H0 := Lib.hid h0
  clear h0
  have H1 := Lib.hid h1
  clear h1
  have hn0 := H0.out.st.size
  have Hs0 := Lib.hid H0.out.st
  have hn1 := H1.out.st.size
  have Hs1 := Lib.hid H1.out.st
  by_cases hz0 : (1048576 - (wBook x0 : Nat) : Int) < 0
  · go_enter Try.func7, Try.ntmps7
    go_wp2_with (first | (refine wpl_loadB ((Blk.new' (g := w.heap.size) (w := w) (by simp) 51 cs0).alloc _) aggBookL hn0 rfl _ rfl rfl ?_) | (refine wpl_loadB (Blk.new' (g := w.heap.size + 1) (w := (World.alloc w _)) (by simp) 51 cs1) aggBookL hn1 rfl _ rfl rfl ?_))
    refine (szBook_u _ x0 (1048576) _ _ (H0.out.ext ((ext_alloc _ _).alloc _)) (by omega) (by omega)).mono ?_
    rintro e w1 ⟨rfl, hx⟩
    rw [if_pos (by omega)]
    have B0 := Lib.hid (((Blk.new' (g := w.heap.size) (w := w) (by simp) 51 cs0).alloc _).ext hx)
    have B1 := Lib.hid ((Blk.new' (g := w.heap.size + 1) (w := (World.alloc w _)) (by simp) 51 cs1).ext hx)
    have XW := Lib.hid (((ext_alloc _ _).alloc _).trans hx)
    clear hx
    go_wp2_with (first | (refine wpl_loadB B0.out aggBookL hn0 rfl _ rfl rfl ?_) | (refine wpl_loadB B1.out aggBookL hn1 rfl _ rfl rfl ?_))
    go_ret
    exact ⟨rfl, XW.out⟩
  by_cases hz1 : (1048576 - (wBook x0 : Nat) - (wBook x1 : Nat) : Int) < 0
  · go_enter Try.func7, Try.ntmps7
    go_wp2_with (first | (refine wpl_loadB ((Blk.new' (g := w.heap.size) (w := w) (by simp) 51 cs0).alloc _) aggBookL hn0 rfl _ rfl rfl ?_) | (refine wpl_loadB (Blk.new' (g := w.heap.size + 1) (w := (World.alloc w _)) (by simp) 51 cs1) aggBookL hn1 rfl _ rfl rfl ?_))
    refine (szBook_u _ x0 (1048576) _ _ (H0.out.ext ((ext_alloc _ _).alloc _)) (by omega) (by omega)).mono ?_
    rintro e w1 ⟨rfl, hx⟩
    rw [if_neg (by omega)]
    have B0 := Lib.hid (((Blk.new' (g := w.heap.size) (w := w) (by simp) 51 cs0).alloc _).ext hx)
    have B1 := Lib.hid ((Blk.new' (g := w.heap.size + 1) (w := (World.alloc w _)) (by simp) 51 cs1).ext hx)
    have XW := Lib.hid (((ext_alloc _ _).alloc _).trans hx)
    clear hx
    go_wp2_with (first | (refine wpl_loadB B0.out aggBookL hn0 rfl _ rfl rfl ?_) | (refine wpl_loadB B1.out aggBookL hn1 rfl _ rfl rfl ?_))
    refine (szBook_u _ x1 (1048576 - (wBook x0 : Nat)) _ _ (H1.out.ext XW.out) (by omega) (by omega)).mono ?_
    rintro e w2 ⟨rfl, hx⟩
    rw [if_pos (by omega)]
    replace B0 := Lib.hid (B0.out.ext hx)
    replace B1 := Lib.hid (B1.out.ext hx)
    replace XW := Lib.hid (XW.out.trans hx)
    clear hx
    go_wp2_with (first | (refine wpl_loadB B0.out aggBookL hn0 rfl _ rfl rfl ?_) | (refine wpl_loadB B1.out aggBookL hn1 rfl _ rfl rfl ?_))
    go_ret
    exact ⟨rfl, XW.out⟩
  have hln0 : smallBook x0 := smallBook_of (by omega)
  have hln1 : smallBook x1 := smallBook_of (by omega)
  obtain ⟨R, hR⟩ : ∃ R, sameBk x0 x1 = R := ⟨_, rfl⟩
  have HR := Lib.hid hR
  clear hR
  have hq : (R != R) = false := by simp
  go_enter Try.func7, Try.ntmps7
  go_wp2_with (first | (refine wpl_loadB ((Blk.new' (g := w.heap.size) (w := w) (by simp) 51 cs0).alloc _) aggBookL hn0 rfl _ rfl rfl ?_) | (refine wpl_loadB (Blk.new' (g := w.heap.size + 1) (w := (World.alloc w _)) (by simp) 51 cs1) aggBookL hn1 rfl _ rfl rfl ?_))
  refine (szBook_u _ x0 (1048576) _ _ (H0.out.ext ((ext_alloc _ _).alloc _)) (by omega) (by omega)).mono ?_
  rintro e w1 ⟨rfl, hx⟩
  rw [if_neg (by omega)]
  have B0 := Lib.hid (((Blk.new' (g := w.heap.size) (w := w) (by simp) 51 cs0).alloc _).ext hx)
  have B1 := Lib.hid ((Blk.new' (g := w.heap.size + 1) (w := (World.alloc w _)) (by simp) 51 cs1).ext hx)
  have XW := Lib.hid (((ext_alloc _ _).alloc _).trans hx)
  clear hx
  go_wp2_with (first | (refine wpl_loadB B0.out aggBookL hn0 rfl _ rfl rfl ?_) | (refine wpl_loadB B1.out aggBookL hn1 rfl _ rfl rfl ?_))
  refine (szBook_u _ x1 (1048576 - (wBook x0 : Nat)) _ _ (H1.out.ext XW.out) (by omega) (by omega)).mono ?_
  rintro e w2 ⟨rfl, hx⟩
  rw [if_neg (by omega)]
  replace B0 := Lib.hid (B0.out.ext hx)
  replace B1 := Lib.hid (B1.out.ext hx)
  replace XW := Lib.hid (XW.out.trans hx)
  clear hx
  go_wp2_with (first | (refine wpl_loadB B0.out aggBookL hn0 rfl _ rfl rfl ?_) | (refine wpl_loadB B1.out aggBookL hn1 rfl _ rfl rfl ?_))
  refine wp_region_held_drew (S := fun W => Ext w2 W) (by kernel_rfl) (Ext.refl _).drew (fun hHeld => ?_)
  refine wpAnyH_take (i := 0) (oi := ?oiz1) (v := (.agg cs0)) ?hiz1 (by kernel_rfl) (by kernel_rfl) (by kernel_rfl) ?hQz1 ?hyz1 (by assumption) ?restz1
  case hiz1 => simp only [List.getElem?_toArray, List.getElem?_cons_zero, List.getElem?_cons_succ]; rfl
  case hQz1 => exact fun _ _ _ h => h
  case hyz1 => refine yields_loadB B0.out aggBookL hn0 ?_ _ rfl rfl; rfl
  try simp only [Act.put, List.setIfInBounds_toArray, List.set_cons_zero, List.set_cons_succ]
  refine wpAnyH_take (i := 2) (oi := ?oiz2) (v := (.agg cs1)) ?hiz2 (by kernel_rfl) (by kernel_rfl) (by kernel_rfl) ?hQz2 ?hyz2 (by assumption) ?restz2
  case hiz2 => simp only [List.getElem?_toArray, List.getElem?_cons_zero, List.getElem?_cons_succ]; rfl
  case hQz2 => exact fun _ _ _ h => h
  case hyz2 => refine yields_loadB B1.out aggBookL hn1 ?_ _ rfl rfl; rfl
  try simp only [Act.put, List.setIfInBounds_toArray, List.set_cons_zero, List.set_cons_succ]
  refine wpAnyH_ready (rs := [1]) (by kernel_rfl) (by simp) (AllReadyH.cons (o := ?oy3) ?hy3 (fun K hK => ?sy3) AllReadyH.nil)
  case hy3 => simp only [List.getElem?_toArray, List.getElem?_cons_zero, List.getElem?_cons_succ]; rfl
  go_simp
  refine (toBook_u _ x0 _ _ (H0.out.ext (XW.out.trans hHeld)) hln0).mono ?_
  rintro e w3 ⟨vs0, rfl, ho, hx⟩
  have Os0 := Lib.hid ho
  clear ho
  have hH2 := hHeld.trans hx
  refine hK.out _ _ hH2 (fun _ => ?_)
  clear hHeld hK K
  have hHeld := hH2
  clear hH2
  try simp only [Act.put, List.setIfInBounds_toArray, List.set_cons_zero, List.set_cons_succ]
  refine wpAnyH_ready (rs := [3]) (by kernel_rfl) (by simp) (AllReadyH.cons (o := ?oy4) ?hy4 (fun K hK => ?sy4) AllReadyH.nil)
  case hy4 => simp only [List.getElem?_toArray, List.getElem?_cons_zero, List.getElem?_cons_succ]; rfl
  go_simp
  refine (toBook_u _ x1 _ _ (H1.out.ext (XW.out.trans hHeld)) hln1).mono ?_
  rintro e w4 ⟨vs1, rfl, ho, hx⟩
  have Os1 := Lib.hid ho
  clear ho
  replace Os0 := Lib.hid (Os0.out.ext hx)
  have hH2 := hHeld.trans hx
  refine hK.out _ _ hH2 (fun _ => ?_)
  clear hHeld hK K
  have hHeld := hH2
  clear hH2
  try simp only [Act.put, List.setIfInBounds_toArray, List.set_cons_zero, List.set_cons_succ]
  refine wpAnyH_ready (rs := [4]) (by kernel_rfl) (by simp) (AllReadyH.cons (o := ?oy5) ?hy5 (fun K hK => ?sy5) AllReadyH.nil)
  case hy5 => simp only [List.getElem?_toArray, List.getElem?_cons_zero, List.getElem?_cons_succ]; rfl
  go_simp
  refine (specSameBook_u _ _ x0 x1 _ _ _ Os0.out Os1.out).mono ?_
  rintro e w5 ⟨he, hx⟩
  rw [HR.out] at he
  subst he
  clear Os0 Os1
  have hH2 := hHeld.trans hx
  refine hK.out _ _ hH2 (fun _ => ?_)
  clear hHeld hK K
  have hHeld := hH2
  clear hH2
  try simp only [Act.put, List.setIfInBounds_toArray, List.set_cons_zero, List.set_cons_succ]
  refine wpAnyH_take (i := 5) (oi := ?oiz6) (v := ?vz6) ?hiz6 (by kernel_rfl) (by kernel_rfl) (by kernel_rfl) ?hQz6 ?hyz6 (by assumption) ?restz6
  case hiz6 => simp only [List.getElem?_toArray, List.getElem?_cons_zero, List.getElem?_cons_succ]; rfl
  case hQz6 => exact fun _ _ _ h => h
  case hyz6 => exact Or.inl ⟨by rfl, by intro w hSw; go_simp; with_reducible rfl⟩
  try simp only [Act.put, List.setIfInBounds_toArray, List.set_cons_zero, List.set_cons_succ]
  refine wpAnyH_done (by kernel_rfl) ?_ _
  replace B0 := Lib.hid (B0.out.ext hHeld)
  replace B1 := Lib.hid (B1.out.ext hHeld)
  replace XW := Lib.hid (XW.out.trans hHeld)
  clear hHeld
  go_wp2_with (first | (refine wpl_loadB B0.out aggBookL hn0 rfl _ rfl rfl ?_) | (refine wpl_loadB B1.out aggBookL hn1 rfl _ rfl rfl ?_))
  refine (toBook_u _ x0 _ _ (H0.out.ext XW.out) hln0).mono ?_
  rintro e w6 ⟨vx0, rfl, ho, hx⟩
  replace B0 := Lib.hid (B0.out.ext hx)
  replace B1 := Lib.hid (B1.out.ext hx)
  replace XW := Lib.hid (XW.out.trans hx)
  have Ox0 := Lib.hid ho
  clear ho
  have Znx0 := Ox0.out.st.size
  have Zsx0 := Lib.hid Ox0.out.st
  clear hx
  go_wp2_with (first | (refine wpl_storeNewB aggBookI Zsx0.out rfl rfl _ _ rfl rfl rfl rfl ?_) | (refine wpl_loadB (Blk.new w6 57 vx0) aggBookI Znx0 rfl _ rfl rfl ?_) | (refine wpl_loadB B0.out aggBookL hn0 rfl _ rfl rfl ?_) | (refine wpl_loadB (B0.out.alloc _) aggBookL hn0 rfl _ rfl rfl ?_) | (refine wpl_loadB B1.out aggBookL hn1 rfl _ rfl rfl ?_) | (refine wpl_loadB (B1.out.alloc _) aggBookL hn1 rfl _ rfl rfl ?_))
  refine (toBook_u _ x1 _ _ (H1.out.ext (XW.out.alloc _)) hln1).mono ?_
  rintro e w7 ⟨vx1, rfl, ho, hx⟩
  have hE := (ext_alloc w6 (.cells vx0 57)).trans hx
  replace Ox0 := Lib.hid (Ox0.out.ext hE)
  replace B0 := Lib.hid (B0.out.ext hE)
  replace B1 := Lib.hid (B1.out.ext hE)
  replace XW := Lib.hid (XW.out.trans hE)
  clear hE
  have Vx0 := Lib.hid ((Blk.new w6 57 vx0).ext hx)
  have Ox1 := Lib.hid ho
  clear ho
  have Znx1 := Ox1.out.st.size
  have Zsx1 := Lib.hid Ox1.out.st
  clear hx
  go_wp2_with (first | (refine wpl_storeNewB aggBookI Zsx1.out rfl rfl _ _ rfl rfl rfl rfl ?_) | (refine wpl_loadB (Blk.new w7 57 vx1) aggBookI Znx1 rfl _ rfl rfl ?_) | (refine wpl_loadB B0.out aggBookL hn0 rfl _ rfl rfl ?_) | (refine wpl_loadB (B0.out.alloc _) aggBookL hn0 rfl _ rfl rfl ?_) | (refine wpl_loadB B1.out aggBookL hn1 rfl _ rfl rfl ?_) | (refine wpl_loadB (B1.out.alloc _) aggBookL hn1 rfl _ rfl rfl ?_) | (refine wpl_loadB Vx0.out aggBookI Znx0 rfl _ rfl rfl ?_) | (refine wpl_loadB (Vx0.out.alloc _) aggBookI Znx0 rfl _ rfl rfl ?_))
  refine (implSameBook_u _ _ x0 x1 _ _ _ (Ox0.out.ext (ext_alloc _ _)) (Ox1.out.ext (ext_alloc _ _))).mono ?_
  rintro e w8 ⟨he, hx⟩
  rw [HR.out] at he
  subst he
  have hE := (ext_alloc w7 (.cells vx1 57)).trans hx
  replace Ox0 := Lib.hid (Ox0.out.ext hE)
  replace Ox1 := Lib.hid (Ox1.out.ext hE)
  replace B0 := Lib.hid (B0.out.ext hE)
  replace B1 := Lib.hid (B1.out.ext hE)
  replace Vx0 := Lib.hid (Vx0.out.ext hE)
  replace XW := Lib.hid (XW.out.trans hE)
  clear hE
  have Vx1 := Lib.hid ((Blk.new w7 57 vx1).ext hx)
  clear hx
  go_wp2_with (first | (refine wpl_loadB B0.out aggBookL hn0 rfl _ rfl rfl ?_) | (refine wpl_loadB B1.out aggBookL hn1 rfl _ rfl rfl ?_) | (refine wpl_loadB Vx0.out aggBookI Znx0 rfl _ rfl rfl ?_) | (refine wpl_loadB Vx1.out aggBookI Znx1 rfl _ rfl rfl ?_))
  refine wp_region_held_drew (S := fun W => Ext w8 W) (by kernel_rfl) (Ext.refl _).drew (fun hHeld => ?_)
  refine wpAnyH_take (i := 0) (oi := ?oiz7) (v := (.agg vx0)) ?hiz7 (by kernel_rfl) (by kernel_rfl) (by kernel_rfl) ?hQz7 ?hyz7 (by assumption) ?restz7
  case hiz7 => simp only [List.getElem?_toArray, List.getElem?_cons_zero, List.getElem?_cons_succ]; rfl
  case hQz7 => exact fun _ _ _ h => h
  case hyz7 => refine yields_loadB Vx0.out aggBookI Znx0 ?_ _ rfl rfl; rfl
  try simp only [Act.put, List.setIfInBounds_toArray, List.set_cons_zero, List.set_cons_succ]
  refine wpAnyH_take (i := 1) (oi := ?oiz8) (v := (.agg cs0)) ?hiz8 (by kernel_rfl) (by kernel_rfl) (by kernel_rfl) ?hQz8 ?hyz8 (by assumption) ?restz8
  case hiz8 => simp only [List.getElem?_toArray, List.getElem?_cons_zero, List.getElem?_cons_succ]; rfl
  case hQz8 => exact fun _ _ _ h => h
  case hyz8 => refine yields_loadB B0.out aggBookL hn0 ?_ _ rfl rfl; rfl
  try simp only [Act.put, List.setIfInBounds_toArray, List.set_cons_zero, List.set_cons_succ]
  refine wpAnyH_ready (rs := [2]) (by kernel_rfl) (by simp) (AllReadyH.cons (o := ?oy9) ?hy9 (fun K hK => ?sy9) AllReadyH.nil)
  case hy9 => simp only [List.getElem?_toArray, List.getElem?_cons_zero, List.getElem?_cons_succ]; rfl
  go_simp
  refine (toBook_u _ x0 _ _ (H0.out.ext (XW.out.trans hHeld)) hln0).mono ?_
  rintro e w9 ⟨vy0, rfl, ho, hx⟩
  have hH2 := hHeld.trans hx
  refine hK.out _ _ hH2 (fun _ => ?_)
  clear hHeld hK K
  have hHeld := hH2
  clear hH2
  try simp only [Act.put, List.setIfInBounds_toArray, List.set_cons_zero, List.set_cons_succ]
  refine wpAnyH_ready (rs := [3]) (by kernel_rfl) (by simp) (AllReadyH.cons (o := ?oy10) ?hy10 (fun K hK => ?sy10) AllReadyH.nil)
  case hy10 => simp only [List.getElem?_toArray, List.getElem?_cons_zero, List.getElem?_cons_succ]; rfl
  go_simp
  refine (eqBook_u _ _ x0 _ _ _ (Ox0.out.ext hHeld) ho).mono ?_
  rintro e w10 ⟨rfl, hx⟩
  have hH2 := hHeld.trans hx
  refine hK.out _ _ hH2 (fun _ => ?_)
  clear hHeld hK K
  have hHeld := hH2
  clear hH2
  try simp only [Act.put, List.setIfInBounds_toArray, List.set_cons_zero, List.set_cons_succ]
  refine wpAnyH_take (i := 4) (oi := ?oiz11) (v := ?vz11) ?hiz11 (by kernel_rfl) (by kernel_rfl) (by kernel_rfl) ?hQz11 ?hyz11 (by assumption) ?restz11
  case hiz11 => simp only [List.getElem?_toArray, List.getElem?_cons_zero, List.getElem?_cons_succ]; rfl
  case hQz11 => exact fun _ _ _ h => h
  case hyz11 => exact Or.inl ⟨by rfl, by intro w hSw; go_simp; with_reducible rfl⟩
  try simp only [Act.put, List.setIfInBounds_toArray, List.set_cons_zero, List.set_cons_succ]
  refine wpAnyH_done (by kernel_rfl) ?_ _
  replace Ox0 := Lib.hid (Ox0.out.ext hHeld)
  replace Ox1 := Lib.hid (Ox1.out.ext hHeld)
  replace B0 := Lib.hid (B0.out.ext hHeld)
  replace B1 := Lib.hid (B1.out.ext hHeld)
  replace Vx0 := Lib.hid (Vx0.out.ext hHeld)
  replace Vx1 := Lib.hid (Vx1.out.ext hHeld)
  replace XW := Lib.hid (XW.out.trans hHeld)
  clear hHeld
  go_wp2_with (first | (refine wpl_loadB B0.out aggBookL hn0 rfl _ rfl rfl ?_) | (refine wpl_loadB B1.out aggBookL hn1 rfl _ rfl rfl ?_) | (refine wpl_loadB Vx0.out aggBookI Znx0 rfl _ rfl rfl ?_) | (refine wpl_loadB Vx1.out aggBookI Znx1 rfl _ rfl rfl ?_))
  refine wp_region_held_drew (S := fun W => Ext w10 W) (by kernel_rfl) (Ext.refl _).drew (fun hHeld => ?_)
  refine wpAnyH_take (i := 0) (oi := ?oiz12) (v := (.agg vx1)) ?hiz12 (by kernel_rfl) (by kernel_rfl) (by kernel_rfl) ?hQz12 ?hyz12 (by assumption) ?restz12
  case hiz12 => simp only [List.getElem?_toArray, List.getElem?_cons_zero, List.getElem?_cons_succ]; rfl
  case hQz12 => exact fun _ _ _ h => h
  case hyz12 => refine yields_loadB Vx1.out aggBookI Znx1 ?_ _ rfl rfl; rfl
  try simp only [Act.put, List.setIfInBounds_toArray, List.set_cons_zero, List.set_cons_succ]
  refine wpAnyH_take (i := 1) (oi := ?oiz13) (v := (.agg cs1)) ?hiz13 (by kernel_rfl) (by kernel_rfl) (by kernel_rfl) ?hQz13 ?hyz13 (by assumption) ?restz13
  case hiz13 => simp only [List.getElem?_toArray, List.getElem?_cons_zero, List.getElem?_cons_succ]; rfl
  case hQz13 => exact fun _ _ _ h => h
  case hyz13 => refine yields_loadB B1.out aggBookL hn1 ?_ _ rfl rfl; rfl
  try simp only [Act.put, List.setIfInBounds_toArray, List.set_cons_zero, List.set_cons_succ]
  refine wpAnyH_ready (rs := [2]) (by kernel_rfl) (by simp) (AllReadyH.cons (o := ?oy14) ?hy14 (fun K hK => ?sy14) AllReadyH.nil)
  case hy14 => simp only [List.getElem?_toArray, List.getElem?_cons_zero, List.getElem?_cons_succ]; rfl
  go_simp
  refine (toBook_u _ x1 _ _ (H1.out.ext (XW.out.trans hHeld)) hln1).mono ?_
  rintro e w11 ⟨vy1, rfl, ho, hx⟩
  have hH2 := hHeld.trans hx
  refine hK.out _ _ hH2 (fun _ => ?_)
  clear hHeld hK K
  have hHeld := hH2
  clear hH2
  try simp only [Act.put, List.setIfInBounds_toArray, List.set_cons_zero, List.set_cons_succ]
  refine wpAnyH_ready (rs := [3]) (by kernel_rfl) (by simp) (AllReadyH.cons (o := ?oy15) ?hy15 (fun K hK => ?sy15) AllReadyH.nil)
  case hy15 => simp only [List.getElem?_toArray, List.getElem?_cons_zero, List.getElem?_cons_succ]; rfl
  go_simp
  refine (eqBook_u _ _ x1 _ _ _ (Ox1.out.ext hHeld) ho).mono ?_
  rintro e w12 ⟨rfl, hx⟩
  have hH2 := hHeld.trans hx
  refine hK.out _ _ hH2 (fun _ => ?_)
  clear hHeld hK K
  have hHeld := hH2
  clear hH2
  try simp only [Act.put, List.setIfInBounds_toArray, List.set_cons_zero, List.set_cons_succ]
  refine wpAnyH_take (i := 4) (oi := ?oiz16) (v := ?vz16) ?hiz16 (by kernel_rfl) (by kernel_rfl) (by kernel_rfl) ?hQz16 ?hyz16 (by assumption) ?restz16
  case hiz16 => simp only [List.getElem?_toArray, List.getElem?_cons_zero, List.getElem?_cons_succ]; rfl
  case hQz16 => exact fun _ _ _ h => h
  case hyz16 => exact Or.inl ⟨by rfl, by intro w hSw; go_simp; with_reducible rfl⟩
  try simp only [Act.put, List.setIfInBounds_toArray, List.set_cons_zero, List.set_cons_succ]
  refine wpAnyH_done (by kernel_rfl) ?_ _
  replace Ox0 := Lib.hid (Ox0.out.ext hHeld)
  replace Ox1 := Lib.hid (Ox1.out.ext hHeld)
  replace B0 := Lib.hid (B0.out.ext hHeld)
  replace B1 := Lib.hid (B1.out.ext hHeld)
  replace Vx0 := Lib.hid (Vx0.out.ext hHeld)
  replace Vx1 := Lib.hid (Vx1.out.ext hHeld)
  replace XW := Lib.hid (XW.out.trans hHeld)
  clear hHeld
  go_wp2_with (first | (refine wpl_loadB B0.out aggBookL hn0 rfl _ rfl rfl ?_) | (refine wpl_loadB B1.out aggBookL hn1 rfl _ rfl rfl ?_) | (refine wpl_loadB Vx0.out aggBookI Znx0 rfl _ rfl rfl ?_) | (refine wpl_loadB Vx1.out aggBookI Znx1 rfl _ rfl rfl ?_))
  go_ret
  exact ⟨rfl, XW.out⟩
end Go.Proofs.Yteegnbdgfedajaa
/- A list of entries as an argument. No condition. -/
namespace Go.Proofs.Yteegnbdgfedajaa
open Go.RowKit
theorem c_ent : ∀ {w : World} {S : Nat → Prop} (es : List Value) (x : ByteArray × ByteArray), cPair cStr cStr w S es x → es = tEnt.enc x ∧ tEnt.ok x := by
  rintro w S es x ⟨c1, c2, rfl, ⟨rfl, h1⟩, rfl, h2⟩
  exact ⟨rfl, h1, h2⟩
end Go.Proofs.Yteegnbdgfedajaa
/- A book as an argument. No condition. -/
namespace Go.Proofs.Yteegnbdgfedajaa
open Go.RowKit
set_option linter.unusedVariables false
/-- a slice whose elements hold slices -/
theorem rdn_of9 {α β : Type} {N : NR β} {c : Cd α} {w : World} {S : Nat → Prop} {v : Value} {xs : List α} (f : α → β) (hc : ∀ es x, c w S es x → es.length = N.sz → N.R w S es.toArray (f x)) (h : cSl N.sz c w S [v] xs) : RdN N w S v (xs.map f) := by
  obtain ⟨A, cap, hv, h1, h2, h3⟩ := h
  obtain rfl : v = .slice A xs.length cap := by simpa using hv
  refine ⟨A, cap, by rw [List.length_map], by rw [List.length_map]; exact h1, by rw [List.length_map]; omega, fun hn => ?_⟩
  rw [List.length_map] at hn
  obtain ⟨g, o, e, hS, h4⟩ := h3 hn
  refine ⟨g, o, e, hS, fun i hi => ?_⟩
  rw [List.length_map] at hi
  obtain ⟨es, h5, h6, h7⟩ := h4 i hi
  exact ⟨es, h5, h6, by rw [List.getElem_map]; exact hc es _ h7 h5⟩
abbrev CmT := List Int × List (List Int) × Int × ByteArray
def cmOf (x : CmT) : Cm := ⟨x.1, x.2.1, x.2.2.1, x.2.2.2⟩
theorem rdn_commits {w : World} {S : Nat → Prop} {v : Value} {xs : List CmT} (h : cSl 35 (cPair (cArr8 32) (cPair (cSl 32 (cArr8 32)) (cPair (cInt .i64) cStr))) w S [v] xs) : RdN nrCommit w S v (xs.map cmOf) := by
  refine rdn_of9 (N := nrCommit) cmOf (fun es x hx _ => ?_) h
  obtain ⟨c1, c2, rfl, ⟨h1, hl, hb⟩, c3, c4, rfl, hpar, c5, c6, rfl, ⟨h5, hnum⟩, h6, hnote⟩ := hx
  obtain ⟨A, cap, rfl, _⟩ := id hpar
  subst h1 h5 h6
  exact ⟨_, by simp [Cm.cells, cmOf], rdl_of (T := tKey) c_key hpar, ⟨hl, hb⟩, hnum, hnote⟩
theorem rdn_ents {w : World} {S : Nat → Prop} {v : Value} {xs : List Ens} (h : cSl 1 (cSl 2 (cPair cStr cStr)) w S [v] xs) : RdN nrEnts w S v xs := by
  have := rdn_of9 (N := nrEnts) (f := fun x : Ens => x) (fun es x hx _ => by
    obtain ⟨A, cap, rfl, _⟩ := id hx
    exact ⟨_, rfl, rdl_of (T := tEnt) c_ent hx⟩) h
  simpa using this
end Go.Proofs.Yteegnbdgfedajaa
