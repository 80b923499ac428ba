/- What the walk of the law FnHashers needs, part 2 of 2. No condition. -/
import Derived.Laws.StructEq
import Derived.BigFrame
import Derived.Test.YtdjclllnmclocaaPFnHashers1
/- Data and keys that are drawn from a source; numbers out of bytes. No condition. -/
namespace Go.Proofs.Ytdjclllnmclocaa
open Go.RowKit
set_option linter.unusedVariables false
set_option linter.unusedSimpArgs false

theorem grownR {a b c : World} {row r2 : Option Nat} (h : a.grownBy b row) (hg : b.grownBy c r2) (hk : ∀ k, r2 = some k → a.heap.size ≤ k) : a.grownBy c row :=
  ⟨hg.os.trans h.os, hg.tape.trans h.tape, hg.output.trans h.output, Nat.le_trans h.size hg.size, fun i hi hn => (hg.block i (Nat.lt_of_lt_of_le hi h.size) (fun e => by have := hk i e.symm; omega)).trans (h.block i hi hn)⟩
theorem Own.ne_sA {α : Type} {T : Ty α} {e : TypeId} {w : World} {base : Nat} {v : Value} {xs : List α} {g : Nat} (h : Own T e w base v xs) (hg : g < base) : v.ownBlock = none ∨ v.ownBlock ≠ some g := by
  refine .inr fun q => ?_
  have := (h.base_le g q).1
  omega
theorem rowByteA : Row Try.prog tByte 22 5 1 := Row.mk' Try.underlying22 (.int .u8 0) (by kernel_rfl) rfl (by decide) (by decide)
theorem u8_in (x : Int) (h0 : 0 ≤ x) (h1 : x ≤ 255) : IntKind.u8.wrap x = x := by simp [IntKind.wrap, IntKind.bits, IntKind.signed]; omega
set_option maxHeartbeats 1000000 in
set_option maxRecDepth 100000 in
theorem a2Long_any (A A' : Option Addr) (n m c c' : Nat) (w : World) (b : Bool) (hb : (decide (3000 < n) || decide (3000 < m)) = b) :
    Calls Try.prog 8 #[.slice A n c, .slice A' m c'] w fun e w' => e = .returned (.bool b) ∧ w = w' := by
  by_cases h1 : 3000 < n
  · have h1' : (3000 : Int) < (n : Int) := by omega
    have e : b = true := by rw [← hb, decide_eq_true h1]; rfl
    subst e
    clear hb
    go_enter Try.func8, Try.ntmps8
    go_wp2
    go_ret
    exact ⟨rfl, rfl⟩
  · have h1' : ¬ (3000 : Int) < (n : Int) := by omega
    by_cases h2 : 3000 < m
    · have h2' : (3000 : Int) < (m : Int) := by omega
      have e : b = true := by rw [← hb, decide_eq_true h2]; simp
      subst e
      clear hb
      go_enter Try.func8, Try.ntmps8
      go_wp2
      go_ret
      exact ⟨rfl, rfl⟩
    · have h2' : ¬ (3000 : Int) < (m : Int) := by omega
      have e : b = false := by rw [← hb, decide_eq_false h1, decide_eq_false h2]; rfl
      subst e
      clear hb
      go_enter Try.func8, Try.ntmps8
      go_wp2
      go_ret
      exact ⟨rfl, rfl⟩
set_option maxHeartbeats 1000000 in
set_option maxRecDepth 100000 in
theorem a2At_any (v : Value) (xs : List Int) (i : Nat) (n : Int) (hn : n ≤ 4611686018427387904) (w : World) (S : Nat → Prop) (h : RdL tByte w S v xs) (hi : i ≤ 1000) :
    Calls Try.prog 11 #[v, .int .i64 i, .int .i64 n] w fun e w' => ∃ r : Int, e = .returned (.int .i64 r) ∧ 0 ≤ r ∧ (r < n ∨ r = 0) ∧ w = w' := by
  obtain ⟨A, cap, rfl, hcap, hlen, hrd, hok⟩ := h
  have hrd' : Rd w S 1 A xs.length (nums .u8 xs) := by rw [← flat_bytes]; exact hrd
  clear hrd
  by_cases h1 : i < xs.length
  · have h1' : ¬ (xs.length : Int) ≤ (i : Int) := by omega
    have h1'' : (i : Int) < (xs.length : Int) := by omega
    have hi0 : (0 : Int) ≤ (i : Int) := by omega
    by_cases h2 : n < 1
    · go_enter Try.func11, Try.ntmps11
      go_wp2
      go_ret
      exact ⟨0, rfl, by omega, .inr rfl, rfl⟩
    · obtain ⟨g, o, rfl, hs, hc⟩ := hrd'.byte i h1
      have hb := B8.get hok i
      have hn0 : ¬ n = 0 := by omega
      obtain ⟨z, hz⟩ : ∃ z, gI xs i = z := ⟨_, rfl⟩
      rw [hz] at hc hb
      have hw : IntKind.i64.wrap z = z := IntWalk.i64_in _ (by omega)
      have hm := Int.tmod_nonneg n (a := z) hb.1
      have hm2 := Int.tmod_lt_of_pos z (b := n) (by omega)
      clear hok hrd' hz
      go_enter Try.func11, Try.ntmps11
      go_wp2
      go_ret
      first
        | exact ⟨_, rfl, Int.emod_nonneg _ (by omega), .inl (Int.emod_lt_of_pos _ (by omega)), rfl⟩
        | exact ⟨_, rfl, hm, .inl hm2, rfl⟩
  · have h1' : (xs.length : Int) ≤ (i : Int) := by omega
    go_enter Try.func11, Try.ntmps11
    go_wp2
    go_ret
    exact ⟨0, rfl, by omega, .inr rfl, rfl⟩
set_option maxHeartbeats 1000000 in
set_option maxRecDepth 100000 in
theorem a2Join_any (v u : Value) (xs ys : List Int) (hl : xs.length + ys.length ≤ 1000000) (w : World) (S S' : Nat → Prop) (h : RdL tByte w S v xs) (h' : RdL tByte w S' u ys) :
    Calls Try.prog 9 #[v, u] w fun e w' => ∃ v', e = .returned v' ∧ Own tByte 5 w' w.heap.size v' (xs ++ ys) ∧ Ext w w' := by
  obtain ⟨A, cap, rfl, hcap, hlen, hrd, hok⟩ := h
  obtain ⟨A', cap', rfl, hcap', hlen', hrd', hok'⟩ := h'
  have H1 := Lib.hid hrd
  have H2 := Lib.hid hrd'
  have K1 := Lib.hid hok
  have K2 := Lib.hid hok'
  clear hrd hok hrd' hok'
  go_enter Try.func9, Try.ntmps9
  go_wp2_with (first
    | (at_builtin; refine wpl_append rowByteA rfl _ _ rfl rfl (Own.empty tByte w 5 w.heap.size (Nat.le_refl _)) _ _ rfl rfl (H1.out.ext (by decide) (ext_alloc _ _)) K1.out (by simp; omega) (by simp) ?_; intro v1 w1 ho1 hg1 hat1; obtain ⟨A1, n1, c1, rfl⟩ := ho1.shape3; have X1 := Lib.hid ((ext_alloc w _).grown hg1 (fun k hk => Nat.le_of_eq (Option.some.inj hk))); have HO := Lib.hid ho1; clear ho1 hg1 hat1)
    | (at_builtin; refine wpl_append rowByteA rfl _ _ rfl (v := .slice A1 n1 c1) rfl HO.out _ _ rfl rfl (H2.out.ext (by decide) X1.out) K2.out (by simp; omega) X1.out.size ?_; intro v2 w2 ho2 hg2 hat2; obtain ⟨A2, n2, c2, rfl⟩ := ho2.shape3; have X2 := Lib.hid (HO.out.ext_app X1.out hg2); have HO2 := Lib.hid ho2; clear ho2 hg2 hat2))
  go_ret
  exact ⟨_, rfl, by simpa using HO2.out, X2.out⟩
set_option maxHeartbeats 4000000 in
set_option maxRecDepth 100000 in
theorem l01Data_any (g : Nat) (b : Int) (hb : b ≤ 4611686018427380000) (most : Nat) (hm : most ≤ 100) (w : World) (h : Src w g b) :
    Calls Try.prog 45 #[.pointer (some ⟨g, 0, none⟩), .int .i64 most] w fun e w' => ∃ v' xs, e = .returned v' ∧ Own tByte 5 w' w.heap.size v' xs ∧ xs.length ≤ most ∧ Src w' g (b + 404) ∧ w.grownBy w' (some g) := by
  have hgl := h.lt
  have hm1 : (most : Int) + 1 ≤ 4611686018427387904 := by omega
  have hw1 : IntKind.i64.wrap ((most : Int) + 1) = (most : Int) + 1 := IntWalk.i64_in _ (by omega)
  go_enter Try.func45, Try.ntmps45
  go_wp2_with fail
  refine (srcOne_any g b (by omega) 2 (by omega) _ (h.ext (ext_alloc _ _))).mono ?_
  rintro e w1 ⟨few, rfl, hs, hg⟩
  have HO := Lib.hid ((Own.empty tByte w 5 w.heap.size (Nat.le_refl _)).kept hg ((Own.empty tByte w 5 w.heap.size (Nat.le_refl _)).ne_sA hgl))
  have HS := Lib.hid hs
  have HG := Lib.hid (grown_trans (ext_grown (some g) (ext_alloc w (Obj.cells #[] 5))) hg)
  clear hs hg h
  go_wp2_with fail
  refine (srcPick_any g (b + 2) (by omega) (most + 1) (by omega) _ HS.out).mono ?_
  rintro e w2 ⟨n, rfl, hn0, hn1, hs, hg⟩
  obtain ⟨n, rfl⟩ := Int.eq_ofNat_of_zero_le hn0
  have hn2 : n ≤ most := by omega
  replace HO := Lib.hid (HO.out.kept hg (HO.out.ne_sA hgl))
  replace HS := Lib.hid hs
  replace HG := Lib.hid (grown_trans HG.out hg)
  clear hs hg hw1
  go_wp2
  go_loopw [5, 7, 8] (fun a i _ wr => ∃ (k : Nat) (xs : List Int), k ≤ n ∧ i = .int .i64 k ∧ Own tByte 5 wr w.heap.size a xs ∧ xs.length + k ≤ most ∧ Src wr g (b + 4 + 4 * (n - k)) ∧ w.grownBy wr (some g)) (fun _ i _ _ => (intOf i).toNat)
  case atStart => exact ⟨n, [], by omega, rfl, HO.out, by simp; omega, HS.out.le (by omega), HG.out⟩
  case round =>
    obtain ⟨k, xs, hk, rfl, ho, hl, hs, hg⟩ := hrel
    obtain ⟨C, cn, cc, rfl⟩ := ho.shape3
    clear HO HS HG
    have HO := Lib.hid ho
    have HS := Lib.hid hs
    have HG := Lib.hid hg
    have HL := Lib.hid hl
    clear ho hs hg hl
    by_cases h0 : 0 < k
    · have hi : (0 : Int) < (k : Int) := by omega
      go_wp2_with fail
      refine (srcPick_any g _ (by omega) 256 (by omega) _ HS.out).mono ?_
      rintro e w3 ⟨x, rfl, hx0, hx1, hs, hg⟩
      have hx2 : x ≤ 255 := by omega
      replace HO := Lib.hid (HO.out.kept hg (HO.out.ne_sA hgl))
      replace HS := Lib.hid hs
      replace HG := Lib.hid (grown_trans HG.out hg)
      have hu := u8_in x hx0 hx2
      clear hs hg hx1
      cases few with
      | false =>
        have hxok : tByte.ok x := ⟨hx0, hx2⟩
        go_wp2_with (at_builtin; refine wpl_append rowByteA rfl _ _ rfl (v := .slice C cn cc) rfl (HO.out.alloc (.cells #[.int .u8 x] 5)) _ _ rfl (A := some ⟨w3.heap.size, 0, none⟩) (ys := [x]) rfl (rd_one (T := tByte) w3 x hxok _) (by intro y hy; obtain rfl := List.mem_singleton.1 hy; exact hxok) (by have := HL.out; simp; omega) (by have := HG.out.size; simp; omega) ?_; intro v5 w5 ho5 hg5 hat5; have HS5 := Lib.hid ((HS.out.ext (ext_alloc w3 (.cells #[.int .u8 x] 5))).later hg5 (fun q hq => Nat.lt_of_lt_of_le hgl (HO.out.base_le q hq).1)); have HG5 := Lib.hid (grownR (grown_ext HG.out (ext_alloc w3 (.cells #[.int .u8 x] 5))) hg5 (fun q hq => (HO.out.base_le q hq).1)); have HO5 := Lib.hid ho5; obtain ⟨C5, n5, c5, rfl⟩ := ho5.shape3; clear ho5 hg5 hat5)
        go_roundw
        case rel => exact ⟨k - 1, _, by omega, by go_num, HO5.out, by have := HL.out; simp; omega, HS5.out.le (by omega), HG5.out⟩
        case measure => simp [intOf]; omega
      | true =>
        go_wp2_with fail
        refine (srcPick_any g _ (by omega) 3 (by omega) _ HS.out).mono ?_
        rintro e w4 ⟨y, rfl, hy0, hy1, hs, hg⟩
        have hy2 : y ≤ 255 := by omega
        replace HO := Lib.hid (HO.out.kept hg (HO.out.ne_sA hgl))
        replace HS := Lib.hid hs
        replace HG := Lib.hid (grown_trans HG.out hg)
        have hu2 := u8_in y hy0 hy2
        have hxok : tByte.ok y := ⟨hy0, hy2⟩
        clear hs hg hy1 hu
        go_wp2_with (at_builtin; refine wpl_append rowByteA rfl _ _ rfl (v := .slice C cn cc) rfl (HO.out.alloc (.cells #[.int .u8 y] 5)) _ _ rfl (A := some ⟨w4.heap.size, 0, none⟩) (ys := [y]) rfl (rd_one (T := tByte) w4 y hxok _) (by intro q hq; obtain rfl := List.mem_singleton.1 hq; exact hxok) (by have := HL.out; simp; omega) (by have := HG.out.size; simp; omega) ?_; intro v5 w5 ho5 hg5 hat5; have HS5 := Lib.hid ((HS.out.ext (ext_alloc w4 (.cells #[.int .u8 y] 5))).later hg5 (fun q hq => Nat.lt_of_lt_of_le hgl (HO.out.base_le q hq).1)); have HG5 := Lib.hid (grownR (grown_ext HG.out (ext_alloc w4 (.cells #[.int .u8 y] 5))) hg5 (fun q hq => (HO.out.base_le q hq).1)); have HO5 := Lib.hid ho5; obtain ⟨C5, n5, c5, rfl⟩ := ho5.shape3; clear ho5 hg5 hat5)
        go_roundw
        case rel => exact ⟨k - 1, _, by omega, by go_num, HO5.out, by have := HL.out; simp; omega, HS5.out.le (by omega), HG5.out⟩
        case measure => simp [intOf]; omega
    · obtain rfl : k = 0 := by omega
      go_wp2
      go_ret
      exact ⟨_, xs, rfl, HO.out, by have := HL.out; omega, HS.out.le (by omega), HG.out⟩
set_option maxHeartbeats 1000000 in
set_option maxRecDepth 100000 in
theorem a2Data_any (v : Value) (code : List Int) (most : Nat) (hm : most ≤ 100) (w : World) (S : Nat → Prop) (h : RdL tByte w S v code) :
    Calls Try.prog 10 #[v, .int .i64 most] w fun e w' => ∃ v' xs, e = .returned v' ∧ Own tByte 5 w' w.heap.size v' xs ∧ xs.length ≤ most ∧ Ext w w' := by
  obtain ⟨A, cap, rfl, _⟩ := id h
  go_enter Try.func10, Try.ntmps10
  go_wp2_with fail
  refine (l00From_any _ code _ _ h).mono ?_
  rintro e w1 ⟨rfl, hs, hx⟩
  go_wp2_with fail
  refine (l01Data_any _ 0 (by decide) most hm _ hs).mono ?_
  rintro e w2 ⟨v2, xs, rfl, ho, hl, _, hg⟩
  obtain ⟨A2, n2, c2, rfl⟩ := ho.shape3
  have HX := Lib.hid (hx.grown hg (fun k e => by injection e with e; omega))
  have HO := Lib.hid (ho.le hx.size)
  clear ho hg hs hx
  go_wp2
  go_ret
  exact ⟨_, xs, rfl, HO.out, hl, HX.out⟩
end Go.Proofs.Ytdjclllnmclocaa
/- Slices whose elements hold slices themselves: how they read. No condition. -/
namespace Go.Proofs.Ytdjclllnmclocaa
open Go.RowKit
set_option linter.unusedVariables false
set_option linter.unusedSimpArgs false

/-- how the cells of an element read -/
structure NR (α : Type) where
  sz : Nat
  R : World → (Nat → Prop) → Array Value → α → Prop
  pos : 0 < sz
  keep : ∀ {w w' : World} {S : Nat → Prop} {cs : Array Value} {x : α}, R w S cs x → (∀ g, S g → w'.heap[g]? = w.heap[g]?) → R w' S cs x
  ext : ∀ {w w' : World} {S : Nat → Prop} {cs : Array Value} {x : α}, R w S cs x → Ext w w' → R w' S cs x
  mono : ∀ {w : World} {S S' : Nat → Prop} {cs : Array Value} {x : α}, R w S cs x → (∀ g, S g → S' g) → R w S' cs x
  st : ∀ {w : World} {S : Nat → Prop} {cs : Array Value} {x : α}, R w S cs x → St sz cs
/-- the value v is a slice whose elements read as xs -/
def RdN {α : Type} (N : NR α) (w : World) (S : Nat → Prop) (v : Value) (xs : List α) : Prop :=
  ∃ A cap, v = .slice A xs.length cap ∧ xs.length ≤ cap ∧ xs.length ≤ 140737488355328 ∧
    (0 < xs.length → ∃ g o, A = some ⟨g, o, none⟩ ∧ S g ∧ ∀ i (h : i < xs.length), ∃ es : List Value, es.length = N.sz ∧ (∀ j u, es[j]? = some u → w.cell? ⟨g, o + i * N.sz + j, none⟩ = some u) ∧ N.R w S es.toArray xs[i])
section
variable {α : Type} {N : NR α} {w w' : World} {S S' : Nat → Prop} {v : Value} {xs : List α}
theorem RdN.ext (h : RdN N w S v xs) (e : Ext w w') : RdN N w' S v xs := by
  obtain ⟨A, cap, h1, h2, h3, h4⟩ := h
  refine ⟨A, cap, h1, h2, h3, fun hn => ?_⟩
  obtain ⟨g, o, h5, h6, h7⟩ := h4 hn
  refine ⟨g, o, h5, h6, fun i hi => ?_⟩
  obtain ⟨es, h8, h9, h10⟩ := h7 i hi
  exact ⟨es, h8, fun j u hu => e.cell (h9 j u hu), N.ext h10 e⟩
theorem RdN.keep (h : RdN N w S v xs) (e : ∀ g, S g → w'.heap[g]? = w.heap[g]?) : RdN N w' S v xs := by
  obtain ⟨A, cap, h1, h2, h3, h4⟩ := h
  refine ⟨A, cap, h1, h2, h3, fun hn => ?_⟩
  obtain ⟨g, o, h5, h6, h7⟩ := h4 hn
  refine ⟨g, o, h5, h6, fun i hi => ?_⟩
  obtain ⟨es, h8, h9, h10⟩ := h7 i hi
  exact ⟨es, h8, fun j u hu => (World.cell?_of_block (w := w) (e g h6)).trans (h9 j u hu), N.keep h10 e⟩
theorem RdN.far (h : RdN N w S v xs) {p : Addr} (hp : ∀ g, S g → g ≠ p.block) (u : Value) : RdN N (w.setCell p u) S v xs := h.keep fun g hg => Below.heap_setCell w p u g (hp g hg)
theorem RdN.mono (h : RdN N w S v xs) (e : ∀ g, S g → S' g) : RdN N w S' v xs := by
  obtain ⟨A, cap, h1, h2, h3, h4⟩ := h
  refine ⟨A, cap, h1, h2, h3, fun hn => ?_⟩
  obtain ⟨g, o, h5, h6, h7⟩ := h4 hn
  refine ⟨g, o, h5, e g h6, fun i hi => ?_⟩
  obtain ⟨es, h8, h9, h10⟩ := h7 i hi
  exact ⟨es, h8, h9, N.mono h10 e⟩
theorem RdN.shape (h : RdN N w S v xs) : ∃ A cap, v = .slice A xs.length cap ∧ xs.length ≤ cap ∧ xs.length ≤ 140737488355328 := by
  obtain ⟨A, cap, h1, h2, h3, _⟩ := h
  exact ⟨A, cap, h1, h2, h3⟩
/-- element i -/
theorem RdN.elem {A : Option Addr} {cap : Nat} (h : RdN N w S (.slice A xs.length cap) xs) (i : Nat) (hi : i < xs.length) :
    ∃ g o, A = some ⟨g, o, none⟩ ∧ S g ∧ ∃ es : List Value, es.length = N.sz ∧ (∀ j u, es[j]? = some u → w.cell? ⟨g, o + i * N.sz + j, none⟩ = some u) ∧ N.R w S es.toArray xs[i] := by
  obtain ⟨A', cap', h1, h2, h3, h4⟩ := h
  injection h1 with h1 _ _
  subst h1
  obtain ⟨g, o, h5, h6, h7⟩ := h4 (by omega)
  exact ⟨g, o, h5, h6, h7 i hi⟩
theorem RdN.nil (N : NR α) (w : World) (S : Nat → Prop) : RdN N w S (.slice none 0 0) [] := ⟨none, 0, rfl, Nat.le_refl _, by simp, fun h => absurd h (by simp)⟩
end
/-- the first of the elements of a row have been filled in -/
structure FillN {α : Type} (N : NR α) (w : World) (g e : Nat) (S : Nat → Prop) (xs : List α) (CS : List (List Value)) (m : Nat) : Prop where
  fill : Fill w g e CS.flatten m
  rel : ∀ (i : Nat) (es : List Value) (x : α), CS[i]? = some es → xs[i]? = some x → es.length = N.sz ∧ N.R w S es.toArray x
  lens : ∀ es ∈ CS, es.length = N.sz
section
variable {α : Type} {N : NR α} {w w' : World} {g e m : Nat} {S : Nat → Prop} {xs : List α} {CS : List (List Value)}
theorem FillN.ext (h : FillN N w g e S xs CS m) (x : Ext w w') : FillN N w' g e S xs CS m := ⟨h.fill.ext x, fun i es y h1 h2 => ⟨(h.rel i es y h1 h2).1, N.ext (h.rel i es y h1 h2).2 x⟩, h.lens⟩
end
end Go.Proofs.Ytdjclllnmclocaa
/- Lists of keys as trees: their keys, proofs of their leaves, their peaks. Plain. No condition. -/
namespace Go.Proofs.Ytdjclllnmclocaa
open Go.RowKit
set_option linter.unusedVariables false
set_option linter.unusedSimpArgs false

end Go.Proofs.Ytdjclllnmclocaa
/- The key of two keys; of a node. No condition. -/
namespace Go.Proofs.Ytdjclllnmclocaa
open Go.RowKit
set_option linter.unusedVariables false
set_option linter.unusedSimpArgs false

end Go.Proofs.Ytdjclllnmclocaa
/- The length of a number in bits. No condition. -/
namespace Go.Proofs.Ytdjclllnmclocaa
open Go.RowKit
set_option linter.unusedVariables false
set_option linter.unusedSimpArgs false

end Go.Proofs.Ytdjclllnmclocaa
/- The key of a list: the program. No condition. -/
namespace Go.Proofs.Ytdjclllnmclocaa
open Go.RowKit
set_option linter.unusedVariables false
set_option linter.unusedSimpArgs false

end Go.Proofs.Ytdjclllnmclocaa
/- Ones of a number; halves of a number. No condition. -/
namespace Go.Proofs.Ytdjclllnmclocaa
open Go.RowKit
set_option linter.unusedVariables false
set_option linter.unusedSimpArgs false
end Go.Proofs.Ytdjclllnmclocaa
/- Which commits are valid: the reference and the program. No condition. -/
namespace Go.Proofs.Ytdjclllnmclocaa
open Go.RowKit
set_option linter.unusedVariables false
set_option linter.unusedSimpArgs false

end Go.Proofs.Ytdjclllnmclocaa
/- What is asked of a store's keys: told by order one after the other, and by a sorted copy. Plain. No condition. -/
namespace Go.Proofs.Ytdjclllnmclocaa
open Go.RowKit
set_option linter.unusedVariables false
set_option linter.unusedSimpArgs false

end Go.Proofs.Ytdjclllnmclocaa
/- Rows of keys, key by key: read out of an owned row, written, shut again; struck runs of equal keys. No condition. -/
namespace Go.Proofs.Ytdjclllnmclocaa
open Go.RowKit
set_option linter.unusedVariables false
set_option linter.unusedSimpArgs false

end Go.Proofs.Ytdjclllnmclocaa
/- A copy of a list of keys: the program. No condition. -/
namespace Go.Proofs.Ytdjclllnmclocaa
open Go.RowKit
set_option linter.unusedVariables false
set_option linter.unusedSimpArgs false

end Go.Proofs.Ytdjclllnmclocaa
/- The peaks of a list: the program. No condition. -/
namespace Go.Proofs.Ytdjclllnmclocaa
open Go.RowKit
set_option linter.unusedVariables false
set_option linter.unusedSimpArgs false

theorem yields_loadSP {P : Program} {ops : Array Oper} {op : Oper} {a : Act} {S : World → Prop} {t : Nat} (g o : Nat) (cs : List Value) (ht : Agg P t cs.length) (hc : ∀ W, S W → ∀ j u, cs[j]? = some u → W.cell? ⟨g, o + j, none⟩ = some u) (hw : Region.wanted op (yielded ops a.tmps) = true) (x : Operand) (ho : op.op = .load t x) (hx : a.eval x = .pointer (some ⟨g, o, none⟩)) :
    YieldsIf P ops S op (.agg cs.toArray) a := Or.inl ⟨hw, fun W hW => by
  have hl := run_loadVar_at (P := P) (w := W) (t := t) ⟨g, o, none⟩ cs ht (fun j u hu => by rw [Addr.add_lit]; exact hc W hW j u hu)
  unfold execOp
  simp only [ho, hx, Instr.loadAt, Instr.sureAddr, Sem.run_bind, Sem.run_pure, Result.andThen_ok, hl]⟩
theorem yields_loadBSP {P : Program} {ops : Array Oper} {o : Oper} {a : Act} {S : World → Prop} {t g e n : Nat} {cs : Array Value} (hb : ∀ W, S W → Blk W g e cs) (ht : Agg P t n) (hn : cs.size = n) (hw : Region.wanted o (yielded ops a.tmps) = true) (x : Operand) (ho : o.op = .load t x) (hx : a.eval x = .pointer (some ⟨g, 0, none⟩)) :
    YieldsIf P ops S o (.agg cs) a := Or.inl ⟨hw, fun W hW => by
  unfold execOp
  simp only [ho, hx, Instr.loadAt, Instr.sureAddr, Sem.run_bind, Sem.run_pure, Result.andThen_ok, run_loadB (hb W hW) ht hn]⟩
end Go.Proofs.Ytdjclllnmclocaa
/- Peaks and keys with codes; a further leaf: the program. No condition. -/
namespace Go.Proofs.Ytdjclllnmclocaa
open Go.RowKit
set_option linter.unusedVariables false
set_option linter.unusedSimpArgs false

theorem results_kc {P : Program} {w : World} {fn : Func} {c d : Tmp} {t g e n : Nat} {cs : Array Value} (hr : fn.results = #[.cell c t, .tmp d]) (tmps : Array Value) (hp : tmps.getD c undef = .pointer (some ⟨g, 0, none⟩)) (ht : Agg P t n) (hn : cs.size = n) (hb : Blk w g e cs) {v : Value} (hv : tmps.getD d undef = v) :
    (results fn tmps).run P w = .ok (.tuple #[.agg cs, v]) w := results_blkB2 hr tmps hp ht hn hb hv
end Go.Proofs.Ytdjclllnmclocaa
/- Hashers: the program. No condition. -/
namespace Go.Proofs.Ytdjclllnmclocaa
open Go.RowKit
set_option linter.unusedVariables false
set_option linter.unusedSimpArgs false

set_option maxHeartbeats 1000000 in
set_option maxRecDepth 100000 in
theorem hashOf_any (t : Int) (ht : 0 ≤ t ∧ t ≤ 255) (v : Value) (xs : List Int) (hl : xs.length ≤ 4096) (w : World) (S : Nat → Prop) (h : RdL tByte w S v xs) :
    Calls Try.prog 12 #[.int .u8 t, v] w fun q w' => q = .returned (.tuple #[.agg (numsA .u8 (hashL t xs)), .int .i64 0]) ∧ Ext w w' := by
  have hp := fun W hW => hash_any t ht v xs W S (h.ext (by decide) hW) (by omega)
  obtain ⟨A, cap, rfl, _, _, _, hok⟩ := id h
  have HKS := Lib.hid (hashL_ok t xs).1
  have hd : decide ((4096 : Int) < (xs.length : Int)) = false := decide_eq_false (by omega)
  have hzA : (Try.prog.info? 28).map (·.zero) = some (some (.agg (numsA .u8 (List.replicate 32 0)))) := by kernel_rfl
  have hzs : (numsA .u8 (List.replicate 32 0)).size = 32 := by simp [numsA, nums]
  generalize numsA .u8 (List.replicate 32 0) = Z at hzA hzs
  have HZS := Lib.hid hzs
  generalize hashL t xs = k at hp HKS ⊢
  have HP := Lib.hid hp
  clear h hok hp hzs
  go_enter Try.func12, Try.ntmps12
  go_wp2_with (refine wpl_alloc Z hzA rfl rfl ?_)
  refine (HP.out _ (ext_alloc _ _)).mono ?_
  rintro e w1 ⟨rfl, hx⟩
  have BR := Lib.hid ((Blk.new w 28 Z).ext hx)
  have HX := Lib.hid ((ext_alloc w (.cells Z 28)).trans hx)
  clear hx
  go_wp2_with (refine wpl_storeN BR.out aggKey HKS.out HZS.out rfl _ _ rfl rfl rfl rfl ?_)
  refine bodyPost_ret (results_kc rfl _ rfl aggKey (sizeN HKS.out) (BR.out.setRow _) rfl) rfl ?_
  exact ⟨rfl, HX.out.setRow (Nat.le_refl _) _⟩
set_option maxHeartbeats 1000000 in
set_option maxRecDepth 100000 in
theorem padBlocks_any (v : Value) (xs : List Int) (hl : xs.length ≤ 4096) (m : Nat) (hm : xs.length + padZ xs.length + 9 = 32 * m) (w : World) (S : Nat → Prop) (h : RdL tByte w S v xs) :
    Calls Try.prog 13 #[v] w fun q w' => ∃ v', q = .returned (.tuple #[v', .int .i64 0]) ∧ Own tKey 27 w' w.heap.size v' (blocksL (xs ++ padL xs.length xs.length) m) ∧ Ext w w' := by
  have H := Lib.hid h
  obtain ⟨A, cap, rfl, hcap, hlen, hz1, hz2⟩ := h
  clear hz1 hz2
  have hd : decide ((4096 : Int) < (xs.length : Int)) = false := decide_eq_false (by omega)
  go_enter Try.func13, Try.ntmps13
  go_wp2_with fail
  refine (sizeB_any _ _ _ _).mono ?_
  rintro e w' ⟨rfl, rfl⟩
  go_wp2_with fail
  refine (padding_any xs.length (by omega) _).mono ?_
  rintro e w1 ⟨v1, rfl, ho1, hx1⟩
  have HO1 := Lib.hid ho1
  have HX1 := Lib.hid hx1
  obtain ⟨B1, bn1, bc1, rfl⟩ := ho1.shape3
  clear ho1 hx1
  go_wp2_with fail
  have hcc := concat2_any w1.heap.size 0 _ _ xs (padL xs.length xs.length) (w1.alloc (.cells #[.slice A xs.length cap, .slice B1 bn1 bc1] 22)) S _ (H.out.ext (by decide) (HX1.out.alloc _)) (HO1.out.alloc _).rd (by rw [padL_length]; omega) (by rw [padL_length, padZ_eq]; omega) (by go_simp) (by go_simp)
  refine hcc.mono ?_
  clear hcc
  rintro e w2 ⟨v2, rfl, ho2, hx2⟩
  have HO2 := Lib.hid ho2
  have HX2 := Lib.hid ((HX1.out.alloc _).trans hx2)
  obtain ⟨B2, bn2, bc2, rfl⟩ := ho2.shape3
  clear ho2 hx2 HX1 HO1
  have hal : (xs ++ padL xs.length xs.length).length = 32 * m := by rw [List.length_append, padL_length]; omega
  have hpz : padZ xs.length ≤ 31 := by rw [padZ_eq]; omega
  have hal2 : (xs ++ padL xs.length xs.length).length ≤ 140737488355 := by omega
  clear hpz hm
  obtain ⟨al, he⟩ : ∃ al, xs ++ padL xs.length xs.length = al := ⟨_, rfl⟩
  rw [he] at HO2 hal hal2
  have HE := Lib.hid he
  clear he
  go_wp2_with fail
  refine (blocks_any _ al m w2 _ HO2.out.rd hal hal2).mono ?_
  rintro e w3 ⟨v3, u3, rfl, ho3, hx3⟩
  have HO3 := Lib.hid (ho3.le HX2.out.size)
  have HX3 := Lib.hid (HX2.out.trans hx3)
  obtain ⟨B3, bn3, bc3, rfl⟩ := ho3.shape3
  clear ho3 hx3 HX2 HO2
  go_wp2
  go_ret2
  exact ⟨.slice B3 bn3 bc3, rfl, by rw [HE.out]; exact HO3.out, HX3.out⟩
end Go.Proofs.Ytdjclllnmclocaa
/- Hashers as structs: made, and whether they are valid. No condition. -/
namespace Go.Proofs.Ytdjclllnmclocaa
open Go.RowKit
set_option linter.unusedVariables false
set_option linter.unusedSimpArgs false

/-- the cells of a hasher -/
def hsL (st : List Int) (v : Value) (c : Int) : List Value := nums .u32 st ++ [v, .int .i64 c]
def hsC (st : List Int) (v : Value) (c : Int) : Array Value := (hsL st v c).toArray
theorem hsL_length {st : List Int} (h : st.length = 8) (v : Value) (c : Int) : (hsL st v c).length = 10 := by simp [hsL, nums_length, h]
theorem aggHs : Agg Try.prog 40 10 := Agg.mkS (fs := _) Try.underlying40 (by kernel_rfl)
theorem stHs {st : List Int} (h : st.length = 8) (A : Option Addr) (n k : Nat) (c : Int) : St 10 (hsC st (.slice A n k) c) := by
  refine ⟨by rw [hsC, List.size_toArray, hsL_length h], fun u hu => ?_⟩
  replace hu : u ∈ nums .u32 st ++ [.slice A n k, .int .i64 c] := hu
  rcases List.mem_append.1 hu with hu | hu
  · exact one_nums .u32 st u hu
  · rcases List.mem_cons.1 hu with rfl | hu
    · rfl
    · obtain rfl := List.mem_singleton.1 hu; rfl
def zHs : List Value := List.replicate 8 (Value.int .u32 0) ++ [Value.slice none 0 0, .int .i64 0]
theorem built_hs (st : List Int) (h : st.length = 8) (A : Option Addr) (n k : Nat) (c : Int) : Try.prog.built 40 [(0, .agg (numsA .u32 st)), (1, .slice A n k), (2, .int .i64 c)] = some (hsC st (.slice A n k) c) := by
  have hb : ∀ parts, Try.prog.built 40 parts = Instr.fill (fun i => #[(0, 8), (8, 1), (9, 1)][i]?) zHs.toArray parts := fun parts => by kernel_rfl
  have hnl : (nums .u32 st).length = 8 := by rw [nums_length, h]
  have e1 : splice zHs.toArray 0 (nums .u32 st) = (nums .u32 st ++ zHs.drop 8).toArray := by
    have := splice_next [] zHs (nums .u32 st) (o := 0) rfl
    rw [hnl] at this
    simpa using this
  have e2 : splice (nums .u32 st ++ zHs.drop 8).toArray 8 [Value.slice A n k] = (nums .u32 st ++ [Value.slice A n k] ++ zHs.drop 9).toArray := by
    have := splice_next (nums .u32 st) (zHs.drop 8) [Value.slice A n k] (o := 8) hnl
    rw [List.drop_drop] at this
    exact this
  have e3 : splice (nums .u32 st ++ [Value.slice A n k] ++ zHs.drop 9).toArray 9 [Value.int .i64 c] = hsC st (.slice A n k) c := by
    have := splice_next (nums .u32 st ++ [Value.slice A n k]) (zHs.drop 9) [Value.int .i64 c] (o := 9) (by rw [List.length_append, hnl]; rfl)
    rw [show (zHs.drop 9).drop ([Value.int .i64 c]).length = [] from rfl, List.append_nil] at this
    rw [this, hsC, hsL, List.append_assoc]
    rfl
  have c1 : (Value.agg (numsA .u32 st)).cells.toList = nums .u32 st := rfl
  have c2 : (Value.slice A n k).cells.toList = [.slice A n k] := rfl
  have c3 : (Value.int .i64 c).cells.toList = [.int .i64 c] := rfl
  have z1 : zHs.length = 10 := rfl
  rw [hb, fill_one _ _ 0 0 8 _ _ rfl (by rw [← Array.length_toList, c1, hnl]) (by rw [List.size_toArray, z1]; decide), c1, e1,
    fill_one _ _ 1 8 1 _ _ rfl rfl (by rw [List.size_toArray, List.length_append, hnl]; decide), c2, e2,
    fill_one _ _ 2 9 1 _ _ rfl rfl (by rw [List.size_toArray, List.length_append, List.length_append, hnl]; simp only [List.length_singleton]; decide), c3, e3, Instr.fill]
theorem built_hs0 (st : List Int) (h : st.length = 8) : Try.prog.built 40 [(0, .agg (numsA .u32 st))] = some (hsC st (.slice none 0 0) 0) := by
  have hb : ∀ parts, Try.prog.built 40 parts = Instr.fill (fun i => #[(0, 8), (8, 1), (9, 1)][i]?) zHs.toArray parts := fun parts => by kernel_rfl
  have hnl : (nums .u32 st).length = 8 := by rw [nums_length, h]
  have e1 : splice zHs.toArray 0 (nums .u32 st) = (nums .u32 st ++ zHs.drop 8).toArray := by
    have := splice_next [] zHs (nums .u32 st) (o := 0) rfl
    rw [hnl] at this
    simpa using this
  have c1 : (Value.agg (numsA .u32 st)).cells.toList = nums .u32 st := rfl
  have z1 : zHs.length = 10 := rfl
  rw [hb, fill_one _ _ 0 0 8 _ _ rfl (by rw [← Array.length_toList, c1, hnl]) (by rw [List.size_toArray, z1]; decide), c1, e1, Instr.fill]
  rfl
set_option maxHeartbeats 1000000 in
set_option maxRecDepth 100000 in
theorem startHasher_any (t : Int) (ht : 0 ≤ t ∧ t ≤ 255) (w : World) : Calls Try.prog 16 #[.int .u8 t] w fun q w' => q = .returned (.agg (hsC (startL t) (.slice none 0 0) 0)) ∧ Ext w w' := by
  have hb := built_hs0 (startL t) (startL_length t)
  have hs := stHs (startL_length t) none 0 0 0
  have hS := fun W => startState_any t ht W
  generalize hsC (startL t) (.slice none 0 0) 0 = C at hb hs ⊢
  generalize startL t = st at hb hS
  have HS := Lib.hid hS
  clear hS
  go_enter Try.func16, Try.ntmps16
  go_wp2_with fail
  refine (HS.out _).mono ?_
  rintro e w1 ⟨rfl, hx⟩
  have BR := Lib.hid ((Blk.new w 40 zHs.toArray).ext hx)
  have HX := Lib.hid ((ext_alloc w (.cells zHs.toArray 40)).trans hx)
  clear hx
  go_wp2_with (first
    | (refine wpl_buildN rfl rfl hb ?_)
    | (refine wpl_storeB BR.out aggHs hs rfl rfl _ _ rfl rfl rfl rfl ?_))
  refine bodyPost_ret (results_blkB rfl _ rfl aggHs hs.size (BR.out.setRow _)) rfl ?_
  exact ⟨rfl, HX.out.setRow (Nat.le_refl _) _⟩
end Go.Proofs.Ytdjclllnmclocaa
/- Two slices of bytes put together, empty ones too. No condition. -/
namespace Go.Proofs.Ytdjclllnmclocaa
open Go.RowKit
set_option linter.unusedVariables false
set_option linter.unusedSimpArgs false

set_option maxHeartbeats 1000000 in
set_option maxRecDepth 100000 in
theorem grow_all (n : Nat) (hn : n ≤ 70368744177664) (w : World) : Calls Try.prog 87 #[.slice none 0 0, .int .i64 n] w fun e w' => ∃ v', e = .returned v' ∧ Own tByte 5 w' w.heap.size v' [] ∧ Ext w w' := by
  rcases Nat.eq_zero_or_pos n with rfl | h0
  · go_enter Try.func87, Try.ntmps87
    go_wp2
    go_ret
    exact ⟨_, rfl, Own.nil _ _ _ _, Ext.refl _⟩
  · exact grow_any n h0 hn w

set_option maxHeartbeats 1000000 in
set_option maxRecDepth 100000 in
theorem concat2_all (g o : Nat) (v u : Value) (xs ys : List Int) (w : World) (S S' : Nat → Prop) (h : RdL tByte w S v xs) (h' : RdL tByte w S' u ys) (hn : xs.length + ys.length ≤ 70368744177664)
    (c0 : w.cell? ⟨g, o, none⟩ = some v) (c1 : w.cell? ⟨g, o + 1, none⟩ = some u) :
    Calls Try.prog 49 #[.slice (some ⟨g, o, none⟩) 2 2] w fun e w' => ∃ v', e = .returned v' ∧ Own tByte 5 w' w.heap.size v' (xs ++ ys) ∧ Ext w w' := by
  have H := Lib.hid h
  have H' := Lib.hid h'
  obtain ⟨A, cap, rfl, hcap, hlen, _⟩ := h
  obtain ⟨A', cap', rfl, hcap', hlen', _⟩ := h'
  go_enter Try.func49, Try.ntmps49
  go_wp2_with fail
  go_loop [3, 11] (fun s i => (i = .int .i64 0 ∧ s = .int .i64 0) ∨ (i = .int .i64 1 ∧ s = .int .i64 xs.length) ∨ (i = .int .i64 2 ∧ s = .int .i64 (xs.length + ys.length : Nat))) (fun _ i => 2 - (intOf i).toNat)
  case atStart => exact .inl ⟨rfl, rfl⟩
  case round =>
    rcases hrel with ⟨rfl, rfl⟩ | ⟨rfl, rfl⟩ | ⟨rfl, rfl⟩
    · go_wp2_with fail
      go_round
      case rel => exact .inr (.inl ⟨rfl, rfl⟩)
      case measure => simp [intOf]
    · go_wp2_with fail
      go_round
      case rel => exact .inr (.inr ⟨rfl, by go_num⟩)
      case measure => simp [intOf]
    · have G := grow_all (xs.length + ys.length) hn w
      have HG := Lib.hid G
      clear G
      go_wp2_with fail
      refine HG.out.mono ?_
      rintro e w1 ⟨v1, rfl, ho, hx⟩
      have HO := Lib.hid ho
      have HX := Lib.hid hx
      have c0' := hx.cell c0
      have c1' := hx.cell c1
      clear ho hx
      go_wp2_with fail
      go_loopw [6, 27] (fun v i wr => Ext w wr ∧ ((i = .int .i64 0 ∧ Own tByte 5 wr w.heap.size v []) ∨ (i = .int .i64 1 ∧ Own tByte 5 wr w.heap.size v xs) ∨ (i = .int .i64 2 ∧ Own tByte 5 wr w.heap.size v (xs ++ ys)))) (fun _ i _ => 2 - (intOf i).toNat)
      case atStart => exact ⟨HX.out, .inl ⟨rfl, HO.out⟩⟩
      case round =>
        clear HO HX c0' c1'
        obtain ⟨hx, hr⟩ := hrel
        have HX := Lib.hid hx
        have d0 := hx.cell c0
        have d1 := hx.cell c1
        clear hx
        rcases hr with ⟨rfl, ho⟩ | ⟨rfl, ho⟩ | ⟨rfl, ho⟩
        · obtain ⟨B, bn, bc, rfl⟩ := ho.shape3
          have HO := Lib.hid ho
          have hr := H.out.ext (by decide) HX.out
          obtain ⟨A2, cap2, he, _, _, hr1, hok1⟩ := hr
          injection he with e1 e2 e3
          subst e1 e3
          have HR := Lib.hid hr1
          have HK := Lib.hid hok1
          clear ho hr1 hok1
          go_wp2_with (at_builtin; refine wpl_append rowByte rfl _ _ rfl (v := .slice B bn bc) rfl HO.out _ _ rfl (ys := xs) (A := A) (S := S) rfl HR.out HK.out (by simp; omega) HX.out.size ?_; intro v1 w1 ho1 hg1 hat1; have HO1 := Lib.hid ho1; have HX1 := Lib.hid (HO.out.ext_app HX.out hg1); clear ho1 hg1 hat1)
          go_roundw
          case rel => exact ⟨HX1.out, .inr (.inl ⟨rfl, HO1.out⟩)⟩
          case measure => simp [intOf]
        · obtain ⟨B, bn, bc, rfl⟩ := ho.shape3
          have HO := Lib.hid ho
          have hr := H'.out.ext (by decide) HX.out
          obtain ⟨A2, cap2, he, _, _, hr1, hok1⟩ := hr
          injection he with e1 e2 e3
          subst e1 e3
          have HR := Lib.hid hr1
          have HK := Lib.hid hok1
          clear ho hr1 hok1
          go_wp2_with (at_builtin; refine wpl_append rowByte rfl _ _ rfl (v := .slice B bn bc) rfl HO.out _ _ rfl (ys := ys) (A := A') (S := S') rfl HR.out HK.out (by omega) HX.out.size ?_; intro v1 w1 ho1 hg1 hat1; have HO1 := Lib.hid ho1; have HX1 := Lib.hid (HO.out.ext_app HX.out hg1); clear ho1 hg1 hat1)
          go_roundw
          case rel => exact ⟨HX1.out, .inr (.inr ⟨rfl, HO1.out⟩)⟩
          case measure => simp [intOf]
        · have HO := Lib.hid ho
          clear ho
          go_wp2_with fail
          go_ret
          exact ⟨_, rfl, HO.out, HX.out⟩

end Go.Proofs.Ytdjclllnmclocaa
/- Arrays of bytes held against each other by == and !=. No condition. -/
namespace Go.Proofs.Ytdjclllnmclocaa
open Go.RowKit
set_option linter.unusedVariables false
set_option linter.unusedSimpArgs false

def eqArr (d : Nat) (e : TypeId) (n : Nat) (xs ys : Array Value) : List Nat → Sem Bool
  | [] => pure true
  | i :: is => do
    let a ← part e xs (i * n)
    let b ← part e ys (i * n)
    let r ← Op.equalIn d e a b
    if (!r) = true then pure false else eqArr d e n xs ys is
section
variable {P : Program} (w : World)
theorem run_equalIn_array (d : Nat) (t e : TypeId) (len n : Nat) (xs ys : Array Value) (ht : P.underlying t = some (.array len e)) (hn : ∀ w, (sizeOf e).run P w = .ok n w) :
    (Op.equalIn (d + 1) t (.agg xs) (.agg ys)).run P w = (eqArr d e n xs ys (List.range' 0 len)).run P w := by
  simp only [Op.equalIn, Sem.run_bind, run_underlying ht, Result.andThen_ok, hn]
  rw [Std.Legacy.Range.forIn_eq_forIn_range']
  simp only [Std.Legacy.Range.size, Nat.sub_zero, Nat.add_sub_cancel, Nat.div_one]
  generalize List.range' 0 len = l
  clear ht
  induction l generalizing w with
  | nil => simp [eqArr]
  | cons f fs ih =>
    simp only [List.forIn_cons, eqArr, Sem.run_bind, Sem.run_ite]
    generalize (part e xs (f * n)).run P w = r1
    cases r1 with
    | ok a w1 =>
      simp only [Result.andThen_ok]
      generalize (part e ys (f * n)).run P w1 = r2
      cases r2 with
      | ok b w2 =>
        simp only [Result.andThen_ok]
        generalize (Op.equalIn d e a b).run P w2 = r3
        cases r3 with
        | ok r w3 =>
          cases r
          · simp only [Result.andThen_ok, Bool.not_false, if_true, Sem.run_pure]
          · simp only [Result.andThen_ok, Bool.not_true, Bool.false_eq_true, if_false, Sem.run_pure]
            exact ih w3
        | halt x w3 => simp [Result.andThen]
      | halt x w2 => simp [Result.andThen]
    | halt x w1 => simp [Result.andThen]
theorem run_eqArr (d : Nat) (e : TypeId) (k' : IntKind) (he : P.underlying e = some (.int k')) (k : IntKind) (a b : List Int) (hl : a.length = b.length) (m i : Nat) (hi : i + m = a.length) :
    (eqArr (d + 1) e 1 (numsA k a) (numsA k b) (List.range' i m)).run P w = .ok (decide (a.drop i = b.drop i)) w := by
  have hagg : (isAgg e).run P w = .ok false w := by
    unfold isAgg
    rw [Sem.run_bind, run_underlying he w]
    rfl
  induction m generalizing i with
  | zero =>
    rw [List.drop_eq_nil_of_le (by omega), List.drop_eq_nil_of_le (by omega)]
    simp [eqArr]
  | succ m ih =>
    have h1 : i < a.length := by omega
    have h2 : i < b.length := by omega
    have e1 := numsA_at k a i h1
    have e2 := numsA_at k b i h2
    rw [List.range'_succ]
    simp only [eqArr, Sem.run_bind, part, hagg, Result.andThen_ok, Bool.false_eq_true, if_false, Nat.mul_one, e1, e2, Sem.run_pure, run_equalIn_int w d e k k' _ _ he, Sem.run_ite]
    rw [List.drop_eq_getElem_cons h1, List.drop_eq_getElem_cons h2]
    by_cases hq : gI a i = gI b i
    · have h3 : (gI a i == gI b i) = true := by simpa using hq
      simp only [h3, Bool.not_true, Bool.false_eq_true, if_false]
      rw [ih (i + 1) (by omega)]
      rw [gI_lt h1, gI_lt h2] at hq
      simp only [List.cons.injEq, hq, true_and]
    · have h3 : (gI a i == gI b i) = false := by simpa using hq
      simp only [h3, Bool.not_false, if_true]
      rw [gI_lt h1, gI_lt h2] at hq
      simp only [List.cons.injEq, hq, false_and, decide_false]
end
theorem run_eqKey (a b : List Int) (ha : K32 a) (hb : K32 b) (W : World) : (binOp .eql 28 (.agg (numsA .u8 a)) (.agg (numsA .u8 b))).run Try.prog W = .ok (.bool (decide (a = b))) W := by
  rw [run_eql_struct, run_equalIn_array (P := Try.prog) W 9999 28 5 32 1 _ _ (by kernel_rfl) (fun w => by kernel_rfl), run_eqArr (P := Try.prog) W 9998 5 .u8 (by kernel_rfl) .u8 a b (by rw [ha.1, hb.1]) 32 0 (by rw [ha.1])]
  simp
end Go.Proofs.Ytdjclllnmclocaa
/- Hashers as structs: whether they are valid or equal, fed, asked for their key. No condition. -/
namespace Go.Proofs.Ytdjclllnmclocaa
open Go.RowKit
set_option linter.unusedVariables false
set_option linter.unusedSimpArgs false

theorem hs_at {st : List Int} (h : st.length = 8) (v : Value) (c : Int) : (hsC st v c)[8]? = some v ∧ (hsC st v c)[9]? = some (.int .i64 c) := by
  have hl : (nums .u32 st).length = 8 := by rw [nums_length, h]
  unfold hsC hsL
  constructor
  · rw [List.getElem?_toArray, List.getElem?_append_right (by omega), hl]; rfl
  · rw [List.getElem?_toArray, List.getElem?_append_right (by omega), hl]; rfl
theorem hs_in (st : List Int) (v : Value) (c : Int) (j : Nat) (u : Value) (hu : (nums .u32 st)[j]? = some u) : (hsC st v c)[j]? = some u := by
  unfold hsC hsL
  rw [List.getElem?_toArray, List.getElem?_append_left (List.getElem?_eq_some_iff.1 hu).1]
  exact hu
theorem tmod_nat (c : Nat) : Int.tmod (c : Int) 32 = ((c % 32 : Nat) : Int) := by
  rw [Int.tmod_eq_emod_of_nonneg (by omega)]; omega
set_option maxHeartbeats 1000000 in
set_option maxRecDepth 100000 in
theorem validHasher_any (st : List Int) (h8 : st.length = 8) (A : Option Addr) (n k c : Nat) (hc : c ≤ 1000000000) (hn : n = c % 32) (w : World) :
    Calls Try.prog 19 #[.agg (hsC st (.slice A n k) c)] w fun e w' => e = .returned (.bool true) ∧ Ext w w' := by
  obtain ⟨a8, a9⟩ := hs_at h8 (.slice A n k) c
  have hw := fun W => within_any (c : Int) 0 1000000000 W
  have hwt : (decide ((0 : Int) ≤ (c : Int)) && decide ((c : Int) ≤ 1000000000)) = true := by simp; omega
  simp only [hwt] at hw
  have hrem := tmod_nat c
  rw [← hn] at hrem
  have HW := Lib.hid hw
  clear hwt hn hw
  generalize hsC st (.slice A n k) c = C at a8 a9 ⊢
  have B := Lib.hid (Blk.new w 40 C)
  have d8 := B.out.at_ 8 a8
  have d9 := B.out.at_ 9 a9
  have hsz := fun W => sizeB_any A n k W
  have HSZ := Lib.hid hsz
  clear a8 a9 B hsz
  go_enter Try.func19, Try.ntmps19
  go_wp2_with fail
  go_quiet (first
    | (go_at_call 57; exact Calls.quiet_of ((HW.out _).mono fun e w' ⟨he, hw⟩ => ⟨he, 0, hw.symm⟩))
    | (go_at_call 51; exact Calls.quiet_of ((HSZ.out _).mono fun e w' ⟨he, hw⟩ => ⟨he, 0, hw.symm⟩)))
  go_wp2_with fail
  go_ret
  exact ⟨rfl, ((ext_alloc w _).drewN _)⟩
set_option maxHeartbeats 4000000 in
set_option maxRecDepth 100000 in
theorem feedHasher_any (st : List Int) (h8 : st.length = 8) (hu : U32 st) (held d : List Int) (v0 v1 : Value) (c : Nat) (hc : c + d.length ≤ 1000000000) (hn : held.length = c % 32) (hd : d.length ≤ 4096) (w : World) (S S' : Nat → Prop) (hr0 : RdL tByte w S v0 held) (hr1 : RdL tByte w S' v1 d) :
    Calls Try.prog 17 #[.agg (hsC st v0 c), v1] w fun e w' => ∃ v', e = .returned (.tuple #[.agg (hsC (mixN (held ++ d) st ((held ++ d).length / 32)) v' (c + d.length : Nat)), .int .i64 0]) ∧ Own tByte 5 w' w.heap.size v' ((held ++ d).drop (32 * ((held ++ d).length / 32))) ∧ Ext w w' := by
  obtain ⟨A, k, rfl, _⟩ := id hr0
  obtain ⟨A1, k1, rfl, _⟩ := id hr1
  have HR0 := Lib.hid hr0
  have HR1 := Lib.hid hr1
  have HVH := Lib.hid (fun W => validHasher_any st h8 A held.length k c (by omega) hn W)
  obtain ⟨a8, a9⟩ := hs_at h8 (.slice A held.length k) c
  have hin := hs_in st (.slice A held.length k) c
  have hsz := (stHs h8 A held.length k c).size
  have HAL := Lib.hid (show (held ++ d).length = held.length + d.length from List.length_append)
  obtain ⟨al, hal⟩ : ∃ al, held ++ d = al := ⟨_, rfl⟩
  obtain ⟨m, hm⟩ : ∃ m, al.length / 32 = m := ⟨_, rfl⟩
  have HM := Lib.hid hm
  have HA0 := Lib.hid hal
  rw [hal] at HAL ⊢
  rw [hm]
  have HS8 := Lib.hid h8
  have HU := Lib.hid hu
  generalize hsC st (.slice A held.length k) c = C at a8 a9 hin HVH hsz ⊢
  have hl32 : held.length ≤ 31 := by omega
  have HB := Lib.hid (fun A' n' c' => built_hs (mixN al st m) (mixN_length al st m HS8.out) A' n' c' ((c + d.length : Nat) : Int))
  have HST := Lib.hid (fun A' n' c' => stHs (mixN_length al st m HS8.out) A' n' c' ((c + d.length : Nat) : Int))
  have HMX := Lib.hid (fun (W : World) (v : Value) (S : Nat → Prop) hW => mixed_any st HS8.out HU.out v al m W S hW)
  have hcd : ((c + d.length : Nat) : Int) = (c : Int) + (d.length : Int) := by omega
  rw [hcd] at HB HST ⊢
  generalize mixN al st m = X at HB HST HMX ⊢
  obtain ⟨R, hR⟩ : ∃ R, al.drop (32 * m) = R := ⟨_, rfl⟩
  have HRE := Lib.hid hR
  have HRL := Lib.hid (show R.length ≤ 1000000 by rw [← hR, List.length_drop, HAL.out]; omega)
  rw [hR]
  clear hR hcd
  have HIN := Lib.hid hin
  have B0 := Lib.hid ((Blk.new w 40 C).alloc (.cells zHs.toArray 40))
  have B1 := Lib.hid (Blk.new' (g := w.heap.size + 1) (w := w.alloc (.cells C 40)) (by simp) 40 zHs.toArray)
  have HX := Lib.hid ((ext_alloc w (.cells C 40)).alloc (.cells zHs.toArray 40))
  have hzA : (Try.prog.info? 40).map (·.zero) = some (some (.agg zHs.toArray)) := by kernel_rfl
  have HZS := Lib.hid (show zHs.toArray.size = 10 from rfl)
  generalize zHs.toArray = Z at hzA B0 B1 HX HZS
  clear hr0 hr1 hin hm hal h8 hu hn
  go_enter Try.func17, Try.ntmps17
  go_wp2_with (first
    | (refine wpl_alloc Z hzA rfl rfl ?_)
    | (refine wpl_loadB B0.out aggHs hsz rfl _ rfl rfl ?_))
  refine (HVH.out _).mono ?_
  rintro e w1 ⟨rfl, hx⟩
  replace B0 := Lib.hid (B0.out.ext hx)
  replace B1 := Lib.hid (B1.out.ext hx)
  replace HX := Lib.hid (HX.out.trans hx)
  clear hx hzA HVH
  have d8 := B0.out.at_ 8 a8
  have d9 := B0.out.at_ 9 a9
  have q1 : ¬ (4096 : Int) < (d.length : Int) := by omega
  have q2 : ¬ (1000000000 : Int) < (c : Int) + (d.length : Int) := by omega
  have q3 : decide ((4096 : Int) < (d.length : Int)) = false := decide_eq_false q1
  have q4 : decide ((1000000000 : Int) < (c : Int) + (d.length : Int)) = false := decide_eq_false q2
  have q5 : IntKind.i64.wrap ((c : Int) + (d.length : Int)) = (c : Int) + (d.length : Int) := IntWalk.i64_in _ (by omega)
  have HSZ := Lib.hid (fun W => sizeB_any A1 d.length k1 W)
  go_wp2_with fail
  go_quiet (first
    | (go_at_call 51; exact Calls.quiet_of ((HSZ.out _).mono fun e w' ⟨he, hw⟩ => ⟨he, 0, hw.symm⟩)))
  replace B0 := Lib.hid (B0.out.drewN nq)
  replace B1 := Lib.hid (B1.out.drewN nq)
  replace HX := Lib.hid (HX.out.drewN nq)
  clear d8 d9
  generalize w1.drewN nq = w2 at B0 B1 HX ⊢
  have d8 := B0.out.at_ 8 a8
  have d9 := B0.out.at_ 9 a9
  go_wp2_with fail
  have hcc := concat2_all w2.heap.size 0 _ _ held d (w2.alloc (.cells #[.slice A held.length k, .slice A1 d.length k1] 22)) S S' (HR0.out.ext (by decide) (HX.out.alloc _)) (HR1.out.ext (by decide) (HX.out.alloc _)) (by omega) (by go_simp) (by go_simp)
  refine hcc.mono ?_
  clear hcc
  rintro e w3 ⟨v3, rfl, ho, hx⟩
  rw [HA0.out] at ho
  have hE := (ext_alloc w2 (.cells #[.slice A held.length k, .slice A1 d.length k1] 22)).trans hx
  replace B0 := Lib.hid (B0.out.ext hE)
  replace B1 := Lib.hid (B1.out.ext hE)
  replace HX := Lib.hid (HX.out.trans hE)
  have HO := Lib.hid ho
  obtain ⟨A3, n3, c3, rfl⟩ := ho.shape3
  clear hx ho hE d8 d9
  go_wp2_with fail
  refine (blocks_rest _ al m (al.length % 32) (by omega) w3 _ HO.out.rd (by rw [← HM.out]; omega) (by rw [HAL.out]; omega)).mono ?_
  rintro e w4 ⟨v4, u4, rfl, ho, hr, hx⟩
  rw [HRE.out] at hr
  replace B0 := Lib.hid (B0.out.ext hx)
  replace B1 := Lib.hid (B1.out.ext hx)
  have HO4 := Lib.hid ho
  have HR4 := Lib.hid (hr.ext (by decide) hx)
  replace HX := Lib.hid (HX.out.trans hx)
  obtain ⟨A4, n4, c4, rfl⟩ := ho.shape3
  obtain ⟨A5, c5, rfl, _⟩ := id hr
  clear hx ho hr HO
  go_wp2_with fail
  refine wp_region_f [12, 13] (S := fun W => Ext w4 W) (by kernel_rfl) (Ext.refl _).drew (fun hHeld => ?_)
  refine wpF_take (i := 0) (oi := ?oiz1) (v := ?vz1) ?hiz1 (by kernel_rfl) (by kernel_rfl) (by kernel_rfl) (by kernel_rfl) ?hQz1 ?hyz1 (by assumption) ?restz1
  case hiz1 => simp only [List.getElem?_toArray, List.getElem?_cons_zero, List.getElem?_cons_succ]; rfl
  case hQz1 => exact fun _ _ _ h => h
  case hyz1 => exact Or.inl ⟨by rfl, by intro w hSw; (try dsimp only at hSw); go_simp; with_reducible rfl⟩
  try simp only [Act.put, List.setIfInBounds_toArray, List.set_cons_zero, List.set_cons_succ]
  refine wpF_take (i := 1) (oi := ?oiz2) (v := (.agg (nums .u32 st).toArray)) ?hiz2 (by kernel_rfl) (by kernel_rfl) (by kernel_rfl) (by kernel_rfl) ?hQz2 ?hyz2 (by assumption) ?restz2
  case hiz2 => simp only [List.getElem?_toArray, List.getElem?_cons_zero, List.getElem?_cons_succ]; rfl
  case hQz2 => exact fun _ _ _ h => h
  case hyz2 => refine yields_loadSP (w.heap.size) 0 (nums .u32 st) (by rw [nums_length, HS8.out]; exact aggU32) (fun W hW j u hu => by rw [Nat.zero_add]; exact ((B0.out.ext hW).at_ j (HIN.out j u hu))) ?_ _ rfl rfl; rfl
  try simp only [Act.put, List.setIfInBounds_toArray, List.set_cons_zero, List.set_cons_succ]
  refine wpF_take (i := 2) (oi := ?oiz3) (v := ?vz3) ?hiz3 (by kernel_rfl) (by kernel_rfl) (by kernel_rfl) (by kernel_rfl) ?hQz3 ?hyz3 (by assumption) ?restz3
  case hiz3 => simp only [List.getElem?_toArray, List.getElem?_cons_zero, List.getElem?_cons_succ]; rfl
  case hQz3 => exact fun _ _ _ h => h
  case hyz3 => exact Or.inl ⟨by rfl, by intro w hSw; (try dsimp only at hSw); go_simp; with_reducible rfl⟩
  try simp only [Act.put, List.setIfInBounds_toArray, List.set_cons_zero, List.set_cons_succ]
  refine wpF_take (i := 4) (oi := ?oiz4) (v := ?vz4) ?hiz4 (by kernel_rfl) (by kernel_rfl) (by kernel_rfl) (by kernel_rfl) ?hQz4 ?hyz4 (by assumption) ?restz4
  case hiz4 => simp only [List.getElem?_toArray, List.getElem?_cons_zero, List.getElem?_cons_succ]; rfl
  case hQz4 => exact fun _ _ _ h => h
  case hyz4 => exact Or.inl ⟨by rfl, by intro w hSw; (try dsimp only at hSw); go_simp; with_reducible rfl⟩
  try simp only [Act.put, List.setIfInBounds_toArray, List.set_cons_zero, List.set_cons_succ]
  refine wpF_take (i := 6) (oi := ?oiz5) (v := ?vz5) ?hiz5 (by kernel_rfl) (by kernel_rfl) (by kernel_rfl) (by kernel_rfl) ?hQz5 ?hyz5 (by assumption) ?restz5
  case hiz5 => simp only [List.getElem?_toArray, List.getElem?_cons_zero, List.getElem?_cons_succ]; rfl
  case hQz5 => exact fun _ _ _ h => h
  case hyz5 => exact Or.inl ⟨by rfl, by intro w hSw; (try dsimp only at hSw); go_simp; with_reducible rfl⟩
  try simp only [Act.put, List.setIfInBounds_toArray, List.set_cons_zero, List.set_cons_succ]
  refine wpF_take (i := 7) (oi := ?oiz6) (v := ?vz6) ?hiz6 (by kernel_rfl) (by kernel_rfl) (by kernel_rfl) (by kernel_rfl) ?hQz6 ?hyz6 (by assumption) ?restz6
  case hiz6 => simp only [List.getElem?_toArray, List.getElem?_cons_zero, List.getElem?_cons_succ]; rfl
  case hQz6 => exact fun _ _ _ h => h
  case hyz6 => exact Or.inl ⟨by rfl, by intro W hSw; have e9 : W.cell? ⟨w.heap.size, 9, none⟩ = some (.int .i64 (c : Int)) := (B0.out.ext hSw).at_ 9 a9; go_simp; with_reducible rfl⟩
  try simp only [Act.put, List.setIfInBounds_toArray, List.set_cons_zero, List.set_cons_succ]
  refine wpF_take (i := 8) (oi := ?oiz7) (v := ?vz7) ?hiz7 (by kernel_rfl) (by kernel_rfl) (by kernel_rfl) (by kernel_rfl) ?hQz7 ?hyz7 (by assumption) ?restz7
  case hiz7 => simp only [List.getElem?_toArray, List.getElem?_cons_zero, List.getElem?_cons_succ]; rfl
  case hQz7 => exact fun _ _ _ h => h
  case hyz7 => exact Or.inl ⟨by rfl, by intro w hSw; (try dsimp only at hSw); go_simp; with_reducible rfl⟩
  try simp only [Act.put, List.setIfInBounds_toArray, List.set_cons_zero, List.set_cons_succ]
  refine wpF_ready (rs := [3]) (by kernel_rfl) (by simp) (AllF.cons (o := ?oy83) ?hy83 (fun K hK => ?sy83) AllF.nil)
  case hy83 => simp only [List.getElem?_toArray, List.getElem?_cons_zero, List.getElem?_cons_succ]; rfl
  go_simp
  refine (HMX.out _ _ _ (HO4.out.rd.ext (by decide) hHeld)).mono ?_
  rintro e w5 ⟨rfl, hx⟩
  have hH2 := hHeld.trans hx
  refine hK.out _ _ (fun _ _ => hH2) ?_
  clear hHeld hK K
  have hHeld := hH2
  clear hH2
  try simp only [Act.put, List.setIfInBounds_toArray, List.set_cons_zero, List.set_cons_succ]
  have H5 := Lib.hid ((B1.out.ext hHeld).lt)
  refine wpF_ready (rs := [5]) (by kernel_rfl) (by simp) (AllF.cons (o := ?oy95) ?hy95 (fun K hK => ?sy95) AllF.nil)
  case hy95 => simp only [List.getElem?_toArray, List.getElem?_cons_zero, List.getElem?_cons_succ]; rfl
  go_simp
  refine (cloneB_any _ R _ _ (HR4.out.ext (by decide) (hHeld)) (by have := HRL.out; omega)).mono ?_
  rintro e w6 ⟨v6, rfl, ho6, hx⟩
  obtain ⟨A6, n6, c6, rfl⟩ := ho6.shape3
  have HO6 := Lib.hid ho6
  clear ho6
  have hH2 := hHeld.trans hx
  refine hK.out _ _ (fun _ _ => hH2) ?_
  clear hHeld hK K
  have hHeld := hH2
  clear hH2
  try simp only [Act.put, List.setIfInBounds_toArray, List.set_cons_zero, List.set_cons_succ]
  refine wpF_ready (rs := [9]) (by kernel_rfl) (by simp) (AllF.cons (o := ?oy109) ?hy109 (fun K hK => ?sy109) AllF.nil)
  case hy109 => simp only [List.getElem?_toArray, List.getElem?_cons_zero, List.getElem?_cons_succ]; rfl
  go_simp
  refine (HSZ.out _).mono ?_
  rintro e w7 ⟨rfl, rfl⟩
  have hH2 := hHeld
  refine hK.out _ _ (fun _ _ => hH2) ?_
  clear hHeld hK K
  have hHeld := hH2
  clear hH2
  try simp only [Act.put, List.setIfInBounds_toArray, List.set_cons_zero, List.set_cons_succ]
  refine wpF_take (i := 10) (oi := ?oiz11) (v := ?vz11) ?hiz11 (by kernel_rfl) (by kernel_rfl) (by kernel_rfl) (by kernel_rfl) ?hQz11 ?hyz11 (by assumption) ?restz11
  case hiz11 => simp only [List.getElem?_toArray, List.getElem?_cons_zero, List.getElem?_cons_succ]; rfl
  case hQz11 => exact fun _ _ _ h => h
  case hyz11 => exact Or.inl ⟨by rfl, by intro w hSw; (try dsimp only at hSw); go_simp; with_reducible rfl⟩
  try simp only [Act.put, List.setIfInBounds_toArray, List.set_cons_zero, List.set_cons_succ]
  refine wpF_take (i := 11) (oi := ?oiz12) (v := (.agg (hsC X (.slice A6 n6 c6) ((c : Int) + (d.length : Int))))) ?hiz12 (by kernel_rfl) (by kernel_rfl) (by kernel_rfl) (by kernel_rfl) ?hQz12 ?hyz12 (by assumption) ?restz12
  case hiz12 => simp only [List.getElem?_toArray, List.getElem?_cons_zero, List.getElem?_cons_succ]; rfl
  case hQz12 => exact fun _ _ _ h => h
  case hyz12 => refine yields_build ?_ rfl (HB.out A6 n6 c6); rfl
  try simp only [Act.put, List.setIfInBounds_toArray, List.set_cons_zero, List.set_cons_succ]
  refine wpF_ready (rs := [12]) (by kernel_rfl) (by simp) (AllF.cons (o := ?oy1312) ?hy1312 (fun K hK => ?sy1312) AllF.nil)
  case hy1312 => simp only [List.getElem?_toArray, List.getElem?_cons_zero, List.getElem?_cons_succ]; rfl
  refine stp_storeP (off := 0) (B1.out.ext hHeld) aggHs (HST.out A6 n6 c6) (by have := HZS.out; omega) rfl _ _ rfl rfl rfl rfl ?_
  rw [splice_all _ _ (by rw [Array.length_toList, (HST.out A6 n6 c6).size, HZS.out])]
  have e9 : (hsC X (.slice A6 n6 c6) ((c : Int) + (d.length : Int))).toList.toArray = hsC X (.slice A6 n6 c6) ((c : Int) + (d.length : Int)) := by simp
  rw [e9]
  have HXF := Lib.hid ((HX.out.trans hHeld).setRow (g := w.heap.size + 1) (by omega) (hsC X (.slice A6 n6 c6) ((c : Int) + (d.length : Int))))
  have BF := Lib.hid ((B1.out.ext hHeld).setRow (hsC X (.slice A6 n6 c6) ((c : Int) + (d.length : Int))))
  have HOF := Lib.hid ((HO6.out.setRow_below (g := w.heap.size + 1) H5.out (hsC X (.slice A6 n6 c6) ((c : Int) + (d.length : Int)))).le (base' := w.heap.size) (by have := H5.out; omega))
  clear e9
  refine hK.out _ _ (fun h => absurd (by decide) h) ?_
  clear hHeld hK K
  try simp only [Act.put, List.setIfInBounds_toArray, List.set_cons_zero, List.set_cons_succ]
  refine wpF_late (i := 13) (oi := ?oiz14) (v := ?vz14) ?hiz14 (by kernel_rfl) (by kernel_rfl) (by kernel_rfl) ?hQz14 ?hyz14 ?restz14
  case hiz14 => simp only [List.getElem?_toArray, List.getElem?_cons_zero, List.getElem?_cons_succ]; rfl
  case hQz14 => exact fun _ _ _ h => h
  case hyz14 => exact Or.inl ⟨by rfl, by intro w hSw; (try dsimp only at hSw); go_simp; with_reducible rfl⟩
  try simp only [Act.put, List.setIfInBounds_toArray, List.set_cons_zero, List.set_cons_succ]
  refine wpF_done (by kernel_rfl) ?_ _
  have HSF := Lib.hid (HST.out A6 n6 c6).size
  clear B0 B1
  go_wp2_with fail
  refine bodyPost_ret (results_kc rfl _ rfl aggHs HSF.out BF.out rfl) rfl ?_
  exact ⟨_, rfl, HOF.out, HXF.out⟩
set_option maxHeartbeats 4000000 in
set_option maxRecDepth 100000 in
theorem keyOfHasher_any (st : List Int) (h8 : st.length = 8) (hu : U32 st) (held : List Int) (v0 : Value) (c : Nat) (hc : c ≤ 1000000000) (hn : held.length = c % 32) (w : World) (S : Nat → Prop) (hr0 : RdL tByte w S v0 held) :
    Calls Try.prog 18 #[.agg (hsC st v0 c)] w fun e w' => e = .returned (.tuple #[.agg (numsA .u8 (endL st held c)), .int .i64 0]) ∧ Ext w w' := by
  obtain ⟨A, k, rfl, _⟩ := id hr0
  have HR0 := Lib.hid hr0
  have HVH := Lib.hid (fun W => validHasher_any st h8 A held.length k c hc hn W)
  obtain ⟨a8, a9⟩ := hs_at h8 (.slice A held.length k) c
  have hin := hs_in st (.slice A held.length k) c
  have hsz := (stHs h8 A held.length k c).size
  have hl32 : held.length ≤ 31 := by omega
  have HPL := Lib.hid (padL_same held.length c (c : Int) (by omega))
  have HPLL := Lib.hid (padL_length held.length c)
  obtain ⟨m, hm⟩ : ∃ m, (held.length + padZ held.length + 9) / 32 = m := ⟨_, rfl⟩
  have hpm := padded_mod held.length
  obtain ⟨al, hal⟩ : ∃ al, held ++ padL held.length c = al := ⟨_, rfl⟩
  have hall : al.length = 32 * m := by rw [← hal, List.length_append, HPLL.out]; omega
  have hpz : padZ held.length ≤ 31 := by rw [padZ_eq]; omega
  have HALL := Lib.hid hall
  have HPZ := Lib.hid hpz
  have hal2 : al.length ≤ 1000 := by rw [hall]; omega
  have HA0 := Lib.hid hal
  have hE : endL st held c = keyL (mixN al st m) := by rw [endL, hal, hm]
  rw [hE]
  have HS8 := Lib.hid (mixN_length al st m h8)
  have HU := Lib.hid (mixN_ok al st m hu)
  have HMX := Lib.hid (fun (W : World) (v : Value) (S : Nat → Prop) hW => mixed_any st h8 hu v al m W S hW)
  have HKO := Lib.hid (fun W => keyOf_any (mixN al st m) HS8.out HU.out W)
  have HKL := Lib.hid (keyL_length (mixN al st m))
  have hnl : (nums .u32 st).length = 8 := by rw [nums_length, h8]
  generalize keyL (mixN al st m) = K at HKO HKL ⊢
  generalize mixN al st m = X at HMX HKO
  have hzA : (Try.prog.info? 28).map (·.zero) = some (some (.agg (numsA .u8 (List.replicate 32 0)))) := by kernel_rfl
  have HZS := Lib.hid (show (numsA .u8 (List.replicate 32 0)).size = 32 by simp [numsA, nums])
  generalize numsA .u8 (List.replicate 32 0) = Z at hzA HZS
  generalize hsC st (.slice A held.length k) c = C at a8 a9 hin HVH hsz ⊢
  have HIN := Lib.hid hin
  have B0 := Lib.hid ((Blk.new w 40 C).alloc (.cells Z 28))
  have B1 := Lib.hid (Blk.new' (g := w.heap.size + 1) (w := w.alloc (.cells C 40)) (by simp) 28 Z)
  have HX := Lib.hid ((ext_alloc w (.cells C 40)).alloc (.cells Z 28))
  clear hr0 hin hm hal h8 hu hn hpm hall hE hpz
  go_enter Try.func18, Try.ntmps18
  go_wp2_with (first
    | (refine wpl_alloc Z hzA rfl rfl ?_)
    | (refine wpl_loadB B0.out aggHs hsz rfl _ rfl rfl ?_))
  refine (HVH.out _).mono ?_
  rintro e w1 ⟨rfl, hx⟩
  replace B0 := Lib.hid (B0.out.ext hx)
  replace B1 := Lib.hid (B1.out.ext hx)
  replace HX := Lib.hid (HX.out.trans hx)
  clear hx hzA HVH
  go_wp2_with fail
  refine wp_region_held_drew (S := fun W => Ext w1 W) (by kernel_rfl) (Ext.refl _).drew (fun hHeld => ?_)
  refine tkI 0 (by simp only [List.getElem?_toArray, List.getElem?_cons_zero, List.getElem?_cons_succ]; rfl) (by kernel_rfl) (by exact fun _ _ _ h => h) (by first | (exact Or.inl ⟨by rfl, by intro w hSw; (try dsimp only at hSw); go_simp; with_reducible rfl⟩) | (exact Or.inr ⟨by rfl, by rfl⟩)) (by assumption) ?_
  try simp only [Act.put, List.setIfInBounds_toArray, List.set_cons_zero, List.set_cons_succ]
  refine tkI 1 (by simp only [List.getElem?_toArray, List.getElem?_cons_zero, List.getElem?_cons_succ]; rfl) (by kernel_rfl) (by exact fun _ _ _ h => h) (by exact Or.inl ⟨by rfl, by intro W hSw; have e8 : W.cell? ⟨w.heap.size, 8, none⟩ = some (.slice A held.length k) := (B0.out.ext hSw).at_ 8 a8; go_simp; with_reducible rfl⟩) (by assumption) ?_
  try simp only [Act.put, List.setIfInBounds_toArray, List.set_cons_zero, List.set_cons_succ]
  refine tkI 2 (by simp only [List.getElem?_toArray, List.getElem?_cons_zero, List.getElem?_cons_succ]; rfl) (by kernel_rfl) (by exact fun _ _ _ h => h) (by first | (exact Or.inl ⟨by rfl, by intro w hSw; (try dsimp only at hSw); go_simp; with_reducible rfl⟩) | (exact Or.inr ⟨by rfl, by rfl⟩)) (by assumption) ?_
  try simp only [Act.put, List.setIfInBounds_toArray, List.set_cons_zero, List.set_cons_succ]
  refine tkI 3 (by simp only [List.getElem?_toArray, List.getElem?_cons_zero, List.getElem?_cons_succ]; rfl) (by kernel_rfl) (by exact fun _ _ _ h => h) (by exact Or.inl ⟨by rfl, by intro W hSw; have e9 : W.cell? ⟨w.heap.size, 9, none⟩ = some (.int .i64 (c : Int)) := (B0.out.ext hSw).at_ 9 a9; go_simp; with_reducible rfl⟩) (by assumption) ?_
  try simp only [Act.put, List.setIfInBounds_toArray, List.set_cons_zero, List.set_cons_succ]
  refine wpAnyH_ready (rs := [4]) (by kernel_rfl) (by simp) (AllReadyH.cons (o := ?oy194) ?hy194 (fun K hK => ?sy194) AllReadyH.nil)
  case hy194 => simp only [List.getElem?_toArray, List.getElem?_cons_zero, List.getElem?_cons_succ]; rfl
  go_simp
  refine (padding_any c (by omega) _).mono ?_
  rintro e w2 ⟨v2, rfl, ho2, hx⟩
  obtain ⟨A2, n2, c2, rfl⟩ := ho2.shape3
  rw [← HPL.out] at ho2
  have HO2 := Lib.hid ho2
  clear ho2
  have hH2 := hHeld.trans hx
  refine hK.out _ _ hH2 (fun _ => ?_)
  clear hHeld hK K
  have hHeld := hH2
  clear hH2
  try simp only [Act.put, List.setIfInBounds_toArray, List.set_cons_zero, List.set_cons_succ]
  refine wpAnyH_ready (rs := [5]) (by kernel_rfl) (by simp) (AllReadyH.cons (o := ?oy205) ?hy205 (fun K hK => ?sy205) AllReadyH.nil)
  case hy205 => simp only [List.getElem?_toArray, List.getElem?_cons_zero, List.getElem?_cons_succ]; rfl
  go_simp
  have hE5 := ext_alloc w2 (.cells #[.slice A held.length k, .slice A2 n2 c2] 22)
  have BS := Lib.hid (Blk.new w2 22 #[.slice A held.length k, .slice A2 n2 c2])
  replace HO2 := Lib.hid (HO2.out.ext hE5)
  have hH2 := hHeld.trans hE5
  refine hK.out _ _ hH2 (fun _ => ?_)
  clear hHeld hK K
  have hHeld := hH2
  clear hH2
  try simp only [Act.put, List.setIfInBounds_toArray, List.set_cons_zero, List.set_cons_succ]
  clear hE5
  generalize w2.alloc (.cells #[.slice A held.length k, .slice A2 n2 c2] 22) = w3 at hHeld HO2 BS ⊢
  refine wpAnyH_ready (rs := [6]) (by kernel_rfl) (by simp) (AllReadyH.cons (o := ?oy216) ?hy216 (fun K hK => ?sy216) AllReadyH.nil)
  case hy216 => simp only [List.getElem?_toArray, List.getElem?_cons_zero, List.getElem?_cons_succ]; rfl
  go_simp
  refine (concat2_all w2.heap.size 0 _ _ held (padL held.length c) _ S _ (HR0.out.ext (by decide) (HX.out.trans hHeld)) HO2.out.rd (by rw [HPLL.out]; have := HPZ.out; omega) (BS.out.at_ 0 rfl) (BS.out.at_ 1 rfl)).mono ?_
  rintro e w4 ⟨v4, rfl, ho4, hx⟩
  obtain ⟨A4, n4, c4, rfl⟩ := ho4.shape3
  rw [HA0.out] at ho4
  have HO4 := Lib.hid ho4
  clear ho4
  have hH2 := hHeld.trans hx
  refine hK.out _ _ hH2 (fun _ => ?_)
  clear hHeld hK K
  have hHeld := hH2
  clear hH2
  try simp only [Act.put, List.setIfInBounds_toArray, List.set_cons_zero, List.set_cons_succ]
  refine wpAnyH_ready (rs := [7]) (by kernel_rfl) (by simp) (AllReadyH.cons (o := ?oy227) ?hy227 (fun K hK => ?sy227) AllReadyH.nil)
  case hy227 => simp only [List.getElem?_toArray, List.getElem?_cons_zero, List.getElem?_cons_succ]; rfl
  go_simp
  refine (blocks_any _ al m _ _ HO4.out.rd HALL.out (by omega)).mono ?_
  rintro e w5 ⟨v5, u5, rfl, ho5, hx⟩
  obtain ⟨A5, n5, c5, rfl⟩ := ho5.shape3
  have HO5 := Lib.hid ho5
  clear ho5
  have hH2 := hHeld.trans hx
  refine hK.out _ _ hH2 (fun _ => ?_)
  clear hHeld hK K
  have hHeld := hH2
  clear hH2
  try simp only [Act.put, List.setIfInBounds_toArray, List.set_cons_zero, List.set_cons_succ]
  iterate 5
    refine tkD 0 (by simp only [List.size_toArray, List.length_cons, List.length_nil]; rfl) (by simp only [List.getElem?_toArray, List.getElem?_cons_zero, List.getElem?_cons_succ]; rfl) (by kernel_rfl) (by exact fun _ _ _ h => h) (by first | (exact Or.inl ⟨by rfl, by intro w hSw; (try dsimp only at hSw); go_simp; with_reducible rfl⟩) | (exact Or.inr ⟨by rfl, by rfl⟩)) (by assumption) ?_
    try simp only [Act.put, List.setIfInBounds_toArray, List.set_cons_zero, List.set_cons_succ]
  refine wpAnyH_done (by kernel_rfl) ?_ _
  replace B0 := Lib.hid (B0.out.ext hHeld)
  replace B1 := Lib.hid (B1.out.ext hHeld)
  replace HX := Lib.hid (HX.out.trans hHeld)
  clear hHeld HO4 HO2 BS
  have hst : ∀ j u, (nums .u32 st)[j]? = some u → w5.cell? ((⟨w.heap.size, 0, none⟩ : Addr).add j) = some u := fun j u hu => by rw [Addr.add_lit, Nat.zero_add]; exact B0.out.at_ j (HIN.out j u hu)
  go_wp2_with (refine wpl_load ⟨w.heap.size, 0, none⟩ (nums .u32 st) (by rw [hnl]; exact aggU32) rfl _ rfl rfl hst ?_)
  refine (HMX.out _ _ _ HO5.out.rd).mono ?_
  rintro e w6 ⟨rfl, hx⟩
  replace B1 := Lib.hid (B1.out.ext hx)
  replace HX := Lib.hid (HX.out.trans hx)
  clear hx hst HO5
  go_wp2_with fail
  refine (HKO.out _).mono ?_
  rintro e w7 ⟨rfl, hx⟩
  replace B1 := Lib.hid (B1.out.ext hx)
  replace HX := Lib.hid (HX.out.trans hx)
  clear hx
  go_wp2_with (refine wpl_storeN B1.out aggKey HKL.out HZS.out rfl _ _ rfl rfl rfl rfl ?_)
  refine bodyPost_ret (results_kc rfl _ rfl aggKey (sizeN HKL.out) (B1.out.setRow _) rfl) rfl ?_
  exact ⟨rfl, HX.out.setRow (by omega) _⟩
theorem run_eq8 (a : List Int) (ha : a.length = 8) (W : World) : (binOp .eql 35 (.agg (numsA .u32 a)) (.agg (numsA .u32 a))).run Try.prog W = .ok (.bool true) W := by
  rw [run_eql_struct, run_equalIn_array (P := Try.prog) W 9999 35 34 8 1 _ _ (by kernel_rfl) (fun w => by kernel_rfl), run_eqArr (P := Try.prog) W 9998 34 .u32 (by kernel_rfl) .u32 a a rfl 8 0 (by rw [ha])]
  simp
set_option maxHeartbeats 1000000 in
set_option maxRecDepth 100000 in
theorem slEqual_nil (w : World) : Calls Try.prog 58 #[.slice none 0 0, .slice none 0 0] w fun e w' => e = .returned (.bool true) ∧ Ext w w' := by
  go_enter Try.func58, Try.ntmps58
  go_wp2
  go_loopw [13] (fun i wr => i = .int .i64 0 ∧ Ext w wr) (fun i _ => 0)
  case atStart => exact ⟨rfl, Ext.refl _⟩
  case round =>
    obtain ⟨rfl, hx⟩ := hrel
    go_wp2
    go_ret
    exact ⟨rfl, hx⟩
set_option maxHeartbeats 1000000 in
set_option maxRecDepth 100000 in
theorem sameHasher_any (st : List Int) (h8 : st.length = 8) (w : World) :
    Calls Try.prog 20 #[.agg (hsC st (.slice none 0 0) 0), .agg (hsC st (.slice none 0 0) 0)] w fun e w' => e = .returned (.bool true) ∧ Ext w w' := by
  obtain ⟨a8, a9⟩ := hs_at h8 (.slice none 0 0) 0
  have hin := hs_in st (.slice none 0 0) 0
  have hnl : (nums .u32 st).length = 8 := by rw [nums_length, h8]
  have heq := fun W => show (binOp .eql 35 (.agg (nums .u32 st).toArray) (.agg (nums .u32 st).toArray)).run Try.prog W = .ok (.bool true) W from run_eq8 st h8 W
  generalize hsC st (.slice none 0 0) 0 = C at a8 a9 hin ⊢
  have B0 := Lib.hid ((Blk.new w 40 C).alloc (.cells C 40))
  have B1 := Lib.hid (Blk.new' (g := w.heap.size + 1) (w := w.alloc (.cells C 40)) (by simp) 40 C)
  have HX := Lib.hid ((ext_alloc w (.cells C 40)).alloc (.cells C 40))
  have HIN := Lib.hid hin
  have h0 : ∀ j u, (nums .u32 st)[j]? = some u → ((w.alloc (.cells C 40)).alloc (.cells C 40)).cell? ((⟨w.heap.size, 0, none⟩ : Addr).add j) = some u := fun j u hu => by rw [Addr.add_lit, Nat.zero_add]; exact B0.out.at_ j (HIN.out j u hu)
  have h1 : ∀ j u, (nums .u32 st)[j]? = some u → ((w.alloc (.cells C 40)).alloc (.cells C 40)).cell? ((⟨w.heap.size + 1, 0, none⟩ : Addr).add j) = some u := fun j u hu => by rw [Addr.add_lit, Nat.zero_add]; exact B1.out.at_ j (HIN.out j u hu)
  have d8 := B0.out.at_ 8 a8
  have e8 := B1.out.at_ 8 a8
  have HH0 := Lib.hid h0
  have HH1 := Lib.hid h1
  clear hin h8 h0 h1
  go_enter Try.func20, Try.ntmps20
  go_wp2_with (first
    | (refine wpl_load ⟨w.heap.size, 0, none⟩ (nums .u32 st) (by rw [hnl]; exact aggU32) rfl _ rfl rfl HH0.out ?_)
    | (refine wpl_load ⟨w.heap.size + 1, 0, none⟩ (nums .u32 st) (by rw [hnl]; exact aggU32) rfl _ rfl rfl HH1.out ?_))
  refine (slEqual_nil _).mono ?_
  rintro e w1 ⟨rfl, hx⟩
  have d9 := (B0.out.ext hx).at_ 9 a9
  have e9 := (B1.out.ext hx).at_ 9 a9
  replace HX := Lib.hid (HX.out.trans hx)
  clear hx d8 e8
  go_wp2
  go_ret
  exact ⟨rfl, HX.out⟩
theorem hsS_length (t : Int) (d : List Int) : (hsS t d).length = 8 := mixN_length _ _ _ (startL_length t)
theorem hsS_ok (t : Int) (ht : 0 ≤ t ∧ t ≤ 255) (d : List Int) : U32 (hsS t d) := mixN_ok _ _ _ (startL_ok t ht)
theorem hsS_nil (t : Int) : hsS t [] = startL t := by unfold hsS; rw [show ([] : List Int).length / 32 = 0 from rfl, mixN_zero]
theorem feed_any (t : Int) (ht : 0 ≤ t ∧ t ≤ 255) (d0 e : List Int) (v0 v1 : Value) (hl : d0.length + e.length ≤ 4096) (w : World) (S S' : Nat → Prop) (hr0 : RdL tByte w S v0 (hsH d0)) (hr1 : RdL tByte w S' v1 e) :
    Calls Try.prog 17 #[.agg (hsC (hsS t d0) v0 d0.length), v1] w fun q w' => ∃ A n k, q = .returned (.tuple #[.agg (hsC (hsS t (d0 ++ e)) (.slice A n k) ((d0 ++ e).length : Nat)), .int .i64 0]) ∧ Own tByte 5 w' w.heap.size (.slice A n k) (hsH (d0 ++ e)) ∧ Ext w w' := by
  refine (feedHasher_any (hsS t d0) (hsS_length t d0) (hsS_ok t ht d0) (hsH d0) e v0 v1 d0.length (by omega) (hsH_length d0) (by omega) w S S' hr0 hr1).mono ?_
  rintro q w' ⟨v', rfl, ho, hx⟩
  rw [← hs_feedS, ← hs_feedH] at *
  obtain ⟨A, n, k, rfl⟩ := ho.shape3
  exact ⟨A, n, k, by rw [List.length_append], ho, hx⟩
theorem keyOf_hs (t : Int) (ht : 0 ≤ t ∧ t ≤ 255) (d : List Int) (v : Value) (hl : d.length ≤ 4096) (w : World) (S : Nat → Prop) (hr : RdL tByte w S v (hsH d)) :
    Calls Try.prog 18 #[.agg (hsC (hsS t d) v d.length)] w fun q w' => q = .returned (.tuple #[.agg (numsA .u8 (hashL t d)), .int .i64 0]) ∧ Ext w w' := by
  rw [hs_key]
  exact keyOfHasher_any (hsS t d) (hsS_length t d) (hsS_ok t ht d) (hsH d) v d.length (by omega) (hsH_length d) w S hr
end Go.Proofs.Ytdjclllnmclocaa
/- Two variables of a struct's type, made and filled at once. No condition. -/
namespace Go.Proofs.Ytdjclllnmclocaa
open Go.RowKit Go.BigFrame
set_option linter.unusedVariables false
set_option linter.unusedSimpArgs false

end Go.Proofs.Ytdjclllnmclocaa
/- The walk of the law FnHashers. No condition. -/
namespace Go.Proofs.Ytdjclllnmclocaa
open Go.RowKit
set_option linter.unusedVariables false
set_option linter.unusedSimpArgs false

theorem cutF {P : Program} {c : Code} {a : Act} {w : World} {Q : Exit → Act → World → Prop} {F : Option Addr → Nat → Nat → Nat → Act} {Φ : Option Addr → Nat → Nat → Nat → World → Prop} (reg : (∀ A n k g w', Φ A n k g w' → Q .normal (F A n k g) w') → Code.wp P c Q a w) (rest : ∀ A n k g w', Φ A n k g w' → Q .normal (F A n k g) w') : Code.wp P c Q a w := reg rest
theorem hash_blocks (t : Int) (xs : List Int) (m : Nat) (hm : xs.length + padZ xs.length + 9 = 32 * m) : hashL t xs = keyL (mixN (xs ++ padL xs.length xs.length) (startL t) m) := by
  rw [hashL, endL, hm, Nat.mul_div_cancel_left _ (by decide)]
theorem al_data (xs : List Int) (i : Nat) (h : i < xs.length) : gI (xs ++ padL xs.length xs.length) i = gI xs i := by
  rw [gI_lt (by rw [List.length_append]; omega), gI_lt h, List.getElem_append_left h]
theorem al_mark (xs : List Int) : gI (xs ++ padL xs.length xs.length) xs.length = 128 := by
  have hl : xs.length < (xs ++ padL xs.length xs.length).length := by rw [List.length_append, padL_length]; omega
  rw [gI_lt hl, List.getElem_append_right (Nat.le_refl _)]
  simp only [Nat.sub_self, padL_eq]
  rfl
theorem block_at (al : List Int) (m k q : Nat) (h : al.length = 32 * m) (hk : k < m) (hq : q < 32) : (nums .u8 (blockL al k))[q]? = some (.int .u8 (gI al (32 * k + q))) := by
  have hl : (blockL al k).length = 32 := by rw [blockL_eq, List.length_take, List.length_drop]; omega
  rw [nums_at _ _ _ (by rw [hl]; exact hq), gI_lt (by rw [hl]; exact hq), gI_lt (by omega)]
  simp only [blockL_eq, List.getElem_take, List.getElem_drop]
theorem RdL.here {α : Type} {T : Ty α} {w : World} {S : Nat → Prop} {v : Value} {xs : List α} (h : RdL T w S v xs) (hz : 0 < T.sz) : RdL T w (fun g => g < w.heap.size) v xs := by
  obtain ⟨A, cap, e, h1, h2, h3, h4⟩ := h
  exact ⟨A, cap, e, h1, h2, (h3.old hz).mono (fun g hg => hg.2), h4⟩
theorem RdL.past {α : Type} {T : Ty α} {w w' : World} {gS : Nat} {v : Value} {xs : List α} (h : RdL T w (fun g => g < gS) v xs) (hS : gS ≤ w.heap.size) (hg : w.grownBy w' (some gS)) : RdL T w' (fun g => g < gS) v xs :=
  h.keep fun g hs => hg.block g (Nat.lt_of_lt_of_le hs hS) (fun e => Nat.lt_irrefl g (by rw [Option.some.inj e]; exact (Option.some.inj e) ▸ hs))
set_option maxHeartbeats 16000000 in
set_option maxRecDepth 100000 in
theorem FnHashers_any (w : World) (v0 : Value) (x0 : List Int) (S0 : Nat → Prop) (h0 : RdL tByte w S0 v0 x0) (v1 : Value) (x1 : List Int) (S1 : Nat → Prop) (h1 : RdL tByte w S1 v1 x1) :
    Calls Try.prog 3 #[v0, v1] w fun e w' => e = .returned (.bool true) ∧ Ext w w' := by
  obtain ⟨A0, cap0, rfl, _⟩ := id h0
  obtain ⟨A1, cap1, rfl, _⟩ := id h1
  have H0 := Lib.hid h0
  have H1 := Lib.hid h1
  clear h0 h1
  cases hlong : (decide (3000 < x0.length) || decide (3000 < x1.length)) with
  | true =>
    have hl := fun W => a2Long_any A0 A1 x0.length x1.length cap0 cap1 W true hlong
    clear hlong
    go_enter Try.func3, Try.ntmps3
    go_wp2_with fail
    refine (hl _).mono ?_
    rintro e w' ⟨rfl, rfl⟩
    go_wp2
    go_ret
    exact ⟨rfl, Ext.refl _⟩
  | false =>
    have hl := fun W => a2Long_any A0 A1 x0.length x1.length cap0 cap1 W false hlong
    clear hlong
    go_enter Try.func3, Try.ntmps3
    go_wp2_with fail
    refine (hl _).mono ?_
    rintro e w' ⟨rfl, rfl⟩
    clear hl
    go_wp2_with fail
    refine (a2Data_any _ x0 90 (by omega) _ _ H0.out).mono ?_
    rintro e w1 ⟨va, da, rfl, hoa, hla, hx⟩
    have XW := Lib.hid hx
    have HOA := Lib.hid hoa
    obtain ⟨Aa, na, ca, rfl⟩ := hoa.shape3
    clear hx hoa
    go_wp2_with fail
    refine (a2Data_any _ x1 90 (by omega) _ _ (H1.out.ext (by decide) XW.out)).mono ?_
    rintro e w2 ⟨vb, db, rfl, hob, hlb, hx⟩
    replace XW := Lib.hid (XW.out.trans hx)
    replace HOA := Lib.hid (HOA.out.ext hx)
    have HOB := Lib.hid hob
    obtain ⟨Ab, nb, cb, rfl⟩ := hob.shape3
    clear hx hob
    go_wp2_with fail
    refine (a2Join_any _ _ da db (by omega) _ _ _ HOA.out.rd HOB.out.rd).mono ?_
    rintro e w3 ⟨vd, rfl, hod, hx⟩
    replace XW := Lib.hid (XW.out.trans hx)
    obtain ⟨xs, hxs⟩ : ∃ xs, da ++ db = xs := ⟨_, rfl⟩
    rw [hxs] at hod
    have hn : xs.length ≤ 180 := by rw [← hxs, List.length_append]; omega
    have HD := Lib.hid (hod.rd.mono (S' := fun g => g < w3.heap.size) (fun g hg => hg.2))
    obtain ⟨Ad, cd, e1, hcd, _, hrd, hokd⟩ := hod.rd
    subst e1
    have HBX := Lib.hid (show B8 xs from hokd)
    clear hx hod hxs HOA HOB hla hlb hrd hokd
    go_wp2_with fail
    refine (a2At_any _ x1 0 256 (by omega) _ _ (H1.out.ext (by decide) XW.out) (by omega)).mono ?_
    rintro e w' ⟨t, rfl, ht0, ht1, rfl⟩
    have ht2 : t ≤ 255 := by omega
    have htw := u8_in t ht0 ht2
    clear ht1
    go_wp2_with fail
    refine (hashOf_any t ⟨ht0, ht2⟩ _ xs (by omega) _ _ HD.out).mono ?_
    rintro e w4 ⟨rfl, hx⟩
    obtain ⟨m, hm⟩ : ∃ m, xs.length + padZ xs.length + 9 = 32 * m := ⟨(xs.length + padZ xs.length + 9) / 32, by have := padded_mod xs.length; omega⟩
    have HHB := Lib.hid (hash_blocks t xs m hm)
    have hpz : padZ xs.length ≤ 31 := by rw [padZ_eq]; omega
    have hm40 : (xs.length + 40) / 32 = m := by omega
    have HM := Lib.hid hm
    have hkl := (hashL_ok t xs).1
    obtain ⟨K, hK⟩ : ∃ K, hashL t xs = K := ⟨_, rfl⟩
    have HKE := Lib.hid hK
    rw [hK] at hkl HHB ⊢
    have hst := St.nums (k := .u8) hkl
    have hsz := sizeN (k := .u8) hkl
    have HKL := Lib.hid hkl
    have hE := hx.trans (ext_alloc w4 (.cells (numsA .u8 K) 28))
    replace HD := Lib.hid (HD.out.ext (by decide) hE)
    replace XW := Lib.hid (XW.out.trans hE)
    have BW := Lib.hid (Blk.new w4 28 (numsA .u8 K))
    have hlt := Nat.lt_of_lt_of_le (Nat.lt_succ_self _) (Nat.succ_le_succ hx.size)
    clear hx hE hK hkl hm hpz
    go_wp2_with (refine wpl_storeNewB aggKey hst rfl rfl _ _ rfl rfl rfl rfl ?_)
    obtain ⟨gW, hgW⟩ : ∃ gW, w4.heap.size = gW := ⟨_, rfl⟩
    rw [hgW] at BW ⊢
    generalize w4.alloc (.cells (numsA .u8 K) 28) = w5 at HD XW BW ⊢
    refine (padBlocks_any _ xs (by omega) m HM.out _ _ HD.out).mono ?_
    rintro e w6 ⟨vb, rfl, hob, hx⟩
    replace HD := Lib.hid (HD.out.ext (by decide) hx)
    replace XW := Lib.hid (XW.out.trans hx)
    replace BW := Lib.hid (BW.out.ext hx)
    have HAD := Lib.hid (fun i h => al_data xs i h)
    have HAM := Lib.hid (al_mark xs)
    have hall : (xs ++ padL xs.length xs.length).length = 32 * m := by rw [List.length_append, padL_length]; have := HM.out; omega
    obtain ⟨al, hal⟩ : ∃ al, xs ++ padL xs.length xs.length = al := ⟨_, rfl⟩
    rw [hal] at HAD HAM HHB hob hall
    have HALL := Lib.hid hall
    have hbl : (blocksL al m).length = m := by simp [blocksL]
    obtain ⟨Ab, cb, e1, hcb, hnb, hrb, hkb⟩ := hob.rd
    rw [hbl] at e1 hcb hnb
    subst e1
    have HB := Lib.hid (show RdL tKey w6 (fun g => g < w6.heap.size) (.slice Ab m cb) (blocksL al m) from ⟨Ab, cb, by rw [hbl], by rw [hbl]; exact hcb, by rw [hbl]; exact hnb, hrb.mono (fun g hg => hg.2), hkb⟩)
    clear hx hob hrb hkb hal hall hlt
    have qm : ((m : Int) != ((xs.length : Int) + 9 + 31) / 32) = false := by
      rw [bne_eq_false_iff_eq]
      omega
    have qw1 : IntKind.i64.wrap ((xs.length : Int) + 9) = (xs.length : Int) + 9 := IntWalk.i64_in _ (by omega)
    have qw2 : IntKind.i64.wrap ((xs.length : Int) + 9 + 31) = (xs.length : Int) + 9 + 31 := IntWalk.i64_in _ (by omega)
    go_wp2_with fail
    refine (startState_any t ⟨ht0, ht2⟩ _).mono ?_
    rintro e w7 ⟨rfl, hx⟩
    replace HD := Lib.hid (HD.out.ext (by decide) hx)
    replace XW := Lib.hid (XW.out.trans hx)
    replace BW := Lib.hid (BW.out.ext hx)
    replace HB := Lib.hid ((HB.out.ext (by decide) hx).here (by decide))
    replace HD := Lib.hid (HD.out.here (by decide))
    clear hx
    obtain ⟨st, hst0⟩ : ∃ st, startL t = st := ⟨_, rfl⟩
    have HST := Lib.hid hst0
    have HS8 := Lib.hid (show st.length = 8 by rw [← hst0]; exact startL_length t)
    have HSU := Lib.hid (show U32 st by rw [← hst0]; exact startL_ok t ⟨ht0, ht2⟩)
    rw [hst0] at HHB ⊢
    clear hst0
    have hst8 : St 8 (numsA .u32 st) := St.nums HS8.out
    have hWS := BW.out.lt
    have hS0 : w.heap.size ≤ w7.heap.size := XW.out.size
    have hE := ext_alloc w7 (.cells (numsA .u32 st) 35)
    replace HD := Lib.hid (HD.out.ext (by decide) hE)
    replace HB := Lib.hid (HB.out.ext (by decide) hE)
    replace XW := Lib.hid (XW.out.trans hE)
    replace BW := Lib.hid (BW.out.ext hE)
    have BS := Lib.hid (Blk.new w7 35 (numsA .u32 st))
    have hS8 := BS.out.lt
    clear hE
    go_wp2_with (refine wpl_storeNewB aggU32 hst8 rfl rfl _ _ rfl rfl rfl rfl ?_)
    obtain ⟨gS, hgS⟩ : ∃ gS, w7.heap.size = gS := ⟨_, rfl⟩
    rw [hgS] at BS HD HB hWS hS0 hS8 ⊢
    generalize w7.alloc (.cells (numsA .u32 st) 35) = w8 at HD HB XW BW BS hS8 ⊢
    clear hst8 hgS qm qw1 qw2 hm40
    go_loopw [12, 13, 14] (fun i _ _ wr => ∃ k : Nat, k ≤ m ∧ i = .int .i64 k ∧ Blk wr gS 35 (numsA .u32 (mixN al st k)) ∧ w8.grownBy wr (some gS)) (fun i _ _ _ => m - (intOf i).toNat)
    case atStart => exact ⟨0, by omega, rfl, by rw [mixN_zero]; exact BS.out, grown_refl _ _⟩
    case round =>
      clear BS
      obtain ⟨k, hk, rfl, hbs, hg⟩ := hrel
      have BS := Lib.hid hbs
      have HG := Lib.hid hg
      clear hbs hg
      have HD1 := Lib.hid (HD.out.past (Nat.le_of_lt hS8) HG.out)
      have HB1 := Lib.hid (HB.out.past (Nat.le_of_lt hS8) HG.out)
      have HDY := Lib.hid (show ∀ i, i < xs.length → ∃ g o, Ad = some ⟨g, o, none⟩ ∧ g < gS ∧ wr.cell? ⟨g, o + i, none⟩ = some (.int .u8 (gI xs i)) from fun i hi => by
        obtain ⟨A', c', e1, _, _, hrd, _⟩ := HD1.out
        obtain ⟨rfl, e4, e5⟩ := Value.slice.inj e1
        rw [flat_bytes] at hrd
        exact Rd.byte hrd i hi)
      by_cases hlt : k < m
      · obtain ⟨A', c', e1, _, _, hrb, hkb⟩ := HB1.out
        obtain ⟨gb, ob, e2, _, hcb⟩ := hrb.elem hkb k (by simp [blocksL]; exact hlt)
        have e3 : (blocksL al m)[k]'(by simp [blocksL]; exact hlt) = blockL al k := by simp [blocksL]
        obtain ⟨rfl, e4, e5⟩ := Value.slice.inj e1
        clear e4 e5
        subst e2
        rw [e3] at hcb
        have HK := Lib.hid (show K32 (blockL al k) from by rw [← e3]; exact hkb _ (List.getElem_mem _))
        have HCB := Lib.hid (show ∀ j u, (nums .u8 (blockL al k))[j]? = some u → wr.cell? ⟨gb, ob + k * 32 + j, none⟩ = some u from hcb)
        have HBA := Lib.hid (fun q hq => block_at al m k q HALL.out hlt hq)
        clear e1 e3 hrb hkb hcb
        have hkI : (k : Int) < (m : Int) := by omega
        have hk0 : (0 : Int) ≤ (k : Int) := by omega
        go_wp2_with fail
        go_loopw [13, 14] (fun j _ wq => ∃ q : Nat, q ≤ 32 ∧ j = .int .i64 q ∧ Ext wr wq) (fun j _ _ => 32 - (intOf j).toNat)
        case atStart => exact ⟨0, by omega, rfl, Ext.refl _⟩
        case round =>
          obtain ⟨q, hq, rfl, hx⟩ := hrel
          have HX := Lib.hid hx
          clear hx
          by_cases hq32 : q < 32
          · have hqI : (q : Int) < 32 := by omega
            have hq0 : (0 : Int) ≤ (q : Int) := by omega
            have c0 := HX.out.cell (HCB.out q _ (HBA.out q hq32))
            have qw1 : IntKind.i64.wrap (32 * (k : Int)) = 32 * (k : Int) := IntWalk.i64_in _ (by omega)
            have qw2 : IntKind.i64.wrap (32 * (k : Int) + (q : Int)) = 32 * (k : Int) + (q : Int) := IntWalk.i64_in _ (by omega)
            have qn : (32 * (k : Int) + (q : Int)).toNat = 32 * k + q := by omega
            have hp0 : (0 : Int) ≤ 32 * (k : Int) + (q : Int) := by omega
            rcases Nat.lt_trichotomy (32 * k + q) xs.length with h | h | h
            · obtain ⟨gd, od, rfl, _, hcd⟩ := HDY.out (32 * k + q) h
              have c1 := HX.out.cell hcd
              rw [HAD.out _ h] at c0
              have hI1 : 32 * (k : Int) + (q : Int) < (xs.length : Int) := by omega
              have hI2 : (32 * (k : Int) + (q : Int) == (xs.length : Int)) = false := by rw [beq_eq_false_iff_ne]; omega
              generalize gI xs (32 * k + q) = z at c0 c1
              clear hcd h
              go_wp2_with fail
              go_quiet (fail)
              go_wp2
              go_roundw
              case rel => exact ⟨q + 1, by omega, by go_num, HX.out.drewN _⟩
              case measure => simp [intOf]; omega
            · rw [h, HAM.out] at c0
              have hI1 : decide (32 * (k : Int) + (q : Int) < (xs.length : Int)) = false := decide_eq_false (by omega)
              have hI2 : (32 * (k : Int) + (q : Int) == (xs.length : Int)) = true := by rw [beq_iff_eq]; omega
              clear h
              go_wp2_with fail
              go_quiet (fail)
              go_wp2
              go_roundw
              case rel => exact ⟨q + 1, by omega, by go_num, HX.out.drewN _⟩
              case measure => simp [intOf]; omega
            · have hI1 : decide (32 * (k : Int) + (q : Int) < (xs.length : Int)) = false := decide_eq_false (by omega)
              have hI2 : (32 * (k : Int) + (q : Int) == (xs.length : Int)) = false := by rw [beq_eq_false_iff_ne]; omega
              clear h c0
              go_wp2_with fail
              go_quiet (fail)
              go_wp2
              go_roundw
              case rel => exact ⟨q + 1, by omega, by go_num, HX.out.drewN _⟩
              case measure => simp [intOf]; omega
          · obtain rfl : q = 32 := by omega
            have BS2 := Lib.hid (BS.out.ext HX.out)
            have HCB2 := Lib.hid (fun j u hu => HX.out.cell (HCB.out j u hu))
            have HG2 := Lib.hid (grown_ext HG.out HX.out)
            have HS := Lib.hid (mixN_length al st k HS8.out)
            have HU := Lib.hid (mixN_ok al st k HSU.out)
            have HN := Lib.hid (mixN_succ al st k)
            have hnbk : (nums .u8 (blockL al k)).length = 32 := by rw [nums_length, HK.out.1]
            have HNBK := Lib.hid hnbk
            clear hnbk HBA
            generalize mixN al st k = s at BS BS2 HS HU HN
            have hs8 := sizeN (k := .u32) HS.out
            have HSZ := Lib.hid hs8
            have HML := Lib.hid (fun W => mixBlock_any s (blockL al k) HS.out HU.out HK.out W)
            have HM8 := Lib.hid (mixL_length s (blockL al k) HS.out)
            generalize blockL al k = blk at HCB2 HK HN HNBK HML HM8 HCB
            clear BS HCB HX hs8
            go_wp2_with fail
            have hW := Lib.hid (Ext.refl wr)
            refine wp_region_f [6] (S := fun W => Ext wr W) (by kernel_rfl) (Ext.refl _).drew (fun hHeld => ?_)
            refine wpF_take (i := 0) (oi := ?oiz1) (v := (.agg (numsA .u32 s))) ?hiz1 (by kernel_rfl) (by kernel_rfl) (by kernel_rfl) (by kernel_rfl) ?hQz1 ?hyz1 (by assumption) ?restz1
            case hiz1 => simp only [List.getElem?_toArray, List.getElem?_cons_zero, List.getElem?_cons_succ]; rfl
            case hQz1 => exact fun _ _ _ h => h
            case hyz1 => refine yields_loadBSP (fun W hW => BS2.out.ext hW) aggU32 HSZ.out ?_ _ rfl rfl; rfl
            try simp only [Act.put, List.setIfInBounds_toArray, List.set_cons_zero, List.set_cons_succ]
            refine wpF_take (i := 1) (oi := ?oiz2) (v := ?vz2) ?hiz2 (by kernel_rfl) (by kernel_rfl) (by kernel_rfl) (by kernel_rfl) ?hQz2 ?hyz2 (by assumption) ?restz2
            case hiz2 => simp only [List.getElem?_toArray, List.getElem?_cons_zero, List.getElem?_cons_succ]; rfl
            case hQz2 => exact fun _ _ _ h => h
            case hyz2 => exact Or.inl ⟨by rfl, by intro w hSw; (try dsimp only at hSw); go_simp; with_reducible rfl⟩
            try simp only [Act.put, List.setIfInBounds_toArray, List.set_cons_zero, List.set_cons_succ]
            refine wpF_take (i := 2) (oi := ?oiz3) (v := ?vz3) ?hiz3 (by kernel_rfl) (by kernel_rfl) (by kernel_rfl) (by kernel_rfl) ?hQz3 ?hyz3 (by assumption) ?restz3
            case hiz3 => simp only [List.getElem?_toArray, List.getElem?_cons_zero, List.getElem?_cons_succ]; rfl
            case hQz3 => exact fun _ _ _ h => h
            case hyz3 => exact Or.inl ⟨by rfl, by intro w hSw; (try dsimp only at hSw); go_simp; with_reducible rfl⟩
            try simp only [Act.put, List.setIfInBounds_toArray, List.set_cons_zero, List.set_cons_succ]
            refine wpF_take (i := 3) (oi := ?oiz4) (v := ?vz4) ?hiz4 (by kernel_rfl) (by kernel_rfl) (by kernel_rfl) (by kernel_rfl) ?hQz4 ?hyz4 (by assumption) ?restz4
            case hiz4 => simp only [List.getElem?_toArray, List.getElem?_cons_zero, List.getElem?_cons_succ]; rfl
            case hQz4 => exact fun _ _ _ h => h
            case hyz4 => exact Or.inl ⟨by rfl, by intro w hSw; (try dsimp only at hSw); go_simp; with_reducible rfl⟩
            try simp only [Act.put, List.setIfInBounds_toArray, List.set_cons_zero, List.set_cons_succ]
            refine wpF_take (i := 4) (oi := ?oiz5) (v := (.agg (nums .u8 blk).toArray)) ?hiz5 (by kernel_rfl) (by kernel_rfl) (by kernel_rfl) (by kernel_rfl) ?hQz5 ?hyz5 (by assumption) ?restz5
            case hiz5 => simp only [List.getElem?_toArray, List.getElem?_cons_zero, List.getElem?_cons_succ]; rfl
            case hQz5 => exact fun _ _ _ h => h
            case hyz5 => refine yields_loadSP gb (ob + k * 32) (nums .u8 blk) (by rw [HNBK.out]; exact aggB32) (fun W hW j u hu => hW.cell (HCB2.out j u hu)) ?_ _ rfl rfl; rfl
            try simp only [Act.put, List.setIfInBounds_toArray, List.set_cons_zero, List.set_cons_succ]
            refine wpF_ready (rs := [5]) (by kernel_rfl) (by simp) (AllF.cons (o := ?oy65) ?hy65 (fun K hK => ?sy65) AllF.nil)
            case hy65 => simp only [List.getElem?_toArray, List.getElem?_cons_zero, List.getElem?_cons_succ]; rfl
            go_simp
            refine (HML.out _).mono ?_
            rintro e w9 ⟨rfl, hx⟩
            have hH2 := hHeld.trans hx
            refine hK.out _ _ (fun _ _ => hH2) ?_
            clear hHeld hK K
            have hHeld := hH2
            clear hH2
            try simp only [Act.put, List.setIfInBounds_toArray, List.set_cons_zero, List.set_cons_succ]
            refine wpF_ready (rs := [6]) (by kernel_rfl) (by simp) (AllF.cons (o := ?oy76) ?hy76 (fun K hK => ?sy76) AllF.nil)
            case hy76 => simp only [List.getElem?_toArray, List.getElem?_cons_zero, List.getElem?_cons_succ]; rfl
            refine stp_storeP (off := 0) (BS2.out.ext hHeld) aggU32 (St.nums HM8.out) (by have := HSZ.out; omega) rfl _ _ rfl rfl rfl rfl ?_
            rw [splice_all _ _ (by rw [Array.length_toList, HSZ.out, (St.nums (k := .u32) HM8.out).size])]
            have e9 : (numsA .u32 (mixL s blk)).toList.toArray = numsA .u32 (mixL s blk) := by simp
            rw [e9]
            have HG3 := Lib.hid (grown_row (grown_ext HG2.out hHeld) (numsA .u32 (mixL s blk)))
            have BS3 := Lib.hid ((BS2.out.ext hHeld).setRow (numsA .u32 (mixL s blk)))
            clear e9
            refine hK.out _ _ (fun h => absurd (by decide) h) ?_
            clear hHeld hK K
            try simp only [Act.put, List.setIfInBounds_toArray, List.set_cons_zero, List.set_cons_succ]
            refine wpF_done (by kernel_rfl) ?_ _
            go_wp2_with fail
            go_roundw
            case rel => exact ⟨k + 1, by omega, by go_num, by rw [HN.out]; exact BS3.out, HG3.out⟩
            case measure => simp [intOf]; omega
      · obtain rfl : k = m := by omega
        have HS := Lib.hid (mixN_length al st k HS8.out)
        have HU := Lib.hid (mixN_ok al st k HSU.out)
        generalize mixN al st k = X at BS HHB HS HU
        have HKX := Lib.hid (fun i (h : i < 32) => show gI K i = gI X (i / 4) / 2 ^ (8 * (i % 4)) % 256 by rw [HHB.out]; exact keyL_at X i h)
        have BW1 := Lib.hid (show Blk wr gW 28 (numsA .u8 K) from (HG.out.block gW BW.out.lt (fun e => by have := Option.some.inj e; omega)).trans BW.out)
        have XW1 := Lib.hid (XW.out.grown HG.out (fun g e => by have := Option.some.inj e; omega))
        clear HB1 HHB HB HD BW XW HG
        go_wp2_with fail
        go_loopw [15] (fun i wq => ∃ q : Nat, q ≤ 32 ∧ i = .int .i64 q ∧ Ext wr wq) (fun i _ => 32 - (intOf i).toNat)
        case atStart => exact ⟨0, by omega, rfl, Ext.refl _⟩
        case round =>
          obtain ⟨q, hq, rfl, hx⟩ := hrel
          have HX := Lib.hid hx
          clear hx
          by_cases hq32 : q < 32
          · have hqI : (q : Int) < 32 := by omega
            have hq0 : (0 : Int) ≤ (q : Int) := by omega
            have c0 := (BW1.out.ext HX.out).num q (by rw [HKL.out]; exact hq32)
            have c1 := (BS.out.ext HX.out).num (q / 4) (by rw [HS.out]; omega)
            rw [HKX.out q hq32] at c0
            have hz := HU.out.get (q / 4)
            generalize gI X (q / 4) = z at c0 c1 hz
            go_wp2_with fail
            go_quiet (fail)
            go_wp2
            go_roundw
            case rel => exact ⟨q + 1, by omega, by go_num, HX.out.drewN _⟩
            case measure => simp [intOf]; omega
          · obtain rfl : q = 32 := by omega
            have HD2 := Lib.hid (HD1.out.ext (by decide) HX.out)
            have BW2 := Lib.hid (BW1.out.ext HX.out)
            have XW2 := Lib.hid (XW1.out.trans HX.out)
            clear HX BS HS HU HKX HD1 BW1 XW1 HDY HAM HAD HALL HM hbl hcb hnb
            have qw1 : IntKind.i64.wrap ((xs.length : Int) + 1) = (xs.length : Int) + 1 := IntWalk.i64_in _ (by omega)
            go_wp2_with fail
            refine (a2At_any _ x0 0 ((xs.length : Int) + 1) (by omega) _ _ (H0.out.ext (by decide) XW2.out) (by omega)).mono ?_
            rintro e w' ⟨i, rfl, hi0, hi1, rfl⟩
            obtain ⟨i, rfl⟩ := Int.eq_ofNat_of_zero_le hi0
            have hi2 : i ≤ xs.length := by omega
            clear hi1 qw1
            have qw1 : IntKind.i64.wrap ((xs.length : Int) - (i : Int)) = (xs.length : Int) - (i : Int) := IntWalk.i64_in _ (by omega)
            have qw2 : IntKind.i64.wrap ((xs.length : Int) - (i : Int) + 1) = (xs.length : Int) - (i : Int) + 1 := IntWalk.i64_in _ (by omega)
            go_wp2_with fail
            refine (a2At_any _ x1 1 ((xs.length : Int) - (i : Int) + 1) (by omega) _ _ (H1.out.ext (by decide) XW2.out) (by omega)).mono ?_
            rintro e w' ⟨j0, rfl, hj0, hj1, rfl⟩
            obtain ⟨j0, rfl⟩ := Int.eq_ofNat_of_zero_le hj0
            have hj2 : i + j0 ≤ xs.length := by omega
            clear hj1 qw1 qw2
            obtain ⟨J, hJ⟩ : ∃ J, i + j0 = J := ⟨_, rfl⟩
            have qw1 : IntKind.i64.wrap ((i : Int) + (j0 : Int)) = (J : Int) := by rw [IntWalk.i64_in _ (by omega)]; omega
            have HJ := Lib.hid hJ
            have hiJ : i ≤ J := by omega
            have hJn : J ≤ xs.length := by omega
            clear hJ hj2
            go_wp2_with fail
            refine (startHasher_any t ⟨ht0, ht2⟩ _).mono ?_
            rintro e wA ⟨rfl, hx⟩
            have hst10 := stHs (startL_length t) none 0 0 0
            obtain ⟨C0, hC0⟩ : ∃ C0, hsC (startL t) (.slice none 0 0) 0 = C0 := ⟨_, rfl⟩
            have HC0 := Lib.hid hC0
            rw [hC0] at hst10 ⊢
            have HSZ0 := Lib.hid hst10.size
            have hE := hx.trans (ext_alloc wA (.cells C0 40))
            have HDz := Lib.hid (HD2.out.ext (by decide) hE)
            have BWz := Lib.hid (BW2.out.ext hE)
            have XWz := Lib.hid (XW2.out.trans hE)
            have BHz := Lib.hid (Blk.new wA 40 C0)
            clear hx hE hC0 HD2 BW2 XW2
            go_wp2_with (refine wpl_storeNewB aggHs hst10 rfl rfl _ _ rfl rfl rfl rfl ?_)
            obtain ⟨gH, hgH⟩ : ∃ gH, wA.heap.size = gH := ⟨_, rfl⟩
            rw [hgH] at BHz ⊢
            generalize wA.alloc (.cells C0 40) = wB at HDz BWz XWz BHz ⊢
            obtain ⟨d1, hd1⟩ : ∃ d1, xs.take i = d1 := ⟨_, rfl⟩
            obtain ⟨d2, hd2⟩ : ∃ d2, (xs.drop i).take (J - i) = d2 := ⟨_, rfl⟩
            obtain ⟨d3, hd3⟩ : ∃ d3, xs.drop J = d3 := ⟨_, rfl⟩
            have L1 := Lib.hid (show d1.length = i by rw [← hd1, List.length_take]; omega)
            have L2 := Lib.hid (show d2.length = J - i by rw [← hd2, List.length_take, List.length_drop]; omega)
            have L3 := Lib.hid (show d3.length = xs.length - J by rw [← hd3, List.length_drop])
            have HDX := Lib.hid (show (d1 ++ d2) ++ d3 = xs by rw [← hd1, ← hd2, ← hd3, ← List.take_add, show i + (J - i) = J by omega, List.take_append_drop])
            have HD1E := Lib.hid hd1
            have HRAz := Lib.hid (show RdL tByte wB (fun g => g < gS) (.slice Ad i cd) d1 from by
              obtain ⟨A', c', e1, _, _, hrd, hok⟩ := HDz.out
              obtain ⟨rfl, _, rfl⟩ := Value.slice.inj e1
              rw [flat_bytes] at hrd
              have h5 := hrd.head hi2
              refine ⟨Ad, cd, by rw [L1.out], by rw [L1.out]; omega, by rw [L1.out]; omega, ?_, fun x hx => hok x (by rw [← hd1] at hx; exact List.mem_of_mem_take hx)⟩
              rw [flat_bytes, L1.out, ← hd1]
              have e5 : (nums .u8 xs).take (i * tByte.sz) = nums .u8 (xs.take i) := by
                show (nums .u8 xs).take (i * 1) = _
                rw [Nat.mul_one]; simp [nums, List.map_take]
              rw [e5] at h5
              exact h5)
            have HF1 := Lib.hid (show ∀ W, RdL tByte W (fun g => g < gS) (.slice Ad i cd) d1 → Calls Try.prog 17 #[.agg C0, .slice Ad i cd] W fun q w' => ∃ A n k, q = .returned (.tuple #[.agg (hsC (hsS t d1) (.slice A n k) (d1.length : Nat)), .int .i64 0]) ∧ Own tByte 5 w' W.heap.size (.slice A n k) (hsH d1) ∧ Ext W w' from fun W hW => by
              have := feed_any t ⟨ht0, ht2⟩ [] d1 (.slice none 0 0) (.slice Ad i cd) (by rw [L1.out]; simp; omega) W (fun _ => True) _ (rd_none W _) hW
              rw [hsS_nil, List.nil_append] at this
              rw [← HC0.out]
              exact this)
            obtain ⟨Z2, hZ2⟩ : ∃ Z, (if cd = i then Ad else Option.map (fun x => x.add i) Ad) = Z := ⟨_, rfl⟩
            obtain ⟨Z3, hZ3⟩ : ∃ Z, (if cd = J then Ad else Option.map (fun x => x.add J) Ad) = Z := ⟨_, rfl⟩
            have HCUT := Lib.hid (show ∀ k Z, k ≤ xs.length → (if cd = k then Ad else Option.map (fun x => x.add k) Ad) = Z → Rd wB (fun g => g < gS) 1 Z (xs.length - k) (nums .u8 (xs.drop k)) from fun k Z hk hZ => by
              obtain ⟨A', c', e1, _, _, hrd, hok⟩ := HDz.out
              obtain ⟨rfl, _, rfl⟩ := Value.slice.inj e1
              rw [flat_bytes] at hrd
              have h5 := Rd.cut (sz := 1) hrd hk hcd
              simp only [Nat.mul_one] at h5
              rw [hZ] at h5
              have e6 : (nums .u8 xs).drop k = nums .u8 (xs.drop k) := by simp [nums, List.map_drop]
              rwa [e6] at h5)
            have HRBz := Lib.hid (show RdL tByte wB (fun g => g < gS) (.slice Z2 (J - i) (cd - i)) d2 from by
              have h5 := (HCUT.out i Z2 hi2 hZ2).head (k := J - i) (by omega)
              refine ⟨Z2, cd - i, by rw [L2.out], by rw [L2.out]; omega, by rw [L2.out]; omega, ?_, fun x hx => HBX.out x (by rw [← hd2] at hx; exact List.mem_of_mem_drop (List.mem_of_mem_take hx))⟩
              rw [flat_bytes, L2.out, ← hd2]
              have e5 : (nums .u8 (xs.drop i)).take ((J - i) * 1) = nums .u8 ((xs.drop i).take (J - i)) := by
                rw [Nat.mul_one]; simp [nums, List.map_take]
              rw [e5] at h5
              exact h5)
            have HRCz := Lib.hid (show RdL tByte wB (fun g => g < gS) (.slice Z3 (xs.length - J) (cd - J)) d3 from by
              have h5 := HCUT.out J Z3 hJn hZ3
              refine ⟨Z3, cd - J, by rw [L3.out], by rw [L3.out]; omega, by rw [L3.out]; omega, ?_, fun x hx => HBX.out x (by rw [← hd3] at hx; exact List.mem_of_mem_drop hx)⟩
              rw [flat_bytes, L3.out, ← hd3]
              exact h5)
            have qJ0 : (0 : Int) ≤ (J : Int) := by omega
            have qJ1 : (J : Int) ≤ (cd : Int) := by omega
            have qJ2 : (J : Int) ≤ (xs.length : Int) := by omega
            have qJ3 : (xs.length : Int) ≤ (cd : Int) := by omega
            have qJ4 : J ≤ cd := by omega
            have qJ5 : (i : Int) ≤ (J : Int) := by omega
            obtain ⟨d12, hd12⟩ : ∃ d, d1 ++ d2 = d := ⟨_, rfl⟩
            have H12 := Lib.hid hd12
            have L12 := Lib.hid (show d12.length = J by rw [← hd12, List.length_append, L1.out, L2.out]; omega)
            rw [hd12] at HDX
            clear hd1 hd2 hd3 HCUT hd12
            have qi0 : (0 : Int) ≤ (i : Int) := by omega
            have qi1 : (i : Int) ≤ (cd : Int) := by omega
            have qi2 : i ≤ cd := by omega
            have hHZ : (Try.prog.info? 40).map (·.zero) = some (some (.agg zHs.toArray)) := by kernel_rfl
            have HHZ := Lib.hid hHZ
            have HZS := Lib.hid (show zHs.toArray.size = 10 from rfl)
            clear hHZ
            generalize zHs.toArray = ZH at HHZ HZS
            apply cutF (Φ := fun A n k g W => Ext wB W ∧ Blk W g 40 (hsC (hsS t d1) (.slice A n k) (d1.length : Nat)) ∧ RdL tByte W (fun _ => True) (.slice A n k) (hsH d1))
            case reg =>
              intro hN
              refine wp_region_held_drew (S := fun W => Ext wB W) (by kernel_rfl) (Ext.refl _).drew (fun hHeld => ?_)
              refine tkI 0 (v := (.agg C0)) (by simp only [List.getElem?_toArray, List.getElem?_cons_zero, List.getElem?_cons_succ]; rfl) (by kernel_rfl) (by exact fun _ _ _ h => h) (by refine yields_loadBSP (fun W hW => BHz.out.ext hW) aggHs HSZ0.out ?_ _ rfl rfl; rfl) (by assumption) ?_
              try simp only [Act.put, List.setIfInBounds_toArray, List.set_cons_zero, List.set_cons_succ]
              iterate 3
                refine tkD 0 (by simp only [List.size_toArray, List.length_cons, List.length_nil]; rfl) (by simp only [List.getElem?_toArray, List.getElem?_cons_zero, List.getElem?_cons_succ]; rfl) (by kernel_rfl) (by exact fun _ _ _ h => h) (by first | (exact Or.inl ⟨by rfl, by intro w hSw; (try dsimp only at hSw); go_simp; with_reducible rfl⟩) | (exact Or.inr ⟨by rfl, by rfl⟩)) (by assumption) ?_
                try simp only [Act.put, List.setIfInBounds_toArray, List.set_cons_zero, List.set_cons_succ]
              refine wpAnyH_ready (rs := [4, 8]) (by kernel_rfl) (by simp) (AllReadyH.cons (o := ?oy124) ?hy124 (fun K hK => ?sy124) (AllReadyH.cons (o := ?oy128) ?hy128 (fun K hK => ?sy128) AllReadyH.nil))
              case hy124 => simp only [List.getElem?_toArray, List.getElem?_cons_zero, List.getElem?_cons_succ]; rfl
              case hy128 => simp only [List.getElem?_toArray, List.getElem?_cons_zero, List.getElem?_cons_succ]; rfl
              case sy124 =>
                go_simp
                refine (HF1.out _ (HRAz.out.ext (by decide) hHeld)).mono ?_
                rintro e w5 ⟨A5, n5, k5, rfl, ho5, hx⟩
                have HO5 := Lib.hid ho5.rd
                clear ho5
                have hH2 := hHeld.trans hx
                refine hK.out _ _ hH2 (fun _ => ?_)
                clear hHeld hK K
                have hHeld := hH2
                clear hH2
                try simp only [Act.put, List.setIfInBounds_toArray, List.set_cons_zero, List.set_cons_succ]
                refine tkI 5 (by simp only [List.getElem?_toArray, List.getElem?_cons_zero, List.getElem?_cons_succ]; rfl) (by kernel_rfl) (by exact fun _ _ _ h => h) (by first | (exact Or.inl ⟨by rfl, by intro w hSw; (try dsimp only at hSw); go_simp; with_reducible rfl⟩) | (exact Or.inr ⟨by rfl, by rfl⟩)) (by assumption) ?_
                try simp only [Act.put, List.setIfInBounds_toArray, List.set_cons_zero, List.set_cons_succ]
                refine tkI 6 (by simp only [List.getElem?_toArray, List.getElem?_cons_zero, List.getElem?_cons_succ]; rfl) (by kernel_rfl) (by exact fun _ _ _ h => h) (by first | (exact Or.inl ⟨by rfl, by intro w hSw; (try dsimp only at hSw); go_simp; with_reducible rfl⟩) | (exact Or.inr ⟨by rfl, by rfl⟩)) (by assumption) ?_
                try simp only [Act.put, List.setIfInBounds_toArray, List.set_cons_zero, List.set_cons_succ]
                refine tkI 7 (by simp only [List.getElem?_toArray, List.getElem?_cons_zero, List.getElem?_cons_succ]; rfl) (by kernel_rfl) (by exact fun _ _ _ h => h) (by first | (exact Or.inl ⟨by rfl, by intro w hSw; (try dsimp only at hSw); go_simp; with_reducible rfl⟩) | (exact Or.inr ⟨by rfl, by rfl⟩)) (by assumption) ?_
                try simp only [Act.put, List.setIfInBounds_toArray, List.set_cons_zero, List.set_cons_succ]
                refine wpAnyH_ready (rs := [8]) (by kernel_rfl) (by simp) (AllReadyH.cons (o := ?oy168) ?hy168 (fun K hK => ?sy168) AllReadyH.nil)
                case hy168 => simp only [List.getElem?_toArray, List.getElem?_cons_zero, List.getElem?_cons_succ]; rfl
                refine stp_alloc ZH HHZ.out rfl rfl ?_
                have hE5 := ext_alloc w5 (.cells ZH 40)
                have BG := Lib.hid (Blk.new w5 40 ZH)
                have HO6 := Lib.hid (HO5.out.ext (by decide) hE5)
                have hgB : wB.heap.size ≤ w5.heap.size := hHeld.size
                have hH2 := hHeld.trans hE5
                refine hK.out _ _ hH2 (fun _ => ?_)
                clear hHeld hK K
                have hHeld := hH2
                clear hH2
                try simp only [Act.put, List.setIfInBounds_toArray, List.set_cons_zero, List.set_cons_succ]
                clear hE5
                obtain ⟨g5, hg5⟩ : ∃ g5, w5.heap.size = g5 := ⟨_, rfl⟩
                rw [hg5] at BG HO6 hgB ⊢
                generalize w5.alloc (.cells ZH 40) = w6 at hHeld BG HO6 ⊢
                refine wpAnyH_ready (rs := [9]) (by kernel_rfl) (by simp) (AllReadyH.cons (o := ?oy179) ?hy179 (fun K hK => ?sy179) AllReadyH.nil)
                case hy179 => simp only [List.getElem?_toArray, List.getElem?_cons_zero, List.getElem?_cons_succ]; rfl
                refine stp_storeP (off := 0) BG.out aggHs (stHs (hsS_length t d1) A5 n5 k5 (d1.length : Nat)) (by have := HZS.out; omega) rfl _ _ rfl rfl rfl rfl ?_
                rw [splice_all _ _ (by rw [Array.length_toList, HZS.out, (stHs (hsS_length t d1) A5 n5 k5 (d1.length : Nat)).size])]
                have e9 : (hsC (hsS t d1) (.slice A5 n5 k5) (d1.length : Nat)).toList.toArray = (hsC (hsS t d1) (.slice A5 n5 k5) (d1.length : Nat)) := by simp
                rw [e9]
                clear e9
                have hS9 := hHeld.setRow (g := g5) hgB (hsC (hsS t d1) (.slice A5 n5 k5) (d1.length : Nat))
                have BG9 := Lib.hid (BG.out.setRow (hsC (hsS t d1) (.slice A5 n5 k5) (d1.length : Nat)))
                have HO9 := Lib.hid ((HO6.out.keep (w' := w6.setRow g5 (hsC (hsS t d1) (.slice A5 n5 k5) (d1.length : Nat))) (fun q hq => setRow_other _ _ q _ (by have h8 := hq.2; omega))).mono (S' := fun _ => True) (fun _ _ => trivial))
                have hH2 := hS9
                refine hK.out _ _ hH2 (fun _ => ?_)
                clear hHeld hK K hS9
                have hHeld := hH2
                clear hH2
                try simp only [Act.put, List.setIfInBounds_toArray, List.set_cons_zero, List.set_cons_succ]
                refine tkI 10 (by simp only [List.getElem?_toArray, List.getElem?_cons_zero, List.getElem?_cons_succ]; rfl) (by kernel_rfl) (by exact fun _ _ _ h => h) (by first | (exact Or.inl ⟨by rfl, by intro w hSw; (try dsimp only at hSw); go_simp; with_reducible rfl⟩) | (exact Or.inr ⟨by rfl, by rfl⟩)) (by assumption) ?_
                try simp only [Act.put, List.setIfInBounds_toArray, List.set_cons_zero, List.set_cons_succ]
                refine wpAnyH_done (by kernel_rfl) ?_ _
                exact hN A5 n5 k5 g5 _ ⟨hHeld, BG9.out, HO9.out⟩
              case sy128 =>
                refine stp_alloc ZH HHZ.out rfl rfl ?_
                have hE5 := ext_alloc wB.drew (.cells ZH 40)
                have BG0 := Lib.hid (Blk.new wB.drew 40 ZH)
                have hgB : wB.heap.size ≤ wB.drew.heap.size := Nat.le_refl _
                have hH2 := hHeld.trans hE5
                refine hK.out _ _ hH2 (fun _ => ?_)
                clear hHeld hK K
                have hHeld := hH2
                clear hH2
                try simp only [Act.put, List.setIfInBounds_toArray, List.set_cons_zero, List.set_cons_succ]
                clear hE5
                obtain ⟨g5, hg5⟩ : ∃ g5, wB.drew.heap.size = g5 := ⟨_, rfl⟩
                have hgl : g5 < (wB.drew.alloc (.cells ZH 40)).heap.size := by rw [size_alloc]; omega
                rw [hg5] at BG0 hgB ⊢
                generalize wB.drew.alloc (.cells ZH 40) = w6 at hHeld BG0 hgl ⊢
                refine wpAnyH_ready (rs := [4]) (by kernel_rfl) (by simp) (AllReadyH.cons (o := ?oy194) ?hy194 (fun K hK => ?sy194) AllReadyH.nil)
                case hy194 => simp only [List.getElem?_toArray, List.getElem?_cons_zero, List.getElem?_cons_succ]; rfl
                go_simp
                refine (HF1.out _ (HRAz.out.ext (by decide) hHeld)).mono ?_
                rintro e w5 ⟨A5, n5, k5, rfl, ho5, hx⟩
                have BG := Lib.hid (BG0.out.ext hx)
                have HO5 := Lib.hid (ho5.rd)
                clear ho5
                have hH2 := hHeld.trans hx
                refine hK.out _ _ hH2 (fun _ => ?_)
                clear hHeld hK K
                have hHeld := hH2
                clear hH2
                try simp only [Act.put, List.setIfInBounds_toArray, List.set_cons_zero, List.set_cons_succ]
                refine tkI 5 (by simp only [List.getElem?_toArray, List.getElem?_cons_zero, List.getElem?_cons_succ]; rfl) (by kernel_rfl) (by exact fun _ _ _ h => h) (by first | (exact Or.inl ⟨by rfl, by intro w hSw; (try dsimp only at hSw); go_simp; with_reducible rfl⟩) | (exact Or.inr ⟨by rfl, by rfl⟩)) (by assumption) ?_
                try simp only [Act.put, List.setIfInBounds_toArray, List.set_cons_zero, List.set_cons_succ]
                refine tkI 6 (by simp only [List.getElem?_toArray, List.getElem?_cons_zero, List.getElem?_cons_succ]; rfl) (by kernel_rfl) (by exact fun _ _ _ h => h) (by first | (exact Or.inl ⟨by rfl, by intro w hSw; (try dsimp only at hSw); go_simp; with_reducible rfl⟩) | (exact Or.inr ⟨by rfl, by rfl⟩)) (by assumption) ?_
                try simp only [Act.put, List.setIfInBounds_toArray, List.set_cons_zero, List.set_cons_succ]
                refine tkI 7 (by simp only [List.getElem?_toArray, List.getElem?_cons_zero, List.getElem?_cons_succ]; rfl) (by kernel_rfl) (by exact fun _ _ _ h => h) (by first | (exact Or.inl ⟨by rfl, by intro w hSw; (try dsimp only at hSw); go_simp; with_reducible rfl⟩) | (exact Or.inr ⟨by rfl, by rfl⟩)) (by assumption) ?_
                try simp only [Act.put, List.setIfInBounds_toArray, List.set_cons_zero, List.set_cons_succ]
                refine wpAnyH_ready (rs := [9]) (by kernel_rfl) (by simp) (AllReadyH.cons (o := ?oy239) ?hy239 (fun K hK => ?sy239) AllReadyH.nil)
                case hy239 => simp only [List.getElem?_toArray, List.getElem?_cons_zero, List.getElem?_cons_succ]; rfl
                refine stp_storeP (off := 0) BG.out aggHs (stHs (hsS_length t d1) A5 n5 k5 (d1.length : Nat)) (by have := HZS.out; omega) rfl _ _ rfl rfl rfl rfl ?_
                rw [splice_all _ _ (by rw [Array.length_toList, HZS.out, (stHs (hsS_length t d1) A5 n5 k5 (d1.length : Nat)).size])]
                have e9 : (hsC (hsS t d1) (.slice A5 n5 k5) (d1.length : Nat)).toList.toArray = (hsC (hsS t d1) (.slice A5 n5 k5) (d1.length : Nat)) := by simp
                rw [e9]
                clear e9
                have hS9 := hHeld.setRow (g := g5) hgB (hsC (hsS t d1) (.slice A5 n5 k5) (d1.length : Nat))
                have BG9 := Lib.hid (BG.out.setRow (hsC (hsS t d1) (.slice A5 n5 k5) (d1.length : Nat)))
                have HO9 := Lib.hid ((HO5.out.keep (w' := w5.setRow g5 (hsC (hsS t d1) (.slice A5 n5 k5) (d1.length : Nat))) (fun q hq => setRow_other _ _ q _ (by have h8 := hq.1; omega))).mono (S' := fun _ => True) (fun _ _ => trivial))
                have hH2 := hS9
                refine hK.out _ _ hH2 (fun _ => ?_)
                clear hHeld hK K hS9
                have hHeld := hH2
                clear hH2
                try simp only [Act.put, List.setIfInBounds_toArray, List.set_cons_zero, List.set_cons_succ]
                refine tkI 10 (by simp only [List.getElem?_toArray, List.getElem?_cons_zero, List.getElem?_cons_succ]; rfl) (by kernel_rfl) (by exact fun _ _ _ h => h) (by first | (exact Or.inl ⟨by rfl, by intro w hSw; (try dsimp only at hSw); go_simp; with_reducible rfl⟩) | (exact Or.inr ⟨by rfl, by rfl⟩)) (by assumption) ?_
                try simp only [Act.put, List.setIfInBounds_toArray, List.set_cons_zero, List.set_cons_succ]
                refine wpAnyH_done (by kernel_rfl) ?_ _
                exact hN A5 n5 k5 g5 _ ⟨hHeld, BG9.out, HO9.out⟩
            case rest =>
              intro Aa na ka ga wC hΦ
              obtain ⟨hx, hb, hr⟩ := hΦ
              have HRAa := Lib.hid (HRAz.out.ext (by decide) hx)
              have HRBa := Lib.hid (HRBz.out.ext (by decide) hx)
              have HRCa := Lib.hid (HRCz.out.ext (by decide) hx)
              have BWa := Lib.hid (BWz.out.ext hx)
              have XWa := Lib.hid (XWz.out.trans hx)
              have BHa := Lib.hid (BHz.out.ext hx)
              have BKa := Lib.hid hb
              have HRa := Lib.hid hr
              clear hx hb hr HRAz HRBz HRCz BWz XWz BHz
              obtain ⟨C1, hC1⟩ : ∃ C, hsC (hsS t d1) (.slice Aa na ka) (d1.length : Nat) = C := ⟨_, rfl⟩
              have HC1 := Lib.hid hC1
              have HSZ1 := Lib.hid (show C1.size = 10 by rw [← hC1]; exact (stHs (hsS_length t d1) _ _ _ _).size)
              rw [hC1] at BKa
              have HF2 := Lib.hid (show ∀ W, RdL tByte W (fun _ => True) (.slice Aa na ka) (hsH d1) → RdL tByte W (fun g => g < gS) (.slice Z2 (J - i) (cd - i)) d2 → Calls Try.prog 17 #[.agg C1, (.slice Z2 (J - i) (cd - i))] W fun q w' => ∃ A n k, q = .returned (.tuple #[.agg (hsC (hsS t d12) (.slice A n k) (d12.length : Nat)), .int .i64 0]) ∧ Own tByte 5 w' W.heap.size (.slice A n k) (hsH d12) ∧ Ext W w' from fun W h1 hW => by
                have := feed_any t ⟨ht0, ht2⟩ d1 d2 _ (.slice Z2 (J - i) (cd - i)) (by rw [L1.out, L2.out]; omega) W _ _ h1 hW
                rw [H12.out] at this
                rw [← HC1.out]
                exact this)
              clear hC1
              clear HF1
              go_wp2_with fail
              apply cutF (Φ := fun A n k g W => Ext wC W ∧ Blk W g 40 (hsC (hsS t d12) (.slice A n k) (d12.length : Nat)) ∧ RdL tByte W (fun _ => True) (.slice A n k) (hsH d12))
              case reg =>
                intro hN
                refine wp_region_held_drew (S := fun W => Ext wC W) (by kernel_rfl) (Ext.refl _).drew (fun hHeld => ?_)
                refine tkI 0 (v := (.agg C1)) (by simp only [List.getElem?_toArray, List.getElem?_cons_zero, List.getElem?_cons_succ]; rfl) (by kernel_rfl) (by exact fun _ _ _ h => h) (by refine yields_loadBSP (fun W hW => BKa.out.ext hW) aggHs HSZ1.out ?_ _ rfl rfl; rfl) (by assumption) ?_
                try simp only [Act.put, List.setIfInBounds_toArray, List.set_cons_zero, List.set_cons_succ]
                iterate 4
                  refine tkD 0 (by simp only [List.size_toArray, List.length_cons, List.length_nil]; rfl) (by simp only [List.getElem?_toArray, List.getElem?_cons_zero, List.getElem?_cons_succ]; rfl) (by kernel_rfl) (by exact fun _ _ _ h => h) (by first | (exact Or.inl ⟨by rfl, by intro w hSw; (try dsimp only at hSw); go_simp; with_reducible rfl⟩) | (exact Or.inr ⟨by rfl, by rfl⟩)) (by assumption) ?_
                  try simp only [Act.put, List.setIfInBounds_toArray, List.set_cons_zero, List.set_cons_succ]
                refine wpAnyH_ready (rs := [5, 9]) (by kernel_rfl) (by simp) (AllReadyH.cons (o := ?oy305) ?hy305 (fun K hK => ?sy305) (AllReadyH.cons (o := ?oy309) ?hy309 (fun K hK => ?sy309) AllReadyH.nil))
                case hy305 => simp only [List.getElem?_toArray, List.getElem?_cons_zero, List.getElem?_cons_succ]; rfl
                case hy309 => simp only [List.getElem?_toArray, List.getElem?_cons_zero, List.getElem?_cons_succ]; rfl
                case sy305 =>
                  go_simp
                  refine (HF2.out _ (HRa.out.ext (by decide) hHeld) (HRBa.out.ext (by decide) hHeld)).mono ?_
                  rintro e w5 ⟨A5, n5, k5, rfl, ho5, hx⟩
                  have HO5 := Lib.hid ho5.rd
                  clear ho5
                  have hH2 := hHeld.trans hx
                  refine hK.out _ _ hH2 (fun _ => ?_)
                  clear hHeld hK K
                  have hHeld := hH2
                  clear hH2
                  try simp only [Act.put, List.setIfInBounds_toArray, List.set_cons_zero, List.set_cons_succ]
                  refine tkI 6 (by simp only [List.getElem?_toArray, List.getElem?_cons_zero, List.getElem?_cons_succ]; rfl) (by kernel_rfl) (by exact fun _ _ _ h => h) (by first | (exact Or.inl ⟨by rfl, by intro w hSw; (try dsimp only at hSw); go_simp; with_reducible rfl⟩) | (exact Or.inr ⟨by rfl, by rfl⟩)) (by assumption) ?_
                  try simp only [Act.put, List.setIfInBounds_toArray, List.set_cons_zero, List.set_cons_succ]
                  refine tkI 7 (by simp only [List.getElem?_toArray, List.getElem?_cons_zero, List.getElem?_cons_succ]; rfl) (by kernel_rfl) (by exact fun _ _ _ h => h) (by first | (exact Or.inl ⟨by rfl, by intro w hSw; (try dsimp only at hSw); go_simp; with_reducible rfl⟩) | (exact Or.inr ⟨by rfl, by rfl⟩)) (by assumption) ?_
                  try simp only [Act.put, List.setIfInBounds_toArray, List.set_cons_zero, List.set_cons_succ]
                  refine tkI 8 (by simp only [List.getElem?_toArray, List.getElem?_cons_zero, List.getElem?_cons_succ]; rfl) (by kernel_rfl) (by exact fun _ _ _ h => h) (by first | (exact Or.inl ⟨by rfl, by intro w hSw; (try dsimp only at hSw); go_simp; with_reducible rfl⟩) | (exact Or.inr ⟨by rfl, by rfl⟩)) (by assumption) ?_
                  try simp only [Act.put, List.setIfInBounds_toArray, List.set_cons_zero, List.set_cons_succ]
                  refine wpAnyH_ready (rs := [9]) (by kernel_rfl) (by simp) (AllReadyH.cons (o := ?oy349) ?hy349 (fun K hK => ?sy349) AllReadyH.nil)
                  case hy349 => simp only [List.getElem?_toArray, List.getElem?_cons_zero, List.getElem?_cons_succ]; rfl
                  refine stp_alloc ZH HHZ.out rfl rfl ?_
                  have hE5 := ext_alloc w5 (.cells ZH 40)
                  have BG := Lib.hid (Blk.new w5 40 ZH)
                  have HO6 := Lib.hid (HO5.out.ext (by decide) hE5)
                  have hgB : wC.heap.size ≤ w5.heap.size := hHeld.size
                  have hH2 := hHeld.trans hE5
                  refine hK.out _ _ hH2 (fun _ => ?_)
                  clear hHeld hK K
                  have hHeld := hH2
                  clear hH2
                  try simp only [Act.put, List.setIfInBounds_toArray, List.set_cons_zero, List.set_cons_succ]
                  clear hE5
                  obtain ⟨g5, hg5⟩ : ∃ g5, w5.heap.size = g5 := ⟨_, rfl⟩
                  rw [hg5] at BG HO6 hgB ⊢
                  generalize w5.alloc (.cells ZH 40) = w6 at hHeld BG HO6 ⊢
                  refine wpAnyH_ready (rs := [10]) (by kernel_rfl) (by simp) (AllReadyH.cons (o := ?oy3510) ?hy3510 (fun K hK => ?sy3510) AllReadyH.nil)
                  case hy3510 => simp only [List.getElem?_toArray, List.getElem?_cons_zero, List.getElem?_cons_succ]; rfl
                  refine stp_storeP (off := 0) BG.out aggHs (stHs (hsS_length t d12) A5 n5 k5 (d12.length : Nat)) (by have := HZS.out; omega) rfl _ _ rfl rfl rfl rfl ?_
                  rw [splice_all _ _ (by rw [Array.length_toList, HZS.out, (stHs (hsS_length t d12) A5 n5 k5 (d12.length : Nat)).size])]
                  have e9 : (hsC (hsS t d12) (.slice A5 n5 k5) (d12.length : Nat)).toList.toArray = (hsC (hsS t d12) (.slice A5 n5 k5) (d12.length : Nat)) := by simp
                  rw [e9]
                  clear e9
                  have hS9 := hHeld.setRow (g := g5) hgB (hsC (hsS t d12) (.slice A5 n5 k5) (d12.length : Nat))
                  have BG9 := Lib.hid (BG.out.setRow (hsC (hsS t d12) (.slice A5 n5 k5) (d12.length : Nat)))
                  have HO9 := Lib.hid ((HO6.out.keep (w' := w6.setRow g5 (hsC (hsS t d12) (.slice A5 n5 k5) (d12.length : Nat))) (fun q hq => setRow_other _ _ q _ (by have h8 := hq.2; omega))).mono (S' := fun _ => True) (fun _ _ => trivial))
                  have hH2 := hS9
                  refine hK.out _ _ hH2 (fun _ => ?_)
                  clear hHeld hK K hS9
                  have hHeld := hH2
                  clear hH2
                  try simp only [Act.put, List.setIfInBounds_toArray, List.set_cons_zero, List.set_cons_succ]
                  refine tkI 11 (by simp only [List.getElem?_toArray, List.getElem?_cons_zero, List.getElem?_cons_succ]; rfl) (by kernel_rfl) (by exact fun _ _ _ h => h) (by first | (exact Or.inl ⟨by rfl, by intro w hSw; (try dsimp only at hSw); go_simp; with_reducible rfl⟩) | (exact Or.inr ⟨by rfl, by rfl⟩)) (by assumption) ?_
                  try simp only [Act.put, List.setIfInBounds_toArray, List.set_cons_zero, List.set_cons_succ]
                  refine wpAnyH_done (by kernel_rfl) ?_ _
                  exact hN A5 n5 k5 g5 _ ⟨hHeld, BG9.out, HO9.out⟩
                case sy309 =>
                  refine stp_alloc ZH HHZ.out rfl rfl ?_
                  have hE5 := ext_alloc wC.drew (.cells ZH 40)
                  have BG0 := Lib.hid (Blk.new wC.drew 40 ZH)
                  have hgB : wC.heap.size ≤ wC.drew.heap.size := Nat.le_refl _
                  have hH2 := hHeld.trans hE5
                  refine hK.out _ _ hH2 (fun _ => ?_)
                  clear hHeld hK K
                  have hHeld := hH2
                  clear hH2
                  try simp only [Act.put, List.setIfInBounds_toArray, List.set_cons_zero, List.set_cons_succ]
                  clear hE5
                  obtain ⟨g5, hg5⟩ : ∃ g5, wC.drew.heap.size = g5 := ⟨_, rfl⟩
                  have hgl : g5 < (wC.drew.alloc (.cells ZH 40)).heap.size := by rw [size_alloc]; omega
                  rw [hg5] at BG0 hgB ⊢
                  generalize wC.drew.alloc (.cells ZH 40) = w6 at hHeld BG0 hgl ⊢
                  refine wpAnyH_ready (rs := [5]) (by kernel_rfl) (by simp) (AllReadyH.cons (o := ?oy375) ?hy375 (fun K hK => ?sy375) AllReadyH.nil)
                  case hy375 => simp only [List.getElem?_toArray, List.getElem?_cons_zero, List.getElem?_cons_succ]; rfl
                  go_simp
                  refine (HF2.out _ (HRa.out.ext (by decide) hHeld) (HRBa.out.ext (by decide) hHeld)).mono ?_
                  rintro e w5 ⟨A5, n5, k5, rfl, ho5, hx⟩
                  have BG := Lib.hid (BG0.out.ext hx)
                  have HO5 := Lib.hid (ho5.rd)
                  clear ho5
                  have hH2 := hHeld.trans hx
                  refine hK.out _ _ hH2 (fun _ => ?_)
                  clear hHeld hK K
                  have hHeld := hH2
                  clear hH2
                  try simp only [Act.put, List.setIfInBounds_toArray, List.set_cons_zero, List.set_cons_succ]
                  refine tkI 6 (by simp only [List.getElem?_toArray, List.getElem?_cons_zero, List.getElem?_cons_succ]; rfl) (by kernel_rfl) (by exact fun _ _ _ h => h) (by first | (exact Or.inl ⟨by rfl, by intro w hSw; (try dsimp only at hSw); go_simp; with_reducible rfl⟩) | (exact Or.inr ⟨by rfl, by rfl⟩)) (by assumption) ?_
                  try simp only [Act.put, List.setIfInBounds_toArray, List.set_cons_zero, List.set_cons_succ]
                  refine tkI 7 (by simp only [List.getElem?_toArray, List.getElem?_cons_zero, List.getElem?_cons_succ]; rfl) (by kernel_rfl) (by exact fun _ _ _ h => h) (by first | (exact Or.inl ⟨by rfl, by intro w hSw; (try dsimp only at hSw); go_simp; with_reducible rfl⟩) | (exact Or.inr ⟨by rfl, by rfl⟩)) (by assumption) ?_
                  try simp only [Act.put, List.setIfInBounds_toArray, List.set_cons_zero, List.set_cons_succ]
                  refine tkI 8 (by simp only [List.getElem?_toArray, List.getElem?_cons_zero, List.getElem?_cons_succ]; rfl) (by kernel_rfl) (by exact fun _ _ _ h => h) (by first | (exact Or.inl ⟨by rfl, by intro w hSw; (try dsimp only at hSw); go_simp; with_reducible rfl⟩) | (exact Or.inr ⟨by rfl, by rfl⟩)) (by assumption) ?_
                  try simp only [Act.put, List.setIfInBounds_toArray, List.set_cons_zero, List.set_cons_succ]
                  refine wpAnyH_ready (rs := [10]) (by kernel_rfl) (by simp) (AllReadyH.cons (o := ?oy4110) ?hy4110 (fun K hK => ?sy4110) AllReadyH.nil)
                  case hy4110 => simp only [List.getElem?_toArray, List.getElem?_cons_zero, List.getElem?_cons_succ]; rfl
                  refine stp_storeP (off := 0) BG.out aggHs (stHs (hsS_length t d12) A5 n5 k5 (d12.length : Nat)) (by have := HZS.out; omega) rfl _ _ rfl rfl rfl rfl ?_
                  rw [splice_all _ _ (by rw [Array.length_toList, HZS.out, (stHs (hsS_length t d12) A5 n5 k5 (d12.length : Nat)).size])]
                  have e9 : (hsC (hsS t d12) (.slice A5 n5 k5) (d12.length : Nat)).toList.toArray = (hsC (hsS t d12) (.slice A5 n5 k5) (d12.length : Nat)) := by simp
                  rw [e9]
                  clear e9
                  have hS9 := hHeld.setRow (g := g5) hgB (hsC (hsS t d12) (.slice A5 n5 k5) (d12.length : Nat))
                  have BG9 := Lib.hid (BG.out.setRow (hsC (hsS t d12) (.slice A5 n5 k5) (d12.length : Nat)))
                  have HO9 := Lib.hid ((HO5.out.keep (w' := w5.setRow g5 (hsC (hsS t d12) (.slice A5 n5 k5) (d12.length : Nat))) (fun q hq => setRow_other _ _ q _ (by have h8 := hq.1; omega))).mono (S' := fun _ => True) (fun _ _ => trivial))
                  have hH2 := hS9
                  refine hK.out _ _ hH2 (fun _ => ?_)
                  clear hHeld hK K hS9
                  have hHeld := hH2
                  clear hH2
                  try simp only [Act.put, List.setIfInBounds_toArray, List.set_cons_zero, List.set_cons_succ]
                  refine tkI 11 (by simp only [List.getElem?_toArray, List.getElem?_cons_zero, List.getElem?_cons_succ]; rfl) (by kernel_rfl) (by exact fun _ _ _ h => h) (by first | (exact Or.inl ⟨by rfl, by intro w hSw; (try dsimp only at hSw); go_simp; with_reducible rfl⟩) | (exact Or.inr ⟨by rfl, by rfl⟩)) (by assumption) ?_
                  try simp only [Act.put, List.setIfInBounds_toArray, List.set_cons_zero, List.set_cons_succ]
                  refine wpAnyH_done (by kernel_rfl) ?_ _
                  exact hN A5 n5 k5 g5 _ ⟨hHeld, BG9.out, HO9.out⟩
              case rest =>
                intro Ab nb kb gb wD hΦ
                obtain ⟨hx, hb, hr⟩ := hΦ
                have HRAb := Lib.hid (HRAa.out.ext (by decide) hx)
                have HRBb := Lib.hid (HRBa.out.ext (by decide) hx)
                have HRCb := Lib.hid (HRCa.out.ext (by decide) hx)
                have BWb := Lib.hid (BWa.out.ext hx)
                have XWb := Lib.hid (XWa.out.trans hx)
                have BHb := Lib.hid (BHa.out.ext hx)
                have BKab := Lib.hid (BKa.out.ext hx)
                have HRab := Lib.hid (HRa.out.ext (by decide) hx)
                have BKb := Lib.hid hb
                have HRb := Lib.hid hr
                clear hx hb hr HRAa HRBa HRCa BWa XWa BHa BKa HRa
                obtain ⟨C2, hC2⟩ : ∃ C, hsC (hsS t d12) (.slice Ab nb kb) (d12.length : Nat) = C := ⟨_, rfl⟩
                have HC2 := Lib.hid hC2
                have HSZ2 := Lib.hid (show C2.size = 10 by rw [← hC2]; exact (stHs (hsS_length t d12) _ _ _ _).size)
                rw [hC2] at BKb
                have HF3 := Lib.hid (show ∀ W, RdL tByte W (fun _ => True) (.slice Ab nb kb) (hsH d12) → RdL tByte W (fun g => g < gS) (.slice Z3 (xs.length - J) (cd - J)) d3 → Calls Try.prog 17 #[.agg C2, (.slice Z3 (xs.length - J) (cd - J))] W fun q w' => ∃ A n k, q = .returned (.tuple #[.agg (hsC (hsS t xs) (.slice A n k) (xs.length : Nat)), .int .i64 0]) ∧ Own tByte 5 w' W.heap.size (.slice A n k) (hsH xs) ∧ Ext W w' from fun W h1 hW => by
                  have := feed_any t ⟨ht0, ht2⟩ d12 d3 _ (.slice Z3 (xs.length - J) (cd - J)) (by rw [L12.out, L3.out]; omega) W _ _ h1 hW
                  rw [HDX.out] at this
                  rw [← HC2.out]
                  exact this)
                clear hC2
                have HNB := Lib.hid (show nb = d12.length % 32 from by
                  obtain ⟨A', c', e, _⟩ := HRb.out
                  obtain ⟨_, e2, _⟩ := Value.slice.inj e
                  rw [e2, hsH_length])
                clear HF2 HRBb
                go_wp2_with fail
                apply cutF (Φ := fun A n k g W => Ext wD W ∧ Blk W g 40 (hsC (hsS t xs) (.slice A n k) (xs.length : Nat)) ∧ RdL tByte W (fun _ => True) (.slice A n k) (hsH xs))
                case reg =>
                  intro hN
                  refine wp_region_held_drew (S := fun W => Ext wD W) (by kernel_rfl) (Ext.refl _).drew (fun hHeld => ?_)
                  refine tkI 0 (v := (.agg C2)) (by simp only [List.getElem?_toArray, List.getElem?_cons_zero, List.getElem?_cons_succ]; rfl) (by kernel_rfl) (by exact fun _ _ _ h => h) (by refine yields_loadBSP (fun W hW => BKb.out.ext hW) aggHs HSZ2.out ?_ _ rfl rfl; rfl) (by assumption) ?_
                  try simp only [Act.put, List.setIfInBounds_toArray, List.set_cons_zero, List.set_cons_succ]
                  iterate 3
                    refine tkD 0 (by simp only [List.size_toArray, List.length_cons, List.length_nil]; rfl) (by simp only [List.getElem?_toArray, List.getElem?_cons_zero, List.getElem?_cons_succ]; rfl) (by kernel_rfl) (by exact fun _ _ _ h => h) (by first | (exact Or.inl ⟨by rfl, by intro w hSw; (try dsimp only at hSw); go_simp; with_reducible rfl⟩) | (exact Or.inr ⟨by rfl, by rfl⟩)) (by assumption) ?_
                    try simp only [Act.put, List.setIfInBounds_toArray, List.set_cons_zero, List.set_cons_succ]
                  refine wpAnyH_ready (rs := [4, 8]) (by kernel_rfl) (by simp) (AllReadyH.cons (o := ?oy474) ?hy474 (fun K hK => ?sy474) (AllReadyH.cons (o := ?oy478) ?hy478 (fun K hK => ?sy478) AllReadyH.nil))
                  case hy474 => simp only [List.getElem?_toArray, List.getElem?_cons_zero, List.getElem?_cons_succ]; rfl
                  case hy478 => simp only [List.getElem?_toArray, List.getElem?_cons_zero, List.getElem?_cons_succ]; rfl
                  case sy474 =>
                    go_simp
                    refine (HF3.out _ (HRb.out.ext (by decide) hHeld) (HRCb.out.ext (by decide) hHeld)).mono ?_
                    rintro e w5 ⟨A5, n5, k5, rfl, ho5, hx⟩
                    have HO5 := Lib.hid ho5.rd
                    clear ho5
                    have hH2 := hHeld.trans hx
                    refine hK.out _ _ hH2 (fun _ => ?_)
                    clear hHeld hK K
                    have hHeld := hH2
                    clear hH2
                    try simp only [Act.put, List.setIfInBounds_toArray, List.set_cons_zero, List.set_cons_succ]
                    refine tkI 5 (by simp only [List.getElem?_toArray, List.getElem?_cons_zero, List.getElem?_cons_succ]; rfl) (by kernel_rfl) (by exact fun _ _ _ h => h) (by first | (exact Or.inl ⟨by rfl, by intro w hSw; (try dsimp only at hSw); go_simp; with_reducible rfl⟩) | (exact Or.inr ⟨by rfl, by rfl⟩)) (by assumption) ?_
                    try simp only [Act.put, List.setIfInBounds_toArray, List.set_cons_zero, List.set_cons_succ]
                    refine tkI 6 (by simp only [List.getElem?_toArray, List.getElem?_cons_zero, List.getElem?_cons_succ]; rfl) (by kernel_rfl) (by exact fun _ _ _ h => h) (by first | (exact Or.inl ⟨by rfl, by intro w hSw; (try dsimp only at hSw); go_simp; with_reducible rfl⟩) | (exact Or.inr ⟨by rfl, by rfl⟩)) (by assumption) ?_
                    try simp only [Act.put, List.setIfInBounds_toArray, List.set_cons_zero, List.set_cons_succ]
                    refine tkI 7 (by simp only [List.getElem?_toArray, List.getElem?_cons_zero, List.getElem?_cons_succ]; rfl) (by kernel_rfl) (by exact fun _ _ _ h => h) (by first | (exact Or.inl ⟨by rfl, by intro w hSw; (try dsimp only at hSw); go_simp; with_reducible rfl⟩) | (exact Or.inr ⟨by rfl, by rfl⟩)) (by assumption) ?_
                    try simp only [Act.put, List.setIfInBounds_toArray, List.set_cons_zero, List.set_cons_succ]
                    refine wpAnyH_ready (rs := [8]) (by kernel_rfl) (by simp) (AllReadyH.cons (o := ?oy518) ?hy518 (fun K hK => ?sy518) AllReadyH.nil)
                    case hy518 => simp only [List.getElem?_toArray, List.getElem?_cons_zero, List.getElem?_cons_succ]; rfl
                    refine stp_alloc ZH HHZ.out rfl rfl ?_
                    have hE5 := ext_alloc w5 (.cells ZH 40)
                    have BG := Lib.hid (Blk.new w5 40 ZH)
                    have HO6 := Lib.hid (HO5.out.ext (by decide) hE5)
                    have hgB : wD.heap.size ≤ w5.heap.size := hHeld.size
                    have hH2 := hHeld.trans hE5
                    refine hK.out _ _ hH2 (fun _ => ?_)
                    clear hHeld hK K
                    have hHeld := hH2
                    clear hH2
                    try simp only [Act.put, List.setIfInBounds_toArray, List.set_cons_zero, List.set_cons_succ]
                    clear hE5
                    obtain ⟨g5, hg5⟩ : ∃ g5, w5.heap.size = g5 := ⟨_, rfl⟩
                    rw [hg5] at BG HO6 hgB ⊢
                    generalize w5.alloc (.cells ZH 40) = w6 at hHeld BG HO6 ⊢
                    refine wpAnyH_ready (rs := [9]) (by kernel_rfl) (by simp) (AllReadyH.cons (o := ?oy529) ?hy529 (fun K hK => ?sy529) AllReadyH.nil)
                    case hy529 => simp only [List.getElem?_toArray, List.getElem?_cons_zero, List.getElem?_cons_succ]; rfl
                    refine stp_storeP (off := 0) BG.out aggHs (stHs (hsS_length t xs) A5 n5 k5 (xs.length : Nat)) (by have := HZS.out; omega) rfl _ _ rfl rfl rfl rfl ?_
                    rw [splice_all _ _ (by rw [Array.length_toList, HZS.out, (stHs (hsS_length t xs) A5 n5 k5 (xs.length : Nat)).size])]
                    have e9 : (hsC (hsS t xs) (.slice A5 n5 k5) (xs.length : Nat)).toList.toArray = (hsC (hsS t xs) (.slice A5 n5 k5) (xs.length : Nat)) := by simp
                    rw [e9]
                    clear e9
                    have hS9 := hHeld.setRow (g := g5) hgB (hsC (hsS t xs) (.slice A5 n5 k5) (xs.length : Nat))
                    have BG9 := Lib.hid (BG.out.setRow (hsC (hsS t xs) (.slice A5 n5 k5) (xs.length : Nat)))
                    have HO9 := Lib.hid ((HO6.out.keep (w' := w6.setRow g5 (hsC (hsS t xs) (.slice A5 n5 k5) (xs.length : Nat))) (fun q hq => setRow_other _ _ q _ (by have h8 := hq.2; omega))).mono (S' := fun _ => True) (fun _ _ => trivial))
                    have hH2 := hS9
                    refine hK.out _ _ hH2 (fun _ => ?_)
                    clear hHeld hK K hS9
                    have hHeld := hH2
                    clear hH2
                    try simp only [Act.put, List.setIfInBounds_toArray, List.set_cons_zero, List.set_cons_succ]
                    refine tkI 10 (by simp only [List.getElem?_toArray, List.getElem?_cons_zero, List.getElem?_cons_succ]; rfl) (by kernel_rfl) (by exact fun _ _ _ h => h) (by first | (exact Or.inl ⟨by rfl, by intro w hSw; (try dsimp only at hSw); go_simp; with_reducible rfl⟩) | (exact Or.inr ⟨by rfl, by rfl⟩)) (by assumption) ?_
                    try simp only [Act.put, List.setIfInBounds_toArray, List.set_cons_zero, List.set_cons_succ]
                    refine wpAnyH_done (by kernel_rfl) ?_ _
                    exact hN A5 n5 k5 g5 _ ⟨hHeld, BG9.out, HO9.out⟩
                  case sy478 =>
                    refine stp_alloc ZH HHZ.out rfl rfl ?_
                    have hE5 := ext_alloc wD.drew (.cells ZH 40)
                    have BG0 := Lib.hid (Blk.new wD.drew 40 ZH)
                    have hgB : wD.heap.size ≤ wD.drew.heap.size := Nat.le_refl _
                    have hH2 := hHeld.trans hE5
                    refine hK.out _ _ hH2 (fun _ => ?_)
                    clear hHeld hK K
                    have hHeld := hH2
                    clear hH2
                    try simp only [Act.put, List.setIfInBounds_toArray, List.set_cons_zero, List.set_cons_succ]
                    clear hE5
                    obtain ⟨g5, hg5⟩ : ∃ g5, wD.drew.heap.size = g5 := ⟨_, rfl⟩
                    have hgl : g5 < (wD.drew.alloc (.cells ZH 40)).heap.size := by rw [size_alloc]; omega
                    rw [hg5] at BG0 hgB ⊢
                    generalize wD.drew.alloc (.cells ZH 40) = w6 at hHeld BG0 hgl ⊢
                    refine wpAnyH_ready (rs := [4]) (by kernel_rfl) (by simp) (AllReadyH.cons (o := ?oy544) ?hy544 (fun K hK => ?sy544) AllReadyH.nil)
                    case hy544 => simp only [List.getElem?_toArray, List.getElem?_cons_zero, List.getElem?_cons_succ]; rfl
                    go_simp
                    refine (HF3.out _ (HRb.out.ext (by decide) hHeld) (HRCb.out.ext (by decide) hHeld)).mono ?_
                    rintro e w5 ⟨A5, n5, k5, rfl, ho5, hx⟩
                    have BG := Lib.hid (BG0.out.ext hx)
                    have HO5 := Lib.hid (ho5.rd)
                    clear ho5
                    have hH2 := hHeld.trans hx
                    refine hK.out _ _ hH2 (fun _ => ?_)
                    clear hHeld hK K
                    have hHeld := hH2
                    clear hH2
                    try simp only [Act.put, List.setIfInBounds_toArray, List.set_cons_zero, List.set_cons_succ]
                    refine tkI 5 (by simp only [List.getElem?_toArray, List.getElem?_cons_zero, List.getElem?_cons_succ]; rfl) (by kernel_rfl) (by exact fun _ _ _ h => h) (by first | (exact Or.inl ⟨by rfl, by intro w hSw; (try dsimp only at hSw); go_simp; with_reducible rfl⟩) | (exact Or.inr ⟨by rfl, by rfl⟩)) (by assumption) ?_
                    try simp only [Act.put, List.setIfInBounds_toArray, List.set_cons_zero, List.set_cons_succ]
                    refine tkI 6 (by simp only [List.getElem?_toArray, List.getElem?_cons_zero, List.getElem?_cons_succ]; rfl) (by kernel_rfl) (by exact fun _ _ _ h => h) (by first | (exact Or.inl ⟨by rfl, by intro w hSw; (try dsimp only at hSw); go_simp; with_reducible rfl⟩) | (exact Or.inr ⟨by rfl, by rfl⟩)) (by assumption) ?_
                    try simp only [Act.put, List.setIfInBounds_toArray, List.set_cons_zero, List.set_cons_succ]
                    refine tkI 7 (by simp only [List.getElem?_toArray, List.getElem?_cons_zero, List.getElem?_cons_succ]; rfl) (by kernel_rfl) (by exact fun _ _ _ h => h) (by first | (exact Or.inl ⟨by rfl, by intro w hSw; (try dsimp only at hSw); go_simp; with_reducible rfl⟩) | (exact Or.inr ⟨by rfl, by rfl⟩)) (by assumption) ?_
                    try simp only [Act.put, List.setIfInBounds_toArray, List.set_cons_zero, List.set_cons_succ]
                    refine wpAnyH_ready (rs := [9]) (by kernel_rfl) (by simp) (AllReadyH.cons (o := ?oy589) ?hy589 (fun K hK => ?sy589) AllReadyH.nil)
                    case hy589 => simp only [List.getElem?_toArray, List.getElem?_cons_zero, List.getElem?_cons_succ]; rfl
                    refine stp_storeP (off := 0) BG.out aggHs (stHs (hsS_length t xs) A5 n5 k5 (xs.length : Nat)) (by have := HZS.out; omega) rfl _ _ rfl rfl rfl rfl ?_
                    rw [splice_all _ _ (by rw [Array.length_toList, HZS.out, (stHs (hsS_length t xs) A5 n5 k5 (xs.length : Nat)).size])]
                    have e9 : (hsC (hsS t xs) (.slice A5 n5 k5) (xs.length : Nat)).toList.toArray = (hsC (hsS t xs) (.slice A5 n5 k5) (xs.length : Nat)) := by simp
                    rw [e9]
                    clear e9
                    have hS9 := hHeld.setRow (g := g5) hgB (hsC (hsS t xs) (.slice A5 n5 k5) (xs.length : Nat))
                    have BG9 := Lib.hid (BG.out.setRow (hsC (hsS t xs) (.slice A5 n5 k5) (xs.length : Nat)))
                    have HO9 := Lib.hid ((HO5.out.keep (w' := w5.setRow g5 (hsC (hsS t xs) (.slice A5 n5 k5) (xs.length : Nat))) (fun q hq => setRow_other _ _ q _ (by have h8 := hq.1; omega))).mono (S' := fun _ => True) (fun _ _ => trivial))
                    have hH2 := hS9
                    refine hK.out _ _ hH2 (fun _ => ?_)
                    clear hHeld hK K hS9
                    have hHeld := hH2
                    clear hH2
                    try simp only [Act.put, List.setIfInBounds_toArray, List.set_cons_zero, List.set_cons_succ]
                    refine tkI 10 (by simp only [List.getElem?_toArray, List.getElem?_cons_zero, List.getElem?_cons_succ]; rfl) (by kernel_rfl) (by exact fun _ _ _ h => h) (by first | (exact Or.inl ⟨by rfl, by intro w hSw; (try dsimp only at hSw); go_simp; with_reducible rfl⟩) | (exact Or.inr ⟨by rfl, by rfl⟩)) (by assumption) ?_
                    try simp only [Act.put, List.setIfInBounds_toArray, List.set_cons_zero, List.set_cons_succ]
                    refine wpAnyH_done (by kernel_rfl) ?_ _
                    exact hN A5 n5 k5 g5 _ ⟨hHeld, BG9.out, HO9.out⟩
                case rest =>
                  intro Ac nc kc gc wE hΦ
                  obtain ⟨hx, hb, hr⟩ := hΦ
                  have HRAc := Lib.hid (HRAb.out.ext (by decide) hx)
                  have HRCc := Lib.hid (HRCb.out.ext (by decide) hx)
                  have BWc := Lib.hid (BWb.out.ext hx)
                  have XWc := Lib.hid (XWb.out.trans hx)
                  have BHc := Lib.hid (BHb.out.ext hx)
                  have BKbc := Lib.hid (BKb.out.ext hx)
                  have HRbc := Lib.hid (HRb.out.ext (by decide) hx)
                  have BKac := Lib.hid (BKab.out.ext hx)
                  have HRac := Lib.hid (HRab.out.ext (by decide) hx)
                  have BKc := Lib.hid hb
                  have HRc := Lib.hid hr
                  clear hx hb hr HRAb HRCb BWb XWb BHb BKb HRb BKab HRab
                  obtain ⟨C3, hC3⟩ : ∃ C, hsC (hsS t xs) (.slice Ac nc kc) (xs.length : Nat) = C := ⟨_, rfl⟩
                  have HC3 := Lib.hid hC3
                  have HSZ3 := Lib.hid (show C3.size = 10 by rw [← hC3]; exact (stHs (hsS_length t xs) _ _ _ _).size)
                  rw [hC3] at BKc
                  clear hC3
                  clear HF3 HRCc HRbc
                  have HKO3 := Lib.hid (show ∀ W, RdL tByte W (fun _ => True) (.slice Ac nc kc) (hsH xs) → Calls Try.prog 18 #[.agg C3] W fun q w' => q = .returned (.tuple #[.agg (numsA .u8 K), .int .i64 0]) ∧ Ext W w' from fun W h => by
                    have := keyOf_hs t ⟨ht0, ht2⟩ xs _ (by omega) W _ h
                    rw [HKE.out, HC3.out] at this
                    exact this)
                  obtain ⟨K1, hK1⟩ : ∃ K1, hashL t d1 = K1 := ⟨_, rfl⟩
                  have HK1E := Lib.hid hK1
                  have hkl1 : K1.length = 32 := by rw [← hK1]; exact (hashL_ok t d1).1
                  have hst1 := St.nums (k := .u8) hkl1
                  have hsz1 := sizeN (k := .u8) hkl1
                  have HKO1 := Lib.hid (show ∀ W, RdL tByte W (fun _ => True) (.slice Aa na ka) (hsH d1) → Calls Try.prog 18 #[.agg C1] W fun q w' => q = .returned (.tuple #[.agg (numsA .u8 K1), .int .i64 0]) ∧ Ext W w' from fun W h => by
                    have := keyOf_hs t ⟨ht0, ht2⟩ d1 _ (by rw [L1.out]; omega) W _ h
                    rw [HK1E.out, HC1.out] at this
                    exact this)
                  have HHO := Lib.hid (show ∀ W, RdL tByte W (fun g => g < gS) (.slice Ad i cd) d1 → Calls Try.prog 12 #[.int .u8 t, .slice Ad i cd] W fun q w' => q = .returned (.tuple #[.agg (numsA .u8 K1), .int .i64 0]) ∧ Ext W w' from fun W h => by
                    have := hashOf_any t ⟨ht0, ht2⟩ _ d1 (by rw [L1.out]; omega) W _ h
                    rw [HK1E.out] at this
                    exact this)
                  have heq0 := run_eqKey K K (by rw [← HKE.out]; exact hashL_ok t xs) (by rw [← HKE.out]; exact hashL_ok t xs)
                  have heq1 := run_eqKey K1 K1 (by rw [← HK1E.out]; exact hashL_ok t d1) (by rw [← HK1E.out]; exact hashL_ok t d1)
                  simp only [decide_true] at heq0 heq1
                  clear hK1 hkl1
                  go_wp2_with (refine wpl_loadB BKc.out aggHs HSZ3.out rfl _ rfl rfl ?_)
                  refine (HKO3.out _ HRc.out).mono ?_
                  rintro e wF ⟨rfl, hx⟩
                  have hE := hx.trans (ext_alloc wF (.cells (numsA .u8 K) 28))
                  replace HRAc := Lib.hid (HRAc.out.ext (by decide) hE)
                  replace HRac := Lib.hid (HRac.out.ext (by decide) hE)
                  replace BWc := Lib.hid (BWc.out.ext hE)
                  replace XWc := Lib.hid (XWc.out.trans hE)
                  replace BHc := Lib.hid (BHc.out.ext hE)
                  replace BKac := Lib.hid (BKac.out.ext hE)
                  replace BKbc := Lib.hid (BKbc.out.ext hE)
                  replace BKc := Lib.hid (BKc.out.ext hE)
                  have BX := Lib.hid (Blk.new wF 28 (numsA .u8 K))
                  clear hx hE
                  go_wp2_with (first
                    | (refine wpl_storeNewB aggKey hst rfl rfl _ _ rfl rfl rfl rfl ?_)
                    | (refine wpl_loadB BKac.out aggHs HSZ1.out rfl _ rfl rfl ?_))
                  refine (HKO1.out _ HRac.out).mono ?_
                  rintro e wG ⟨rfl, hx⟩
                  have hE := hx.trans (ext_alloc wG (.cells (numsA .u8 K1) 28))
                  replace HRAc := Lib.hid (HRAc.out.ext (by decide) hE)
                  replace HRac := Lib.hid (HRac.out.ext (by decide) hE)
                  replace BWc := Lib.hid (BWc.out.ext hE)
                  replace XWc := Lib.hid (XWc.out.trans hE)
                  replace BHc := Lib.hid (BHc.out.ext hE)
                  replace BKac := Lib.hid (BKac.out.ext hE)
                  replace BKbc := Lib.hid (BKbc.out.ext hE)
                  replace BKc := Lib.hid (BKc.out.ext hE)
                  replace BX := Lib.hid (BX.out.ext hE)
                  have BY := Lib.hid (Blk.new wG 28 (numsA .u8 K1))
                  clear hx hE
                  go_wp2_with (first
                    | (refine wpl_storeNewB aggKey hst1 rfl rfl _ _ rfl rfl rfl rfl ?_))
                  refine (HHO.out _ HRAc.out).mono ?_
                  rintro e wH ⟨rfl, hx⟩
                  have hE := hx.trans (ext_alloc wH (.cells (numsA .u8 K1) 28))
                  replace HRAc := Lib.hid (HRAc.out.ext (by decide) hE)
                  replace HRac := Lib.hid (HRac.out.ext (by decide) hE)
                  replace BWc := Lib.hid (BWc.out.ext hE)
                  replace XWc := Lib.hid (XWc.out.trans hE)
                  replace BHc := Lib.hid (BHc.out.ext hE)
                  replace BKac := Lib.hid (BKac.out.ext hE)
                  replace BKbc := Lib.hid (BKbc.out.ext hE)
                  replace BKc := Lib.hid (BKc.out.ext hE)
                  replace BX := Lib.hid (BX.out.ext hE)
                  replace BY := Lib.hid (BY.out.ext hE)
                  have BZ := Lib.hid (Blk.new wH 28 (numsA .u8 K1))
                  clear hx hE
                  go_wp2_with (first
                    | (refine wpl_storeNewB aggKey hst1 rfl rfl _ _ rfl rfl rfl rfl ?_))
                  generalize wH.alloc (.cells (numsA .u8 K1) 28) = wI at HRAc HRac BWc XWc BHc BKac BKbc BKc BX BY BZ ⊢
                  have HVB := Lib.hid (show ∀ W, Calls Try.prog 19 #[.agg C2] W fun q w' => q = .returned (.bool true) ∧ Ext W w' from fun W => by
                    have := validHasher_any (hsS t d12) (hsS_length t d12) Ab nb kb d12.length (by rw [L12.out]; omega) HNB.out W
                    rw [HC2.out] at this
                    exact this)
                  have HSH := Lib.hid (show ∀ W, Calls Try.prog 16 #[.int .u8 t] W fun q w' => q = .returned (.agg C0) ∧ Ext W w' from fun W => by
                    have := startHasher_any t ⟨ht0, ht2⟩ W
                    rw [HC0.out] at this
                    exact this)
                  have HSA := Lib.hid (show ∀ W, Calls Try.prog 20 #[.agg C0, .agg C0] W fun q w' => q = .returned (.bool true) ∧ Ext W w' from fun W => by
                    have := sameHasher_any (startL t) (startL_length t) W
                    rw [HC0.out] at this
                    exact this)
                  have a9 : C3[9]? = some (.int .i64 (xs.length : Int)) := by rw [← HC3.out]; exact (hs_at (hsS_length t xs) _ _).2
                  have HA9 := Lib.hid a9
                  clear a9
                  refine wp_region_held_drew (S := fun W => Ext wI W) (by kernel_rfl) (Ext.refl _).drew (fun hHeld => ?_)
                  iterate 23
                    refine tkD 0 (by simp only [List.size_toArray, List.length_cons, List.length_nil]; rfl) (by simp only [List.getElem?_toArray, List.getElem?_cons_zero, List.getElem?_cons_succ]; rfl) (by kernel_rfl) (by exact fun _ _ _ h => h) (by first | (exact Or.inl ⟨by rfl, by intro w hSw; (try dsimp only at hSw); go_simp; with_reducible rfl⟩) | (exact Or.inr ⟨by rfl, by rfl⟩)) (by assumption) ?_
                    try simp only [Act.put, List.setIfInBounds_toArray, List.set_cons_zero, List.set_cons_succ]
                  refine tkI 23 (v := (.agg (numsA .u8 K))) (by simp only [List.getElem?_toArray, List.getElem?_cons_zero, List.getElem?_cons_succ]; rfl) (by kernel_rfl) (by exact fun _ _ _ h => h) (by refine yields_loadBSP (fun W hW => BX.out.ext hW) aggKey hsz ?_ _ rfl rfl; rfl) (by assumption) ?_
                  try simp only [Act.put, List.setIfInBounds_toArray, List.set_cons_zero, List.set_cons_succ]
                  refine tkI 24 (v := (.agg (numsA .u8 K))) (by simp only [List.getElem?_toArray, List.getElem?_cons_zero, List.getElem?_cons_succ]; rfl) (by kernel_rfl) (by exact fun _ _ _ h => h) (by refine yields_loadBSP (fun W hW => BWc.out.ext hW) aggKey hsz ?_ _ rfl rfl; rfl) (by assumption) ?_
                  try simp only [Act.put, List.setIfInBounds_toArray, List.set_cons_zero, List.set_cons_succ]
                  iterate 3
                    refine tkD 0 (by simp only [List.size_toArray, List.length_cons, List.length_nil]; rfl) (by simp only [List.getElem?_toArray, List.getElem?_cons_zero, List.getElem?_cons_succ]; rfl) (by kernel_rfl) (by exact fun _ _ _ h => h) (by first | (exact Or.inl ⟨by rfl, by intro w hSw; (try dsimp only at hSw); go_simp; with_reducible rfl⟩) | (exact Or.inr ⟨by rfl, by rfl⟩)) (by assumption) ?_
                    try simp only [Act.put, List.setIfInBounds_toArray, List.set_cons_zero, List.set_cons_succ]
                  refine tkI 28 (v := (.agg (numsA .u8 K1))) (by simp only [List.getElem?_toArray, List.getElem?_cons_zero, List.getElem?_cons_succ]; rfl) (by kernel_rfl) (by exact fun _ _ _ h => h) (by refine yields_loadBSP (fun W hW => BY.out.ext hW) aggKey hsz1 ?_ _ rfl rfl; rfl) (by assumption) ?_
                  try simp only [Act.put, List.setIfInBounds_toArray, List.set_cons_zero, List.set_cons_succ]
                  refine tkI 29 (v := (.agg (numsA .u8 K1))) (by simp only [List.getElem?_toArray, List.getElem?_cons_zero, List.getElem?_cons_succ]; rfl) (by kernel_rfl) (by exact fun _ _ _ h => h) (by refine yields_loadBSP (fun W hW => BZ.out.ext hW) aggKey hsz1 ?_ _ rfl rfl; rfl) (by assumption) ?_
                  try simp only [Act.put, List.setIfInBounds_toArray, List.set_cons_zero, List.set_cons_succ]
                  iterate 3
                    refine tkD 0 (by simp only [List.size_toArray, List.length_cons, List.length_nil]; rfl) (by simp only [List.getElem?_toArray, List.getElem?_cons_zero, List.getElem?_cons_succ]; rfl) (by kernel_rfl) (by exact fun _ _ _ h => h) (by first | (exact Or.inl ⟨by rfl, by intro w hSw; (try dsimp only at hSw); go_simp; with_reducible rfl⟩) | (exact Or.inr ⟨by rfl, by rfl⟩)) (by assumption) ?_
                    try simp only [Act.put, List.setIfInBounds_toArray, List.set_cons_zero, List.set_cons_succ]
                  refine tkI 33 (v := (.agg C2)) (by simp only [List.getElem?_toArray, List.getElem?_cons_zero, List.getElem?_cons_succ]; rfl) (by kernel_rfl) (by exact fun _ _ _ h => h) (by refine yields_loadBSP (fun W hW => BKbc.out.ext hW) aggHs HSZ2.out ?_ _ rfl rfl; rfl) (by assumption) ?_
                  try simp only [Act.put, List.setIfInBounds_toArray, List.set_cons_zero, List.set_cons_succ]
                  refine wpAnyH_ready (rs := [34]) (by kernel_rfl) (by simp) (AllReadyH.cons (o := ?oy9434) ?hy9434 (fun K hK => ?sy9434) AllReadyH.nil)
                  case hy9434 => simp only [List.getElem?_toArray, List.getElem?_cons_zero, List.getElem?_cons_succ]; rfl
                  go_simp
                  refine (HVB.out _).mono ?_
                  rintro e wJ ⟨rfl, hx⟩
                  have hH2 := hHeld.trans hx
                  refine hK.out _ _ hH2 (fun _ => ?_)
                  clear hHeld hK K
                  have hHeld := hH2
                  clear hH2
                  try simp only [Act.put, List.setIfInBounds_toArray, List.set_cons_zero, List.set_cons_succ]
                  iterate 2
                    refine tkD 0 (by simp only [List.size_toArray, List.length_cons, List.length_nil]; rfl) (by simp only [List.getElem?_toArray, List.getElem?_cons_zero, List.getElem?_cons_succ]; rfl) (by kernel_rfl) (by exact fun _ _ _ h => h) (by first | (exact Or.inl ⟨by rfl, by intro w hSw; (try dsimp only at hSw); go_simp; with_reducible rfl⟩) | (exact Or.inr ⟨by rfl, by rfl⟩)) (by assumption) ?_
                    try simp only [Act.put, List.setIfInBounds_toArray, List.set_cons_zero, List.set_cons_succ]
                  refine tkI 37 (v := (.agg C0)) (by simp only [List.getElem?_toArray, List.getElem?_cons_zero, List.getElem?_cons_succ]; rfl) (by kernel_rfl) (by exact fun _ _ _ h => h) (by refine yields_loadBSP (fun W hW => BHc.out.ext hW) aggHs HSZ0.out ?_ _ rfl rfl; rfl) (by assumption) ?_
                  try simp only [Act.put, List.setIfInBounds_toArray, List.set_cons_zero, List.set_cons_succ]
                  refine tkI 38 (by simp only [List.getElem?_toArray, List.getElem?_cons_zero, List.getElem?_cons_succ]; rfl) (by kernel_rfl) (by exact fun _ _ _ h => h) (by first | (exact Or.inl ⟨by rfl, by intro w hSw; (try dsimp only at hSw); go_simp; with_reducible rfl⟩) | (exact Or.inr ⟨by rfl, by rfl⟩)) (by assumption) ?_
                  try simp only [Act.put, List.setIfInBounds_toArray, List.set_cons_zero, List.set_cons_succ]
                  refine wpAnyH_ready (rs := [39]) (by kernel_rfl) (by simp) (AllReadyH.cons (o := ?oy9939) ?hy9939 (fun K hK => ?sy9939) AllReadyH.nil)
                  case hy9939 => simp only [List.getElem?_toArray, List.getElem?_cons_zero, List.getElem?_cons_succ]; rfl
                  go_simp
                  refine (HSH.out _).mono ?_
                  rintro e wK ⟨rfl, hx⟩
                  have hH2 := hHeld.trans hx
                  refine hK.out _ _ hH2 (fun _ => ?_)
                  clear hHeld hK K
                  have hHeld := hH2
                  clear hH2
                  try simp only [Act.put, List.setIfInBounds_toArray, List.set_cons_zero, List.set_cons_succ]
                  refine wpAnyH_ready (rs := [40]) (by kernel_rfl) (by simp) (AllReadyH.cons (o := ?oy10040) ?hy10040 (fun K hK => ?sy10040) AllReadyH.nil)
                  case hy10040 => simp only [List.getElem?_toArray, List.getElem?_cons_zero, List.getElem?_cons_succ]; rfl
                  go_simp
                  refine (HSA.out _).mono ?_
                  rintro e wL ⟨rfl, hx⟩
                  have hH2 := hHeld.trans hx
                  refine hK.out _ _ hH2 (fun _ => ?_)
                  clear hHeld hK K
                  have hHeld := hH2
                  clear hH2
                  try simp only [Act.put, List.setIfInBounds_toArray, List.set_cons_zero, List.set_cons_succ]
                  iterate 3
                    refine tkD 0 (by simp only [List.size_toArray, List.length_cons, List.length_nil]; rfl) (by simp only [List.getElem?_toArray, List.getElem?_cons_zero, List.getElem?_cons_succ]; rfl) (by kernel_rfl) (by exact fun _ _ _ h => h) (by first | (exact Or.inl ⟨by rfl, by intro w hSw; (try dsimp only at hSw); go_simp; with_reducible rfl⟩) | (exact Or.inr ⟨by rfl, by rfl⟩)) (by assumption) ?_
                    try simp only [Act.put, List.setIfInBounds_toArray, List.set_cons_zero, List.set_cons_succ]
                  refine tkI 44 (by simp only [List.getElem?_toArray, List.getElem?_cons_zero, List.getElem?_cons_succ]; rfl) (by kernel_rfl) (by exact fun _ _ _ h => h) (by exact Or.inl ⟨by rfl, by intro W hSw; have e9 := (BKc.out.ext hSw).at_ 9 HA9.out; go_simp; with_reducible rfl⟩) (by assumption) ?_
                  try simp only [Act.put, List.setIfInBounds_toArray, List.set_cons_zero, List.set_cons_succ]
                  iterate 5
                    refine tkD 0 (by simp only [List.size_toArray, List.length_cons, List.length_nil]; rfl) (by simp only [List.getElem?_toArray, List.getElem?_cons_zero, List.getElem?_cons_succ]; rfl) (by kernel_rfl) (by exact fun _ _ _ h => h) (by first | (exact Or.inl ⟨by rfl, by intro w hSw; (try dsimp only at hSw); go_simp; with_reducible rfl⟩) | (exact Or.inr ⟨by rfl, by rfl⟩)) (by assumption) ?_
                    try simp only [Act.put, List.setIfInBounds_toArray, List.set_cons_zero, List.set_cons_succ]
                  refine wpAnyH_done (by kernel_rfl) ?_ _
                  have XF := Lib.hid (XWc.out.trans hHeld)
                  clear hHeld
                  go_wp2
                  go_ret
                  exact ⟨rfl, XF.out⟩
end Go.Proofs.Ytdjclllnmclocaa
